/- Distances in a graph: what they are, and two searches that find them. Conditions: none. -/
import Derived.Test.YtiepojpebndgoaaTpGraph
namespace Go.GX.Tp
open Go.GX
set_option linter.unusedVariables false
set_option linter.unusedSectionVars false
set_option linter.unusedSimpArgs false
structure IsDist (l : List Ed) (src : Int) (D : Int → Option Nat) : Prop where
  zero : ∀ n, D n = some 0 ↔ (n = src ∧ okN src = true)
  pre : ∀ n k, D n = some (k + 1) → ∃ m, linked l m n = true ∧ D m = some k
  step : ∀ m n k, linked l m n = true → D m = some k → ∃ j, j ≤ k + 1 ∧ D n = some j
theorem IsDist.le {l : List Ed} {src : Int} {D D' : Int → Option Nat} (h : IsDist l src D) (h' : IsDist l src D') : ∀ (k : Nat) (n : Int), D n = some k → ∃ j, j ≤ k ∧ D' n = some j
  | 0, n, hn => ⟨0, Nat.le_refl _, (h'.zero n).2 ((h.zero n).1 hn)⟩
  | k + 1, n, hn => by
    obtain ⟨m, hl, hm⟩ := h.pre n k hn
    obtain ⟨j, hj, hd⟩ := IsDist.le h h' k m hm
    obtain ⟨i, hi, hd2⟩ := h'.step m n j hl hd
    exact ⟨i, by omega, hd2⟩
theorem IsDist.unique {l : List Ed} {src : Int} {D D' : Int → Option Nat} (h : IsDist l src D) (h' : IsDist l src D') : D = D' := by
  funext n
  cases hn : D n with
  | none =>
    cases hn' : D' n with
    | none => rfl
    | some k => obtain ⟨j, _, hj⟩ := h'.le h k n hn'; rw [hn] at hj; cases hj
  | some k =>
    obtain ⟨j, hj, hd⟩ := h.le h' k n hn
    obtain ⟨i, hi, hd2⟩ := h'.le h j n hd
    rw [hn] at hd2; cases hd2
    rw [hd]; congr 1; omega
theorem IsDist.okn {l : List Ed} {src : Int} {D : Int → Option Nat} (h : IsDist l src D) {n : Int} {k : Nat} (hn : D n = some k) : okN n = true := by
  cases k with
  | zero => obtain ⟨e, h2⟩ := (h.zero n).1 hn; subst e; exact h2
  | succ k => obtain ⟨m, hl, _⟩ := h.pre n k hn; exact (linked_ok hl).2.1
theorem IsDist.down {l : List Ed} {src : Int} {D : Int → Option Nat} (h : IsDist l src D) : ∀ (k : Nat) (n : Int), D n = some k → ∀ j, j ≤ k → ∃ m, D m = some j
  | 0, n, hn, j, hj => ⟨n, by have : j = 0 := by omega
                              rw [this]; exact hn⟩
  | k + 1, n, hn, j, hj => by
    by_cases e : j = k + 1
    · exact ⟨n, e ▸ hn⟩
    · obtain ⟨m, _, hm⟩ := h.pre n k hn
      exact IsDist.down h k m hm j (by omega)
/-- Chains down to 0 that stay among the nodes: at most 250 long. -/
theorem chain_le {D : Int → Option Nat} (ok : ∀ n k, D n = some k → okN n = true) {k : Nat} (hd : ∀ j, j ≤ k → ∃ m, D m = some j) : k ≤ 250 := by
  have h1 : ((List.range (k + 1)).map some).Nodup := by
    rw [List.nodup_iff_pairwise_ne, List.pairwise_map]
    exact (List.nodup_range (n := k + 1)).imp fun h e => h (by simpa using e)
  have h2 : ((List.range (k + 1)).map some).Subset (nodes.map D) := by
    intro x hx
    obtain ⟨j, hj, rfl⟩ := List.mem_map.1 hx
    obtain ⟨m, hm⟩ := hd j (by have := List.mem_range.1 hj; omega)
    exact List.mem_map.2 ⟨m, mem_nodes.2 (ok m j hm), hm⟩
  have := List.Nodup.length_le_of_subset h1 h2
  simp [nodes] at this
  omega
theorem IsDist.bound {l : List Ed} {src : Int} {D : Int → Option Nat} (h : IsDist l src D) {n : Int} {k : Nat} (hn : D n = some k) : k ≤ 250 :=
  chain_le (fun n k hn => h.okn hn) (h.down k n hn)
theorem IsDist.none {l : List Ed} {src : Int} (h : okN src = false) : IsDist l src fun _ => none :=
  ⟨fun n => by simp [h], fun n k h => (by cases h), fun m n k _ h => by cases h⟩

/-- The search with a queue. -/
structure Bfs (l : List Ed) (src : Int) (D : Int → Option Nat) (q : List Int) (cur : Option Int) (h : Nat) : Prop where
  zero : ∀ n, D n = some 0 ↔ n = src
  node : ∀ n k, D n = some k → okN n = true
  pre : ∀ n k, D n = some (k + 1) → ∃ m, linked l m n = true ∧ D m = some k
  done : ∀ m n k, linked l m n = true → D m = some k → m ∉ q → cur ≠ some m → ∃ j, j ≤ k + 1 ∧ D n = some j
  q12 : ∃ q1 q2, q = q1 ++ q2 ∧ (∀ m ∈ q1, D m = some h) ∧ (∀ m ∈ q2, D m = some (h + 1))
  curh : ∀ c, cur = some c → D c = some h
  bound : ∀ n k, D n = some k → k ≤ h + 1
def updD (D : Int → Option Nat) (x : Int) (k : Nat) : Int → Option Nat := fun n => if n = x then some k else D n
theorem Bfs.start {l : List Ed} {src : Int} (hok : okN src = true) : Bfs l src (updD (fun _ => .none) src 0) [src] .none 0 := by
  refine ⟨fun n => ?_, fun n k h => ?_, fun n k h => ?_, fun m n k hl hm hq hc => ?_, ⟨[src], [], rfl, fun m hm => ?_, fun m hm => by cases hm⟩, fun c h => (by cases h), fun n k h => ?_⟩
  · simp [updD]
  · simp only [updD] at h; split at h
    · rename_i e; rw [e]; exact hok
    · cases h
  · simp only [updD] at h; split at h <;> cases h
  · simp only [updD] at hm; split at hm
    · rename_i e; subst e; simp at hq
    · cases hm
  · simp at hm; simp [updD, hm]
  · simp only [updD] at h; split at h
    · cases h; omega
    · cases h
theorem Bfs.pop {l : List Ed} {src c : Int} {D : Int → Option Nat} {q : List Int} {h : Nat} (hb : Bfs l src D (c :: q) .none h) : ∃ h', Bfs l src D q (some c) h' ∧ D c = some h' := by
  have hdone : ∀ m n k, linked l m n = true → D m = some k → m ∉ q → some c ≠ some m → ∃ j, j ≤ k + 1 ∧ D n = some j := fun m n k hl hm hq hc =>
    hb.done m n k hl hm (fun hm' => by rcases List.mem_cons.1 hm' with e | e; exact hc (by rw [e]); exact hq e) (by nofun)
  obtain ⟨q1, q2, e, h1, h2⟩ := hb.q12
  cases q1 with
  | nil =>
    simp only [List.nil_append] at e
    subst e
    have hc := h2 c (List.mem_cons_self ..)
    exact ⟨h + 1, ⟨hb.zero, hb.node, hb.pre, hdone, ⟨q, [], by simp, fun m hm => h2 m (List.mem_cons_of_mem _ hm), fun m hm => by cases hm⟩, fun c' e => by cases e; exact hc, fun n k hn => by have := hb.bound n k hn; omega⟩, hc⟩
  | cons c' q1 =>
    simp only [List.cons_append, List.cons.injEq] at e
    obtain ⟨rfl, rfl⟩ := e
    have hc := h1 c (List.mem_cons_self ..)
    exact ⟨h, ⟨hb.zero, hb.node, hb.pre, hdone, ⟨q1, q2, rfl, fun m hm => h1 m (List.mem_cons_of_mem _ hm), h2⟩, fun c' e => by cases e; exact hc, hb.bound⟩, hc⟩
theorem Bfs.push {l : List Ed} {src c x : Int} {D : Int → Option Nat} {q : List Int} {h : Nat} (hb : Bfs l src D q (some c) h) (hx : D x = .none) (hl : linked l c x = true) : Bfs l src (updD D x (h + 1)) (q ++ [x]) (some c) h := by
  have hc := hb.curh c rfl
  have keep : ∀ {n k}, D n = some k → updD D x (h + 1) n = some k := by
    intro n k hn
    unfold updD
    rw [if_neg (fun e => by rw [e, hx] at hn; cases hn)]; exact hn
  have inv : ∀ {n k}, updD D x (h + 1) n = some k → (n = x ∧ k = h + 1) ∨ D n = some k := by
    intro n k hn
    unfold updD at hn
    split at hn
    · rename_i e; cases hn; exact .inl ⟨e, rfl⟩
    · exact .inr hn
  refine ⟨fun n => ?_, fun n k hn => ?_, fun n k hn => ?_, fun m n k hl' hm hq hcm => ?_, ?_, fun c' e => by cases e; exact keep hc, fun n k hn => ?_⟩
  · rw [← hb.zero]
    constructor
    · intro hn; rcases inv hn with ⟨_, e⟩ | hn
      · omega
      · exact hn
    · exact keep
  · rcases inv hn with ⟨e, _⟩ | hn
    · subst e; exact (linked_ok hl).2.1
    · exact hb.node n k hn
  · rcases inv hn with ⟨e1, e2⟩ | hn
    · subst e1; have : k = h := by omega
      subst this; exact ⟨c, hl, keep hc⟩
    · obtain ⟨m, h1, h2⟩ := hb.pre n k hn; exact ⟨m, h1, keep h2⟩
  · simp only [List.mem_append, List.mem_singleton, not_or] at hq
    rcases inv hm with ⟨e, _⟩ | hm
    · exact absurd e hq.2
    · obtain ⟨j, h1, h2⟩ := hb.done m n k hl' hm hq.1 hcm
      exact ⟨j, h1, keep h2⟩
  · obtain ⟨q1, q2, e, h1, h2⟩ := hb.q12
    refine ⟨q1, q2 ++ [x], by rw [e, List.append_assoc], fun m hm => keep (h1 m hm), fun m hm => ?_⟩
    rcases List.mem_append.1 hm with hm | hm
    · exact keep (h2 m hm)
    · simp at hm; subst hm; simp [updD]
  · rcases inv hn with ⟨_, e⟩ | hn
    · omega
    · exact hb.bound n k hn
theorem Bfs.next {l : List Ed} {src c : Int} {D : Int → Option Nat} {q : List Int} {h : Nat} (hb : Bfs l src D q (some c) h) (hall : ∀ x, linked l c x = true → D x ≠ .none) : Bfs l src D q .none h := by
  refine ⟨hb.zero, hb.node, hb.pre, fun m n k hl hm hq _ => ?_, hb.q12, fun c h => (by cases h), hb.bound⟩
  by_cases e : m = c
  · subst e
    have hc := hb.curh m rfl
    rw [hc] at hm; cases hm
    cases hn : D n with
    | none => exact absurd hn (hall n hl)
    | some j => exact ⟨j, hb.bound n j hn, rfl⟩
  · exact hb.done m n k hl hm hq (fun e' => e (by cases e'; rfl))
theorem Bfs.final {l : List Ed} {src : Int} {D : Int → Option Nat} {h : Nat} (hok : okN src = true) (hb : Bfs l src D [] .none h) : IsDist l src D :=
  ⟨fun n => by rw [hb.zero]; exact ⟨fun e => ⟨e, hok⟩, fun e => e.1⟩, hb.pre, fun m n k hl hm => hb.done m n k hl hm (by simp) (by nofun)⟩
theorem Bfs.bound250 {l : List Ed} {src : Int} {D : Int → Option Nat} {q : List Int} {cur : Option Int} {h : Nat} (hb : Bfs l src D q cur h) {n : Int} {k : Nat} (hn : D n = some k) : k ≤ 250 := by
  refine chain_le hb.node ?_
  have : ∀ (k : Nat) (n : Int), D n = some k → ∀ j, j ≤ k → ∃ m, D m = some j := by
    intro k
    induction k with
    | zero => intro n hn j hj; exact ⟨n, by have : j = 0 := by omega
                                            rw [this]; exact hn⟩
    | succ k ih =>
      intro n hn j hj
      by_cases e : j = k + 1
      · exact ⟨n, e ▸ hn⟩
      · obtain ⟨m, _, hm⟩ := hb.pre n k hn
        exact ih m hm j (by omega)
  exact this k n hn

/-- The search by rounds: s rounds are over. -/
structure Rnd (l : List Ed) (src : Int) (D : Int → Option Nat) (s : Nat) : Prop where
  zero : ∀ n, D n = some 0 ↔ n = src
  node : ∀ n k, D n = some k → okN n = true
  pre : ∀ n k, D n = some (k + 1) → ∃ m, linked l m n = true ∧ D m = some k
  done : ∀ m n k, linked l m n = true → D m = some k → k < s → ∃ j, j ≤ k + 1 ∧ D n = some j
/-- In round s, i edges are over. -/
structure RndE (l : List Ed) (src : Int) (D : Int → Option Nat) (s i : Nat) : Prop where
  base : Rnd l src D s
  bound : ∀ n k, D n = some k → k ≤ s + 1
  edges : ∀ e ∈ l.take i, okE e = true → (D e.a = some s → D e.b ≠ .none) ∧ (D e.b = some s → D e.a ≠ .none)
theorem Rnd.start {l : List Ed} {src : Int} (hok : okN src = true) : Rnd l src (updD (fun _ => .none) src 0) 0 := by
  refine ⟨fun n => ?_, fun n k h => ?_, fun n k h => ?_, fun m n k _ _ hk => by omega⟩
  · simp [updD]
  · simp only [updD] at h; split at h
    · rename_i e; rw [e]; exact hok
    · cases h
  · simp only [updD] at h; split at h <;> cases h
theorem RndE.relax {l : List Ed} {src a b : Int} {D : Int → Option Nat} {s i : Nat} (h : RndE l src D s i) (hl : linked l a b = true) (ha : D a = some s) (hb : D b = .none) : RndE l src (updD D b (s + 1)) s i := by
  have keep : ∀ {n k}, D n = some k → updD D b (s + 1) n = some k := by
    intro n k hn
    unfold updD
    rw [if_neg (fun e => by rw [e, hb] at hn; cases hn)]; exact hn
  have inv : ∀ {n k}, updD D b (s + 1) n = some k → (n = b ∧ k = s + 1) ∨ D n = some k := by
    intro n k hn
    unfold updD at hn
    split at hn
    · rename_i e; cases hn; exact .inl ⟨e, rfl⟩
    · exact .inr hn
  have keepN : ∀ {n}, D n ≠ .none → updD D b (s + 1) n ≠ .none := by
    intro n hn
    cases e : D n with
    | none => exact absurd e hn
    | some k => rw [keep e]; nofun
  refine ⟨⟨fun n => ?_, fun n k hn => ?_, fun n k hn => ?_, fun m n k hl' hm hk => ?_⟩, fun n k hn => ?_, fun e he hok => ?_⟩
  · rw [← h.base.zero]
    constructor
    · intro hn; rcases inv hn with ⟨_, e⟩ | hn
      · omega
      · exact hn
    · exact keep
  · rcases inv hn with ⟨e, _⟩ | hn
    · subst e; exact (linked_ok hl).2.1
    · exact h.base.node n k hn
  · rcases inv hn with ⟨e1, e2⟩ | hn
    · subst e1; have : k = s := by omega
      subst this; exact ⟨a, hl, keep ha⟩
    · obtain ⟨m, h1, h2⟩ := h.base.pre n k hn; exact ⟨m, h1, keep h2⟩
  · rcases inv hm with ⟨_, e⟩ | hm
    · omega
    · obtain ⟨j, h1, h2⟩ := h.base.done m n k hl' hm hk
      exact ⟨j, h1, keep h2⟩
  · rcases inv hn with ⟨_, e⟩ | hn
    · omega
    · exact h.bound n k hn
  · obtain ⟨g1, g2⟩ := h.edges e he hok
    refine ⟨fun hn => ?_, fun hn => ?_⟩
    · rcases inv hn with ⟨_, e'⟩ | hn
      · omega
      · exact keepN (g1 hn)
    · rcases inv hn with ⟨_, e'⟩ | hn
      · omega
      · exact keepN (g2 hn)
theorem RndE.edge {l : List Ed} {src : Int} {D : Int → Option Nat} {s i : Nat} {e : Ed} (h : RndE l src D s i) (he : l[i]? = some e) (hs : okE e = true → (D e.a = some s → D e.b ≠ .none) ∧ (D e.b = some s → D e.a ≠ .none)) : RndE l src D s (i + 1) := by
  refine ⟨h.base, h.bound, fun e' he' hok => ?_⟩
  rw [take_succ_get he] at he'
  rcases List.mem_append.1 he' with h1 | h1
  · exact h.edges e' h1 hok
  · simp at h1; subst h1; exact hs hok
theorem RndE.first {l : List Ed} {src : Int} {D : Int → Option Nat} {s : Nat} (h : Rnd l src D s) (hb : ∀ n k, D n = some k → k ≤ s + 1) : RndE l src D s 0 := ⟨h, hb, fun e he => by simp at he⟩
theorem RndE.last {l : List Ed} {src : Int} {D : Int → Option Nat} {s : Nat} (h : RndE l src D s l.length) : Rnd l src D (s + 1) := by
  refine ⟨h.base.zero, h.base.node, h.base.pre, fun m n k hl hm hk => ?_⟩
  by_cases e : k < s
  · exact h.base.done m n k hl hm e
  · have : k = s := by omega
    subst this
    obtain ⟨e, he, hok, hab⟩ := linked_iff.1 hl
    have h3 := h.edges e (by rw [List.take_length]; exact he) hok
    have hn : D n ≠ .none := by
      rcases hab with rfl | rfl
      · exact h3.1 hm
      · exact h3.2 hm
    cases hn' : D n with
    | none => exact absurd hn' hn
    | some j => exact ⟨j, h.bound n j hn', rfl⟩
theorem Rnd.final {l : List Ed} {src : Int} {D : Int → Option Nat} (hok : okN src = true) (h : Rnd l src D 251) : IsDist l src D := by
  have down : ∀ (k : Nat) (n : Int), D n = some k → ∀ j, j ≤ k → ∃ m, D m = some j := by
    intro k
    induction k with
    | zero => intro n hn j hj; exact ⟨n, by have : j = 0 := by omega
                                            rw [this]; exact hn⟩
    | succ k ih =>
      intro n hn j hj
      by_cases e : j = k + 1
      · exact ⟨n, e ▸ hn⟩
      · obtain ⟨m, _, hm⟩ := h.pre n k hn
        exact ih m hm j (by omega)
  exact ⟨fun n => by rw [h.zero]; exact ⟨fun e => ⟨e, hok⟩, fun e => e.1⟩, h.pre, fun m n k hl hm => h.done m n k hl hm (by have := chain_le h.node (down k m hm); omega)⟩

/-- The distances. -/
noncomputable def dist (l : List Ed) (src : Int) : Int → Option Nat := by
  classical exact if h : ∃ D, IsDist l src D then h.choose else fun _ => .none
theorem IsDist.eq {l : List Ed} {src : Int} {D : Int → Option Nat} (h : IsDist l src D) : dist l src = D := by
  have hx : ∃ D, IsDist l src D := ⟨D, h⟩
  have : dist l src = hx.choose := by unfold dist; rw [dif_pos hx]
  rw [this]
  exact hx.choose_spec.unique h
end Go.GX.Tp
