/- Slices as views of a block: reading, appending, cutting. Conditions: as each says. -/
import Derived.Test.YtiepojpebndgoaaGxHeap
namespace Go.GX
open Go.RowKit
set_option linter.unusedVariables false
set_option linter.unusedSectionVars false
set_option linter.unusedSimpArgs false

/-- A slice that can be read, with its capacity in order. -/
def Sl (w : World) (v : Value) (cs : List Value) (n : Nat) : Prop := IsSl w v cs n ∧ ∃ a c, v = .slice a n c ∧ n ≤ c

/-- A slice into a block that may be written. -/
def Vw (w : World) (v : Value) (e sz n : Nat) (xs : List Value) : Prop :=
  xs.length = n * sz ∧ ((v = .slice none 0 0 ∧ n = 0) ∨ ∃ g off cap cur, v = .slice (some ⟨g, off, none⟩) n cap ∧ w.heap[g]? = some (.cells cur e (0, 0)) ∧ n ≤ cap ∧ cap ≤ maxLen ∧ off + cap * sz ≤ cur.size ∧ (cur.toList.drop off).take (n * sz) = xs)

theorem Vw.of_own {w : World} {B e sz n : Nat} {v : Value} {xs : List Value} (h : w.ownsRow B e sz v n xs) : Vw w v e sz n xs := by
  refine ⟨h.1, ?_⟩
  rcases h.2 with h' | ⟨g, cap, cur, hv, h1, h2, h3, h4, h5, h6⟩
  · exact .inl h'
  · exact .inr ⟨g, 0, cap, cur, hv, h2, h3, h4, by omega, by simpa using h6⟩

theorem Vw.sl {w : World} {e sz n : Nat} {v : Value} {xs : List Value} (h : Vw w v e sz n xs) : Sl w v xs n := by
  rcases h with ⟨hl, ⟨rfl, rfl⟩ | ⟨g, off, cap, cur, rfl, h2, h3, h4, h5, h6⟩⟩
  · have : xs = [] := List.eq_nil_of_length_eq_zero (by simpa using hl)
    subst this
    exact ⟨IsSl.nil w, none, 0, rfl, Nat.le_refl _⟩
  · refine ⟨.inr ⟨g, off, cap, rfl, fun j u hu => ?_⟩, _, cap, rfl, h3⟩
    rw [cell_of_row w g (off + j) cur e (0, 0) h2]
    rw [← h6, List.getElem?_take] at hu
    split at hu
    · simpa using hu
    · cases hu

def ownC (v : Value) (e sz n : Nat) (xs : List Value) : Chunk where
  foot := fun k => v.ownBlock = some k
  p := fun w => Vw w v e sz n xs
  loc := fun w w' h hp => by
    refine ⟨hp.1, ?_⟩
    rcases hp.2 with h' | ⟨g, off, cap, cur, rfl, h1, h2⟩
    · exact .inl h'
    · exact .inr ⟨g, off, cap, cur, rfl, by rw [h g rfl]; exact h1, h2⟩
  lt := fun w hp k hk => by
    rcases hp.2 with ⟨rfl, _⟩ | ⟨g, off, cap, cur, rfl, h1, h2⟩
    · cases hk
    · cases hk; exact (Array.getElem?_eq_some_iff.1 h1).1

theorem OwnS.sat {w w' : World} {e sz n : Nat} {v : Value} {xs : List Value} (h : OwnS w w' e sz v n xs) : Sat (base w) [ownC v e sz n xs] w' :=
  (Sat.start w).push h.below (Vw.of_own h.own) (ownsRow_ge h.own)

theorem Sl.ext {w w' : World} {v : Value} {cs : List Value} {n : Nat} (h : Sl w v cs n) (hb : Below w.heap.size w w') : Sl w' v cs n := ⟨h.1.ext hb, h.2⟩
theorem Sl.nil (w : World) : Sl w (.slice none 0 0) [] 0 := ⟨IsSl.nil w, none, 0, rfl, Nat.le_refl _⟩

section
variable {P : Program} {N : Nat} {σ : Store} {w w' : World} {ops l : List Oper} {K : Act → World → Prop} {d : Nat} {ty : TypeId} {pos : String} {af : Array Edge} {gd : Option (Nat × Bool)} {v u : Value} {cs : List Value} {n : Nat} {t e : TypeId} {sz bytes : Nat}

theorem run_append_roomV (t ty e : TypeId) (i : TypeInfo) (ht : P.underlying t = some (.slice e)) (hi : P.info? e = some i)
    (g off sLen sCap : Nat) (cur : Array Value) (hg : w.heap[g]? = some (.cells cur e (0, 0)))
    (a : Addr) (m c : Nat) (news : List Value) (hl : news.length = m * i.size) (hnews : ∀ j u, news[j]? = some u → w.cell? (a.add j) = some u) (h1 : ∀ u ∈ news, u.oneCell' = true)
    (hroom : sLen + m ≤ sCap) (hfit : off + sLen * i.size + news.length ≤ cur.size) :
    (Builtin.append_ #[t, t] ty #[.slice (some ⟨g, off, none⟩) sLen sCap, .slice (some a) m c]).run P w =
      .ok (.slice (some ⟨g, off, none⟩) (sLen + m) sCap) (w.setRow g (cur.toList.take (off + sLen * i.size) ++ news ++ cur.toList.drop (off + sLen * i.size + news.length)).toArray) := by
  have hf := run_firstCells_some (P := P) w i.size m a m c news hl hnews
  have hst := run_storeCells_at P g (off + sLen * i.size) e news 0 cur w hg (by simpa using hfit) h1
  simp only [Nat.add_zero] at hst
  have hadd : (⟨g, off, none⟩ : Addr).add (sLen * i.size) = ⟨g, off + sLen * i.size, none⟩ := by unfold Addr.add; split <;> simp_all
  simp [Builtin.append_, run_underlying ht, sizeOf, typeInfo, hi, Builtin.lenOf, hroom, hf, hadd, hst]

theorem run_append_vw (hE : Elem P t e sz bytes) {xs : List Value} (hown : Vw w v e sz n xs) {v2 : Value} {m : Nat} {news : List Value} (hv2 : IsSl w v2 news m) (hl : news.length = m * sz) (h1 : ∀ u ∈ news, u.oneCell' = true)
    (hb : (n + m) * bytes ≤ 140737488355328) (h63 : n + m ≤ 9223372036854775807) :
    ∃ v' w', (Builtin.append_ #[t, t] ty #[v, v2]).run P w = .ok v' w' ∧ Vw w' v' e sz (n + m) (xs ++ news) ∧ w.grownBy w' v.ownBlock ∧ (∀ k, v'.ownBlock = some k → v.ownBlock = some k ∨ w.heap.size ≤ k) := by
  obtain ⟨i, z, g1, g2, g3, g4, g5⟩ := hE.info
  have same : ∀ {n0 : Nat}, Vw w v e sz n0 xs → m = 0 → news = [] → Vw w v e sz (n0 + m) (xs ++ news) := by
    intro n0 h hm hn; subst hm; subst hn; simpa using h
  rcases hv2 with ⟨hv2, rfl, rfl⟩ | ⟨b, off2, cap2, rfl, hc⟩
  · refine ⟨v, w, ?_, same hown rfl rfl, grownBy_refl _ _, fun k hk => .inl hk⟩
    rcases hown.2 with ⟨rfl, rfl⟩ | ⟨g, off, cap, cur, rfl, _, hnc, _⟩
    · rcases hv2 with rfl | ⟨a, c, rfl⟩
      · simp [Builtin.append_, run_underlying hE.slice, sizeOf, typeInfo, g1, Builtin.lenOf, Builtin.firstCells]
      · simp [Builtin.append_, run_underlying hE.slice, sizeOf, typeInfo, g1, Builtin.lenOf, Builtin.firstCells, loadCells, loadCellsFrom]
    · rcases hv2 with rfl | ⟨a, c, rfl⟩
      · simp [Builtin.append_, run_underlying hE.slice, sizeOf, typeInfo, g1, Builtin.lenOf, Builtin.firstCells, hnc, storeCells]
      · simp [Builtin.append_, run_underlying hE.slice, sizeOf, typeInfo, g1, Builtin.lenOf, Builtin.firstCells, loadCells, loadCellsFrom, hnc, storeCells]
  · have hadd : ∀ j, (⟨b, off2, none⟩ : Addr).add j = ⟨b, off2 + j, none⟩ := fun j => by unfold Addr.add; split <;> simp_all
    have hnews : ∀ j u, news[j]? = some u → w.cell? ((⟨b, off2, none⟩ : Addr).add j) = some u := fun j u hu => by rw [hadd]; exact hc j u hu
    subst g3
    subst g4
    have hlen : (xs ++ news).length = (n + m) * i.size := by rw [List.length_append, hown.1, hl, Nat.add_mul]
    have grown : ∀ (old : Nat), old < n + m → ∀ (row : Option Nat),
        Vw (w.drew.alloc (.cells (xs.toArray ++ news.toArray ++ Builtin.zeroCells z.cells (grownCap w (n + m) old e - (n + m))) e))
          (.slice (some ⟨w.heap.size, 0, none⟩) (n + m) (grownCap w (n + m) old e)) e i.size (n + m) (xs ++ news) ∧
        w.grownBy (w.drew.alloc (.cells (xs.toArray ++ news.toArray ++ Builtin.zeroCells z.cells (grownCap w (n + m) old e - (n + m))) e)) row := by
      intro old ho row
      have hge := grownCap_ge w (n + m) old e
      have hcm : grownCap w (n + m) old e ≤ maxLen := grownCap_le_maxLen w (n + m) old e (by unfold maxLen; omega)
      refine ⟨⟨hlen, .inr ⟨w.heap.size, 0, _, _, rfl, heap_alloc_new w.drew _, hge, hcm, ?_, ?_⟩⟩, ⟨rfl, rfl, rfl, by simp, fun k hk _ => heap_alloc_old w.drew _ hk⟩⟩
      · simp only [Array.size_append, List.size_toArray, size_zeroCells, g5, hown.1, hl, ← Nat.add_mul]
        have : n + m + (grownCap w (n + m) old e - (n + m)) = grownCap w (n + m) old e := by omega
        rw [this]; omega
      · simp only [Array.toList_append, List.append_assoc, List.drop_zero]
        rw [← List.append_assoc, ← hlen]
        exact List.take_left
    rcases hown.2 with ⟨rfl, rfl⟩ | ⟨g, off, cap, cur, rfl, hg, hnc, hcm, hcs, htake⟩
    · have hx : xs = [] := List.eq_nil_of_length_eq_zero (by simpa using hown.1)
      subst hx
      by_cases hm : m = 0
      · subst hm
        have hn : news = [] := List.eq_nil_of_length_eq_zero (by simpa using hl)
        subst hn
        refine ⟨.slice none 0 0, w, ?_, ⟨by simp, .inl ⟨rfl, rfl⟩⟩, grownBy_refl _ _, fun k hk => by cases hk⟩
        simp [Builtin.append_, run_underlying hE.slice, sizeOf, typeInfo, g1, Builtin.lenOf, Builtin.firstCells, loadCells, loadCellsFrom]
      · have hr := run_append_nil (P := P) w t ty e i z hE.slice g1 g2 ⟨b, off2, none⟩ m cap2 news hl hnews (by omega) (by omega) (by have hb := hb; simp only [Nat.zero_add] at hb; omega)
        have hgr := grown 0 (by omega) (Value.ownBlock (.slice none 0 0))
        simp only [Nat.zero_add, List.nil_append, Array.empty_append] at hgr ⊢
        exact ⟨_, _, hr, hgr.1, hgr.2, fun k hk => by cases hk; exact .inr (Nat.le_refl _)⟩
    · by_cases hroom : n + m ≤ cap
      · have hmul : (n + m) * i.size ≤ cap * i.size := Nat.mul_le_mul_right _ hroom
        have hfit : off + n * i.size + news.length ≤ cur.size := by rw [hl]; rw [Nat.add_mul] at hmul; omega
        have hr := run_append_roomV (w := w) (P := P) t ty e i hE.slice g1 g off n cap cur hg ⟨b, off2, none⟩ m cap2 news hl hnews h1 hroom hfit
        refine ⟨_, _, hr, ⟨hlen, .inr ⟨g, off, cap, _, rfl, setRow_heap w g cur _ e _ hg, hroom, hcm, ?_, ?_⟩⟩, ⟨rfl, rfl, rfl, by simp, fun k _ hk => setRow_other w g k _ (fun e => hk (by simp [Value.ownBlock, e]))⟩, fun k hk => by cases hk; exact .inl rfl⟩
        · simp only [List.size_toArray, List.length_append, List.length_take, List.length_drop, Array.length_toList]
          omega
        · have hlen2 : off ≤ cur.toList.length := by rw [Array.length_toList]; omega
          have e1 : cur.toList.take (off + n * i.size) = cur.toList.take off ++ xs := by rw [← htake, List.take_add]
          simp only [e1, List.append_assoc]
          rw [List.drop_append_of_le_length (by simp; omega), List.drop_eq_nil_of_le (by simp; omega), List.nil_append, ← List.append_assoc, ← hlen]
          exact List.take_left
      · have holds : ∀ j u, xs[j]? = some u → w.cell? ((⟨g, off, none⟩ : Addr).add j) = some u := by
          intro j u hu
          have ha : (⟨g, off, none⟩ : Addr).add j = ⟨g, off + j, none⟩ := by unfold Addr.add; split <;> simp_all
          rw [ha, cell_of_row w g (off + j) cur e (0, 0) hg]
          rw [← htake, List.getElem?_take] at hu
          split at hu
          · simpa using hu
          · cases hu
        have hr := run_append_grow (P := P) w t ty e i z hE.slice g1 g2 ⟨g, off, none⟩ n cap xs hown.1 holds ⟨b, off2, none⟩ m cap2 news hl hnews (by omega) (by omega) (growslice_fits (by omega) hb)
        have hgr := grown cap (by omega) (Value.ownBlock (.slice (some ⟨g, off, none⟩) n cap))
        exact ⟨_, _, hr, hgr.1, hgr.2, fun k hk => by cases hk; exact .inr (Nat.le_refl _)⟩

/-! ### Cutting -/
def subV (sz : Nat) (v : Value) (l h : Nat) : Value :=
  match v with
  | .slice a _ cap => .slice (if cap = l then a else a.map (·.add (l * sz))) (h - l) (cap - l)
  | v => v

theorem run_subV {b : TypeId} {l h : Nat} {lo hi : Option Value} (hT : P.underlying t = some (.slice e)) (hS : (P.info? e).map (·.size) = some sz) (hv : Sl w v cs n)
    (hlo : (lo = none ∧ l = 0) ∨ ∃ k, lo = some (.int k (l : Int))) (hhi : (hi = none ∧ h = n) ∨ ∃ k, hi = some (.int k (h : Int))) (h1 : l ≤ h) (h2 : h ≤ n) (w1 : World) :
    (Instr.sliceAt t v lo hi none).run P w1 = .ok (subV sz v l h) w1 := by
  obtain ⟨_, a, c, rfl, hc⟩ := hv
  obtain ⟨ti, g1, g2⟩ : ∃ ti, P.info? e = some ti ∧ ti.size = sz := by
    cases h : P.info? e with
    | none => rw [h] at hS; cases hS
    | some ti => rw [h] at hS; exact ⟨ti, rfl, by simpa using hS⟩
  have hl' : (l : Int) ≤ (h : Int) := by omega
  have hlc : h ≤ c := by omega
  have e0 : (sizeOf e).run P w1 = .ok sz w1 := by simp [sizeOf, typeInfo, g1, g2]
  rcases hlo with ⟨rfl, rfl⟩ | ⟨k1, rfl⟩ <;> rcases hhi with ⟨rfl, rfl⟩ | ⟨k2, rfl⟩ <;>
    simp [Instr.sliceAt, Instr.slice, Instr.sliceBounds, Instr.sliceBound, asIntOf, underlying, hT, e0, subV, h1, hlc]

theorem subV_block (sz : Nat) (v : Value) (l h : Nat) : (subV sz v l h).ownBlock = v.ownBlock := by
  unfold subV
  cases v with
  | slice a n c =>
    simp only [Value.ownBlock]
    split
    · rename_i heq
      cases a with
      | none => simp at heq
      | some a =>
        simp only [Value.slice.injEq, Option.map_some] at heq
        split at heq
        · have := heq.1; simp at this; subst this; rfl
        · have := heq.1; simp at this; subst this; simp [Addr.add]; split <;> rfl
    · rename_i heq
      cases a with
      | none => rfl
      | some a =>
        exfalso
        refine heq (if c = l then a else a.add (l * sz)) (h - l) (c - l) ?_
        simp only [Option.map_some]
        split <;> rfl
  | _ => rfl

theorem Sl.sub {xs : List Value} {l h : Nat} (hv : Sl w v xs n) (hl : xs.length = n * sz) (h1 : l ≤ h) (h2 : h ≤ n) : Sl w (subV sz v l h) ((xs.drop (l * sz)).take ((h - l) * sz)) (h - l) := by
  obtain ⟨hi, a, c, rfl, hc⟩ := hv
  refine ⟨?_, _, c - l, rfl, by omega⟩
  by_cases h0 : h - l = 0
  · rw [h0]
    simp only [Nat.zero_mul, List.take_zero]
    unfold subV
    rw [h0]
    by_cases hcl : c = l
    · subst hcl
      simp only [if_true, Nat.sub_self]
      cases a with
      | none => exact .inl ⟨.inl rfl, rfl, rfl⟩
      | some a => exact .inl ⟨.inr ⟨a, 0, rfl⟩, rfl, rfl⟩
    · simp only [hcl, if_false]
      cases a with
      | none =>
        rcases hi with ⟨h | ⟨a, c', h⟩, _, _⟩ | ⟨b, off, cap, h, _⟩
        · simp at h; omega
        · simp at h
        · simp at h
      | some a => exact .inl ⟨.inr ⟨_, _, rfl⟩, rfl, rfl⟩
  · rcases hi with ⟨_, hn, _⟩ | ⟨b, off, cap, h, hcell⟩
    · omega
    · simp only [Value.slice.injEq] at h
      obtain ⟨rfl, _, rfl⟩ := h
      have hne : ¬ c = l := by omega
      have ha : (⟨b, off, none⟩ : Addr).add (l * sz) = ⟨b, off + l * sz, none⟩ := by unfold Addr.add; split <;> simp_all
      refine .inr ⟨b, off + l * sz, c - l, by simp [subV, hne, ha], fun j u hu => ?_⟩
      rw [List.getElem?_take] at hu
      split at hu
      · rw [List.getElem?_drop] at hu
        have := hcell _ _ hu
        rwa [← Nat.add_assoc] at this
      · cases hu

theorem Vw.sub {xs : List Value} {l h : Nat} (hv : Vw w v e sz n xs) (h1 : l ≤ h) (h2 : h ≤ n) : Vw w (subV sz v l h) e sz (h - l) ((xs.drop (l * sz)).take ((h - l) * sz)) := by
  obtain ⟨hl, hv⟩ := hv
  have hlen : ((xs.drop (l * sz)).take ((h - l) * sz)).length = (h - l) * sz := by
    have e1 : l * sz ≤ n * sz := Nat.mul_le_mul_right _ (by omega)
    have e2 : (h - l) * sz ≤ (n - l) * sz := Nat.mul_le_mul_right _ (by omega)
    rw [Nat.sub_mul n l sz] at e2
    rw [List.length_take, List.length_drop, hl]
    omega
  refine ⟨hlen, ?_⟩
  rcases hv with ⟨rfl, rfl⟩ | ⟨g, off, cap, cur, rfl, hg, hnc, hcm, hcs, htake⟩
  · have : l = 0 := by omega
    have : h = 0 := by omega
    subst l; subst h
    exact .inl ⟨by simp [subV], rfl⟩
  · have ha : (⟨g, off, none⟩ : Addr).add (l * sz) = ⟨g, off + l * sz, none⟩ := by unfold Addr.add; split <;> simp_all
    by_cases hcl : cap = l
    · subst hcl
      have h0 : h - cap = 0 := by omega
      refine .inr ⟨g, off, 0, cur, by simp [subV, h0], hg, by omega, by omega, by omega, by simp [h0]⟩
    · refine .inr ⟨g, off + l * sz, cap - l, cur, by simp [subV, hcl, ha], hg, by omega, by omega, ?_, ?_⟩
      · have e1 : l * sz ≤ cap * sz := Nat.mul_le_mul_right _ (by omega)
        rw [Nat.sub_mul]; omega
      · rw [← htake, List.drop_take, List.take_take, List.drop_drop]
        congr 1
        rw [Nat.min_eq_left]
        have e2 : (h - l) * sz ≤ (n - l) * sz := Nat.mul_le_mul_right _ (by omega)
        rw [Nat.sub_mul n l sz] at e2
        exact e2
end
end Go.GX
