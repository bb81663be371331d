/- The laws of graphs: distances, parents, removal, order. Conditions: none. -/
import Derived.Test.YtppiojknjkadmaaTpFns
namespace Go.GX.Tp
open Go.GX
set_option linter.unusedVariables false
set_option linter.unusedSectionVars false
set_option linter.unusedSimpArgs false
inductive Walk (l : List Ed) : Int → Int → Nat → Prop
  | nil (a : Int) : Walk l a a 0
  | snoc {a m n : Int} {k : Nat} : Walk l a m k → linked l m n = true → Walk l a n (k + 1)
theorem Walk.trans {l : List Ed} {a b c : Int} {j k : Nat} (h : Walk l a b j) (h' : Walk l b c k) : Walk l a c (j + k) := by
  induction h' with
  | nil => exact h
  | snoc _ hl ih => exact ih.snoc hl
theorem Walk.symm {l : List Ed} {a b : Int} {k : Nat} (h : Walk l a b k) : Walk l b a k := by
  induction h with
  | nil => exact .nil _
  | snoc _ hl ih =>
    rw [linked_symm] at hl
    have := ((Walk.nil _).snoc hl).trans ih
    rwa [Nat.add_comm] at this
theorem dist_walk {l : List Ed} {a : Int} : ∀ (k : Nat) (b : Int), dist l a b = some k → Walk l a b k
  | 0, b, h => by obtain ⟨e, _⟩ := ((dist_is l a).zero b).1 h; rw [e]; exact .nil a
  | k + 1, b, h => by
    obtain ⟨m, hl, hm⟩ := (dist_is l a).pre b k h
    exact (dist_walk k m hm).snoc hl
theorem walk_dist {l : List Ed} {a b : Int} {k : Nat} (ha : okN a = true) (h : Walk l a b k) : ∃ j, j ≤ k ∧ dist l a b = some j := by
  induction h with
  | nil => exact ⟨0, Nat.le_refl _, ((dist_is l _).zero _).2 ⟨rfl, ha⟩⟩
  | snoc _ hl ih =>
    obtain ⟨j, hj, hd⟩ := ih
    obtain ⟨i, hi, hd2⟩ := (dist_is l _).step _ _ j hl hd
    exact ⟨i, by omega, hd2⟩
theorem dist_src {l : List Ed} {a b : Int} {k : Nat} (h : dist l a b = some k) : okN a = true := by
  obtain ⟨m, hm⟩ := (dist_is l a).down k b h 0 (Nat.zero_le _)
  exact (((dist_is l a).zero m).1 hm).2
theorem dist_symm (l : List Ed) (a b : Int) : dist l a b = dist l b a := by
  have key : ∀ {a b : Int} {k : Nat}, dist l a b = some k → ∃ j, j ≤ k ∧ dist l b a = some j := by
    intro a b k h
    exact walk_dist ((dist_is l a).okn h) (dist_walk k b h).symm
  cases h : dist l a b with
  | none =>
    cases h' : dist l b a with
    | none => rfl
    | some k => obtain ⟨j, _, hj⟩ := key h'; rw [h] at hj; cases hj
  | some k =>
    obtain ⟨j, hj, hd⟩ := key h
    obtain ⟨i, hi, hd2⟩ := key hd
    rw [h] at hd2; cases hd2
    rw [hd]; congr 1; omega
theorem dist_tri {l : List Ed} {a b c : Int} {j k : Nat} (h : dist l a b = some j) (h' : dist l b c = some k) : ∃ i, i ≤ j + k ∧ dist l a c = some i :=
  walk_dist (dist_src h) ((dist_walk j b h).trans (dist_walk k c h'))
theorem dist_one {l : List Ed} {a b : Int} : dist l a b = some 1 ↔ linked l a b = true := by
  constructor
  · intro h
    obtain ⟨m, hl, hm⟩ := (dist_is l a).pre b 0 h
    obtain ⟨e, _⟩ := ((dist_is l a).zero m).1 hm
    rw [← e]; exact hl
  · intro hl
    obtain ⟨ha, hb, hab⟩ := linked_ok hl
    obtain ⟨j, hj, hd⟩ := walk_dist ha ((Walk.nil a).snoc hl)
    have : j ≠ 0 := by
      intro e; rw [e] at hd
      exact hab (((dist_is l a).zero b).1 hd).1.symm
    rw [hd]; congr 1; omega
theorem hops_lt (l : List Ed) (a b : Int) : (decide (hopsZ (dist l a b) < -1) || decide (hopsZ (dist l a b) > 250)) = false := by
  cases h : dist l a b with
  | none => simp [hopsZ]
  | some k => have := (dist_is l a).bound h; simp only [hopsZ, Bool.or_eq_false_iff]; exact ⟨decide_eq_false (by omega), decide_eq_false (by omega)⟩
theorem among_near (l : List Ed) (a b : Int) : decide (b ∈ nbrs l a) = (hopsZ (dist l a b) == 1) := by
  rw [Bool.eq_iff_iff]
  simp only [decide_eq_true_eq, beq_iff_eq]
  rw [mem_nbrs, ← dist_one]
  exact (hopsZ_eq (o := dist l a b) (s := 1)).symm
theorem among_reach (l : List Ed) (a b : Int) : decide (b ∈ reachD (dist l a)) = decide (hopsZ (dist l a b) ≥ 0) := by
  rw [Bool.eq_iff_iff]
  simp only [decide_eq_true_eq]
  rw [mem_reachD]
  cases h : dist l a b with
  | none => simp [hopsZ]
  | some k => simp [hopsZ, (dist_is l a).okn h]
theorem tri_law (l : List Ed) (a b c : Int) (h1 : hopsZ (dist l a b) ≥ 0) (h2 : hopsZ (dist l b c) ≥ 0) : hopsZ (dist l a c) ≥ 0 ∧ hopsZ (dist l a c) ≤ hopsZ (dist l a b) + hopsZ (dist l b c) := by
  cases hx : dist l a b with
  | none => rw [hx] at h1; simp [hopsZ] at h1
  | some j =>
    cases hy : dist l b c with
    | none => rw [hy] at h2; simp [hopsZ] at h2
    | some k =>
      obtain ⟨i, hi, hd⟩ := dist_tri hx hy
      rw [hd]
      simp [hopsZ]; omega

/-! ### Parents -/
theorem parent_step {l : List Ed} {root n : Int} {k : Nat} (h : dist l root n = some (k + 1)) : ∃ p, parentD l (dist l root) n = p ∧ 0 ≤ p ∧ p ∈ nbrs l n ∧ dist l root p = some k := by
  have hD := dist_is l root
  obtain ⟨m, hl, hm⟩ := hD.pre n k h
  rw [linked_symm] at hl
  unfold parentD
  rw [h]
  simp only []
  have hex : ∃ x ∈ nbrs l n, (((dz (dist l root x) : Nat) : Int) == ((k + 1 : Nat) : Int) - 1) = true := ⟨m, mem_nbrs.2 hl, by rw [parent_eq hD h (by omega) hl]; simpa using hm⟩
  cases hf : (nbrs l n).find? (fun x => ((dz (dist l root x) : Nat) : Int) == ((k + 1 : Nat) : Int) - 1) with
  | none =>
    obtain ⟨x, hx, hp⟩ := hex
    have := List.find?_eq_none.1 hf x hx
    exact absurd hp this
  | some p =>
    have hp := List.find?_some hf
    have hin := List.mem_of_find?_eq_some hf
    have hlp := mem_nbrs.1 hin
    rw [parent_eq hD h (by omega) hlp] at hp
    refine ⟨p, rfl, ?_, hin, by simpa using hp⟩
    have := (linked_ok hlp).2.1
    simp [okN] at this; omega
theorem parent_root (l : List Ed) (root : Int) : parentD l (dist l root) root = -1 := by
  refine parent_none (dist_is l root) ?_
  cases h : dist l root root with
  | none => simp [hopsZ]
  | some k =>
    have := ((dist_is l root).zero root).2 ⟨rfl, dist_src h⟩
    rw [this] at h; cases h; simp [hopsZ]
theorem parent_far {l : List Ed} {root n : Int} (h : dist l root n = none) : parentD l (dist l root) n = -1 := by unfold parentD; rw [h]

/-! ### Removal -/
theorem linked_without {l : List Ed} {off : List Int} {a b : Int} (h : linked (without l off) a b = true) : linked l a b = true ∧ a ∉ off ∧ b ∉ off := by
  obtain ⟨e, he, hok, hab⟩ := linked_iff.1 h
  obtain ⟨h1, h2⟩ := List.mem_filter.1 he
  simp only [stays, Bool.and_eq_true, Bool.not_eq_true', decide_eq_false_iff_not] at h2
  refine ⟨linked_iff.2 ⟨e, h1, hok, hab⟩, ?_⟩
  rcases hab with rfl | rfl
  · exact ⟨h2.1.2, h2.2⟩
  · exact ⟨h2.2, h2.1.2⟩
theorem walk_without {l : List Ed} {off : List Int} {a b : Int} {k : Nat} (h : Walk (without l off) a b k) : Walk l a b k := by
  induction h with
  | nil => exact .nil _
  | snoc _ hl ih => exact ih.snoc (linked_without hl).1
theorem shrink_law (l : List Ed) (off : List Int) (a b : Int) : (hopsZ (dist (without l off) a b) != -1 && (decide (hopsZ (dist l a b) < 0) || decide (hopsZ (dist (without l off) a b) < hopsZ (dist l a b)))) = false := by
  cases h : dist (without l off) a b with
  | none => simp [hopsZ]
  | some k =>
    obtain ⟨j, hj, hd⟩ := walk_dist (dist_src h) (walk_without (dist_walk k b h))
    rw [hd]
    simp only [hopsZ, Bool.and_eq_false_iff, Bool.or_eq_false_iff]; exact .inr ⟨decide_eq_false (by omega), decide_eq_false (by omega)⟩
theorem removed_alone {l : List Ed} {off : List Int} {n : Int} (hn : n ∈ off) (ho : okN n = true) : reachD (dist (without l off) n) = [n] := by
  have hD : IsDist (without l off) n (fun m => if m = n then some 0 else none) := by
    refine ⟨fun m => ?_, fun m k h => ?_, fun m p k hl h => ?_⟩
    · by_cases e : m = n
      · simp [e, ho]
      · simp [e]
    · split at h <;> cases h
    · split at h
      · rename_i e; subst e; exact absurd hn (linked_without hl).2.1
      · cases h
  rw [hD.eq]
  refine sorted_ext (reachD_sorted _) (by simp) fun x => ?_
  rw [mem_reachD]
  by_cases e : x = n
  · simp [e, ho]
  · simp [e]

/-! ### Order -/
def flip (e : Ed) : Ed := ⟨e.b, e.a⟩
def back (l : List Ed) : List Ed := (l.reverse.map flip) ++ l
theorem okE_flip (e : Ed) : okE (flip e) = okE e := by
  obtain ⟨a, b⟩ := e
  simp only [okE, flip]
  rw [Bool.eq_iff_iff]
  simp only [Bool.and_eq_true, bne_iff_ne, ne_eq]
  constructor <;> (rintro ⟨⟨h1, h2⟩, h3⟩; exact ⟨⟨h2, h1⟩, fun e => h3 e.symm⟩)
theorem linked_back (l : List Ed) (a b : Int) : linked (back l) a b = linked l a b := by
  rw [Bool.eq_iff_iff, linked_iff, linked_iff]
  constructor
  · rintro ⟨e, he, hok, hab⟩
    rcases List.mem_append.1 he with he | he
    · obtain ⟨e', he', rfl⟩ := List.mem_map.1 he
      rw [okE_flip] at hok
      refine ⟨e', List.mem_reverse.1 he', hok, ?_⟩
      obtain ⟨x, y⟩ := e'
      simp only [flip, Ed.mk.injEq] at hab ⊢
      rcases hab with ⟨h1, h2⟩ | ⟨h1, h2⟩
      · exact .inr ⟨h2, h1⟩
      · exact .inl ⟨h2, h1⟩
    · exact ⟨e, he, hok, hab⟩
  · rintro ⟨e, he, hok, hab⟩
    exact ⟨e, List.mem_append_right _ he, hok, hab⟩
theorem nbrs_same {l l' : List Ed} (h : ∀ a b, linked l a b = linked l' a b) (n : Int) : nbrs l n = nbrs l' n := by unfold nbrs; rw [funext fun k => h n k]
theorem dist_same {l l' : List Ed} (h : ∀ a b, linked l a b = linked l' a b) (n : Int) : dist l n = dist l' n := by
  refine IsDist.eq ?_
  obtain ⟨h1, h2, h3⟩ := dist_is l' n
  exact ⟨h1, fun m k hm => by obtain ⟨p, h4, h5⟩ := h2 m k hm; exact ⟨p, by rw [h]; exact h4, h5⟩, fun m p k hl hm => h3 m p k (by rw [← h]; exact hl) hm⟩
theorem parent_same {l l' : List Ed} (h : ∀ a b, linked l a b = linked l' a b) (r n : Int) : parentD l (dist l r) n = parentD l' (dist l' r) n := by
  unfold parentD; rw [dist_same h, nbrs_same h]
theorem linked_without_iff {l : List Ed} {off : List Int} {a b : Int} : linked (without l off) a b = (linked l a b && !decide (a ∈ off) && !decide (b ∈ off)) := by
  rw [Bool.eq_iff_iff]
  constructor
  · intro h
    obtain ⟨h1, h2, h3⟩ := linked_without h
    simp [h1, h2, h3]
  · intro h
    simp only [Bool.and_eq_true, Bool.not_eq_true', decide_eq_false_iff_not] at h
    obtain ⟨⟨h1, h2⟩, h3⟩ := h
    obtain ⟨e, he, hok, hab⟩ := linked_iff.1 h1
    refine linked_iff.2 ⟨e, List.mem_filter.2 ⟨he, ?_⟩, hok, hab⟩
    simp only [stays, hok, Bool.true_and, Bool.and_eq_true, Bool.not_eq_true', decide_eq_false_iff_not]
    rcases hab with rfl | rfl
    · exact ⟨h2, h3⟩
    · exact ⟨h3, h2⟩
theorem cut_same {l l' : List Ed} (h : ∀ a b, linked l a b = linked l' a b) (r : Int) : cutL l r = cutL l' r := by
  unfold cutL
  rw [dist_same h]
  congr 1
  funext c
  unfold critical
  rw [dist_same h, dist_same (l := without l [c]) (l' := without l' [c]) (fun a b => by rw [linked_without_iff, linked_without_iff, h])]
end Go.GX.Tp
