/- Layer 4: what is sorted and compacted ascends strictly and has the same texts; there is but one such list. Conditions: none. -/
import Derived.Test.YtmjhhmilgebbbaaNmSort
import Derived.Sort.Walk0
set_option linter.unusedVariables false
namespace Nm
open Go Go.Sort
abbrev Tx := List UInt8
theorem lt_trans' {a b c : Tx} (h : a < b) (k : b < c) : a < c := List.lt_trans h k
theorem lt_irrefl' (a : Tx) : ¬ a < a := List.lt_irrefl a
theorem lt_of_le_ne {a b : Tx} (h : a ≤ b) (hn : a ≠ b) : a < b := by
  rcases Decidable.em (a < b) with h' | h'
  · exact h'
  · exact absurd (List.le_antisymm h (List.not_lt.1 h')) hn
theorem lt_of_le_lt {a b c : Tx} (h : a ≤ b) (k : b < c) : a < c := List.lt_of_le_of_lt h k
theorem le_of_lt' {a b : Tx} (h : a < b) : a ≤ b := List.le_of_lt h
theorem asc_unique {a b : List Tx} (ha : a.Pairwise (· < ·)) (hb : b.Pairwise (· < ·)) (h : ∀ x, x ∈ a ↔ x ∈ b) : a = b := by
  have na : a.Nodup := ha.imp fun h e => by subst e; exact lt_irrefl' _ h
  have nb : b.Nodup := hb.imp fun h e => by subst e; exact lt_irrefl' _ h
  refine List.Perm.eq_of_pairwise (le := (· < ·)) (fun x y _ _ h1 h2 => absurd (lt_trans' h1 h2) (lt_irrefl' _)) ha hb ?_
  exact (List.perm_ext_iff_of_nodup na nb).2 h
theorem compact_spec (zs : List Tx) (hs : zs.Pairwise (· ≤ ·)) : ∀ m, m ≤ zs.length →
    (Lib.compactUpTo zs.toArray m).Pairwise (· < ·) ∧ (∀ x, x ∈ Lib.compactUpTo zs.toArray m ↔ x ∈ zs.take m) ∧ ∀ x ∈ Lib.compactUpTo zs.toArray m, m ≠ 0 → x ≤ zs.toArray[m - 1]! := by
  have get : ∀ j, (hj : j < zs.length) → zs.toArray[j]! = zs[j] := fun j hj => by simp [getElem!_pos, hj]
  have mono : ∀ i j, (hj : j < zs.length) → (hij : i < j) → zs[i]'(by omega) ≤ zs[j] := fun i j hj hij => List.pairwise_iff_getElem.1 hs i j (by omega) hj hij
  intro m
  induction m with
  | zero => intro _; simp [Lib.compactUpTo]
  | succ m ih =>
    intro hm
    obtain ⟨h1, h2, h3⟩ := ih (by omega)
    rw [Lib.compactUpTo_succ]
    have htk : zs.take (m + 1) = zs.take m ++ [zs[m]'(by omega)] := List.take_succ_eq_append_getElem (by omega)
    have hle : ∀ x ∈ Lib.compactUpTo zs.toArray m, x ≤ zs[m]'(by omega) := by
      intro x hx
      by_cases h0 : m = 0
      · subst h0; simp [Lib.compactUpTo] at hx
      · have := h3 x hx h0
        rw [get (m - 1) (by omega)] at this
        exact List.le_trans this (mono (m - 1) m (by omega) (by omega))
    by_cases hk : Lib.keeps zs.toArray m = true
    · rw [if_pos hk, get m (by omega)]
      have hlt : ∀ x ∈ Lib.compactUpTo zs.toArray m, x < zs[m]'(by omega) := by
        intro x hx
        by_cases h0 : m = 0
        · subst h0; simp [Lib.compactUpTo] at hx
        · unfold Lib.keeps at hk
          simp only [decide_eq_true_eq] at hk
          have hne := hk.resolve_left h0
          rw [get m (by omega), get (m - 1) (by omega)] at hne
          have := h3 x hx h0
          rw [get (m - 1) (by omega)] at this
          exact lt_of_le_lt this (lt_of_le_ne (mono (m - 1) m (by omega) (by omega)) (fun e => hne e.symm))
      refine ⟨List.pairwise_append.2 ⟨h1, by simp, fun x hx y hy => ?_⟩, fun x => ?_, fun x hx _ => ?_⟩
      · rw [List.mem_singleton.1 hy]; exact hlt x hx
      · rw [htk, List.mem_append, List.mem_append, h2]
      · rw [show m + 1 - 1 = m by omega, get m (by omega)]
        rcases List.mem_append.1 hx with h | h
        · exact hle x h
        · rw [List.mem_singleton.1 h]; exact List.le_refl _
    · rw [if_neg hk, List.append_nil]
      have hk' : m ≠ 0 ∧ zs.toArray[m]! = zs.toArray[m - 1]! := by
        unfold Lib.keeps at hk
        simp only [decide_eq_true_eq, not_or, Decidable.not_not] at hk
        exact hk
      refine ⟨h1, fun x => ?_, fun x hx _ => ?_⟩
      · rw [htk, List.mem_append, h2, List.mem_singleton]
        refine ⟨.inl, fun h => h.elim id fun h => ?_⟩
        subst h
        rw [get m (by omega), get (m - 1) (by omega)] at hk'
        rw [hk'.2]
        exact List.mem_take_iff_getElem.2 ⟨m - 1, by have := hk'.1; omega, rfl⟩
      · rw [show m + 1 - 1 = m by omega, get m (by omega)]; exact hle x hx
theorem sorted_spec (l : List Tx) : (sorted l).Pairwise (· < ·) ∧ ∀ x, x ∈ sorted l ↔ x ∈ l := by
  have hs : (l.mergeSort fun x y => decide (x ≤ y)).Pairwise (· ≤ ·) := by
    refine (List.pairwise_mergeSort (le := fun x y => decide (x ≤ y)) (fun a b c h k => ?_) (fun a b => ?_) l).imp (fun h => of_decide_eq_true h)
    · exact decide_eq_true (List.le_trans (of_decide_eq_true h) (of_decide_eq_true k))
    · rcases List.le_total a b with h | h <;> simp [h]
  obtain ⟨h1, h2, _⟩ := compact_spec _ hs _ (Nat.le_refl _)
  refine ⟨h1, fun x => ?_⟩
  have := h2 x
  rw [List.take_length] at this
  rw [sorted, Lib.compact, this, List.mem_mergeSort]
theorem sorted_unique {l a : List Tx} (ha : a.Pairwise (· < ·)) (h : ∀ x, x ∈ a ↔ x ∈ l) : a = sorted l :=
  asc_unique ha (sorted_spec l).1 fun x => (h x).trans ((sorted_spec l).2 x).symm
end Nm
