/- Layer 4: a text put in its place among those that ascend. Conditions: none. -/
import Derived.Test.YtmjhhmilgebbbaaNmSort2
set_option linter.unusedVariables false
namespace Nm
open Go Go.Sort
theorem idx_first {l : List Tx} {s : Tx} : ∀ i, i < l.length → l.getD i [] = s → ∃ k, k ≤ i ∧ idx l s = (k : Int) ∧ l.getD k [] = s := by
  intro i
  induction i using Nat.strongRecOn with
  | _ i ih =>
    intro hi hs
    by_cases h : ∃ j, j < i ∧ l.getD j [] = s
    · obtain ⟨j, hj, he⟩ := h
      obtain ⟨k, h1, h2, h3⟩ := ih j hj (by omega) he
      exact ⟨k, by omega, h2, h3⟩
    · exact ⟨i, Nat.le_refl _, idx_at hi hs (fun j hj e => h ⟨j, hj, e⟩), hs⟩
theorem mem_take_getD {l : List Tx} {i : Nat} {s : Tx} (hi : i ≤ l.length) : s ∈ l.take i ↔ ∃ k, k < i ∧ l.getD k [] = s := by
  constructor
  · intro h
    obtain ⟨k, hk, e⟩ := List.mem_iff_getElem.1 h
    have hk' : k < i := by simp at hk; omega
    refine ⟨k, hk', ?_⟩
    rw [List.getD_eq_getElem?_getD, List.getElem?_eq_getElem (by omega), ← e]; simp
  · rintro ⟨k, hk, e⟩
    rw [List.getD_eq_getElem?_getD, List.getElem?_eq_getElem (by omega)] at e
    exact List.mem_take_iff_getElem.2 ⟨k, by omega, e⟩
theorem idx_old {l : List Tx} {i : Nat} (hi : i < l.length) (h : decide (idx l (l.getD i []) < (i : Int)) = true) : l.getD i [] ∈ l.take i := by
  obtain ⟨k, h1, h2, h3⟩ := idx_first i hi rfl
  have := of_decide_eq_true h
  exact (mem_take_getD (by omega)).2 ⟨k, by omega, h3⟩
theorem idx_new {l : List Tx} {i : Nat} (hi : i < l.length) (h : decide (idx l (l.getD i []) < (i : Int)) = false) : l.getD i [] ∉ l.take i := by
  intro hm
  obtain ⟨j, hj, e⟩ := (mem_take_getD (by omega)).1 hm
  obtain ⟨k, h1, h2, h3⟩ := idx_first j (by omega) e
  have := of_decide_eq_false h
  omega
def ins (acc : List Tx) (x : Tx) (k : Nat) : List Tx := acc.take k ++ x :: acc.drop k
theorem ins_len {acc : List Tx} {x : Tx} {k : Nat} (hk : k ≤ acc.length) : (ins acc x k).length = acc.length + 1 := by simp [ins]; omega
theorem ins_end (acc : List Tx) (x : Tx) : ins acc x acc.length = acc ++ [x] := by simp [ins]
theorem ins_get {acc : List Tx} {x : Tx} {k : Nat} (hk : k ≤ acc.length) : (ins acc x k).getD k [] = x := by
  have : (acc.take k).length = k := by simp; omega
  rw [ins, List.getD_eq_getElem?_getD, List.getElem?_append_right (by omega), this]; simp
theorem ins_get1 {acc : List Tx} {x : Tx} {k : Nat} (h0 : 0 < k) (hk : k ≤ acc.length) : (ins acc x k).getD (k - 1) [] = acc.getD (k - 1) [] := by
  have : (acc.take k).length = k := by simp; omega
  rw [ins, List.getD_eq_getElem?_getD, List.getElem?_append_left (by omega), List.getElem?_take_of_lt (by omega), List.getD_eq_getElem?_getD]
theorem ins_swap {β : Type} (f : Tx → β) {acc : List Tx} {x : Tx} {k : Nat} (h0 : 0 < k) (hk : k ≤ acc.length) :
    (((ins acc x k).map f).set (k * 1) (f (acc.getD (k - 1) []))).set ((k - 1) * 1) (f x) = (ins acc x (k - 1)).map f := by
  obtain ⟨m, rfl⟩ : ∃ m, k = m + 1 := ⟨k - 1, by omega⟩
  have e1 : acc.take (m + 1) = acc.take m ++ [acc.getD m []] := take_snoc acc m [] (by omega)
  have e2 : acc.drop m = acc.getD m [] :: acc.drop (m + 1) := by
    rw [List.drop_eq_getElem_cons (by omega), List.getD_eq_getElem?_getD, List.getElem?_eq_getElem (by omega)]; rfl
  have hl : (acc.take m).length = m := by simp; omega
  have hl2 : ((acc.take m).map f).length = m := by simp; omega
  simp only [ins, Nat.add_sub_cancel, Nat.mul_one, e1, e2, List.map_append, List.map_cons, List.append_assoc, List.cons_append, List.nil_append]
  rw [List.set_append_right _ _ (by omega), hl2, show m + 1 - m = 1 by omega, List.set_cons_succ, List.set_cons_zero, List.set_append_right _ _ (by omega), hl2, Nat.sub_self, List.set_cons_zero]
theorem ins_asc {acc : List Tx} {x : Tx} {k : Nat} (ha : acc.Pairwise (· < ·)) (hx : x ∉ acc) (hk : k ≤ acc.length) (hd : ∀ y ∈ acc.drop k, x < y) (hs : k = 0 ∨ ¬ x < acc.getD (k - 1) []) : (ins acc x k).Pairwise (· < ·) := by
  have hsplit : acc.take k ++ acc.drop k = acc := List.take_append_drop k acc
  have ha2 := ha
  rw [← hsplit] at ha2
  obtain ⟨p1, p2, p3⟩ := List.pairwise_append.1 ha2
  have htake : ∀ y ∈ acc.take k, y < x := by
    intro y hy
    rcases hs with h | h
    · subst h; simp at hy
    · obtain ⟨j, hj, e⟩ := List.mem_iff_getElem.1 hy
      have hj' : j < k := by simp at hj; omega
      have hlast : acc.getD (k - 1) [] = acc[k - 1]'(by omega) := by rw [List.getD_eq_getElem?_getD, List.getElem?_eq_getElem (by omega)]; rfl
      rw [hlast] at h
      have hle : acc[k - 1]'(by omega) ≤ x := List.not_lt.1 h
      have hne : acc[k - 1]'(by omega) ≠ x := fun e => hx (e ▸ List.getElem_mem _)
      have hlt := lt_of_le_ne hle hne
      have ey : y = acc[j]'(by omega) := by rw [← e]; simp
      rw [ey]
      by_cases hjk : j = k - 1
      · subst hjk; exact hlt
      · exact lt_trans' (List.pairwise_iff_getElem.1 ha j (k - 1) (by omega) (by omega) (by omega)) hlt
  unfold ins
  refine List.pairwise_append.2 ⟨p1, List.pairwise_cons.2 ⟨hd, p2⟩, fun a h b hb => ?_⟩
  rcases List.mem_cons.1 hb with rfl | hb
  · exact htake a h
  · exact p3 a h b hb
theorem ins_mem {acc : List Tx} {x y : Tx} {k : Nat} : y ∈ ins acc x k ↔ y = x ∨ y ∈ acc := by
  have hsplit : acc.take k ++ acc.drop k = acc := List.take_append_drop k acc
  conv => rhs; rw [← hsplit]
  simp only [ins, List.mem_append, List.mem_cons]
  constructor
  · rintro (h | h | h)
    · exact .inr (.inl h)
    · exact .inl h
    · exact .inr (.inr h)
  · rintro (h | h | h)
    · exact .inr (.inl h)
    · exact .inl h
    · exact .inr (.inr h)
theorem drop_pred {acc : List Tx} {x : Tx} {k : Nat} (h0 : 0 < k) (hk : k ≤ acc.length) (hd : ∀ y ∈ acc.drop k, x < y) (hl : x < acc.getD (k - 1) []) : ∀ y ∈ acc.drop (k - 1), x < y := by
  intro y hy
  rw [List.drop_eq_getElem_cons (by omega), show k - 1 + 1 = k by omega] at hy
  rcases List.mem_cons.1 hy with h | h
  · rw [h]; rwa [List.getD_eq_getElem?_getD, List.getElem?_eq_getElem (by omega)] at hl
  · exact hd y h
end Nm
namespace Nm
open Go Go.Sort
theorem sorted_len (l : List Tx) : (sorted l).length ≤ l.length := by
  have := Lib.compact_length_le (l.mergeSort fun x y => decide (x ≤ y))
  simpa [sorted] using this
theorem idx_mem {l : List Tx} {s : Tx} (h : s ∈ l) : 0 ≤ idx l s := by
  obtain ⟨i, hi, e⟩ := List.mem_iff_getElem.1 h
  obtain ⟨k, _, h2, _⟩ := idx_first (l := l) (s := s) i hi (by rw [List.getD_eq_getElem?_getD, List.getElem?_eq_getElem hi]; exact e)
  omega
theorem sorted_mem {l : List Tx} {k : Nat} (h : k < (sorted l).length) : (sorted l).getD k [] ∈ l := ((sorted_spec l).2 _).1 (getD_mem h)
theorem sorted_step {l : List Tx} {k : Nat} (h0 : 0 < k) (h : k < (sorted l).length) : (Op.bytesLess ((sorted l).getD k []) ((sorted l).getD (k - 1) []) || (sorted l).getD k [] == (sorted l).getD (k - 1) []) = false := by
  have := List.pairwise_iff_getElem.1 (sorted_spec l).1 (k - 1) k (by omega) h (by omega)
  have e1 : (sorted l).getD k [] = (sorted l)[k] := by rw [List.getD_eq_getElem?_getD, List.getElem?_eq_getElem h]; rfl
  have e2 : (sorted l).getD (k - 1) [] = (sorted l)[k - 1]'(by omega) := by rw [List.getD_eq_getElem?_getD, List.getElem?_eq_getElem (by omega)]; rfl
  rw [e1, e2, Go.Proofs.bytesLess_eq, Bool.or_eq_false_iff]
  constructor
  · exact decide_eq_false fun h' => lt_irrefl' _ (lt_trans' this h')
  · rw [beq_eq_false_iff_ne]; intro e; rw [e] at this; exact lt_irrefl' _ this
end Nm
