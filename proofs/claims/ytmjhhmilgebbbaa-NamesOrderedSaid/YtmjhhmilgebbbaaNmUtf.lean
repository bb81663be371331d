/- The runes of a text: none below 32 but the bytes below 32. Conditions: none. -/
import Derived.Laws.RangeAny
set_option linter.unusedVariables false
namespace Nm
open Go
theorem getB (s : List UInt8) (i : Nat) : (⟨s.toArray⟩ : ByteArray).get! i = s.getD i 0 := by
  rw [List.getD_eq_getElem?_getD, ByteArray.get!]
  simp [Array.getElem!_eq_getD, Array.getD_eq_getD_getElem?]; rfl
theorem dec_cont (s : List UInt8) (p : Nat) (h : p < s.length) :
    1 ≤ (Utf8.decode ⟨s.toArray⟩ p).2 ∧ p + (Utf8.decode ⟨s.toArray⟩ p).2 ≤ s.length ∧ ((Utf8.decode ⟨s.toArray⟩ p).1 < 32 ↔ (s.getD p 0).toNat < 32) ∧ ∀ j, 1 ≤ j → j < (Utf8.decode ⟨s.toArray⟩ p).2 → 32 ≤ (s.getD (p + j) 0).toNat := by
  have hsz : (⟨s.toArray⟩ : ByteArray).size = s.length := by simp [ByteArray.size]
  have h0 := (s.getD p 0).toNat_lt
  simp only [Utf8.decode, getB, hsz, Nat.add_zero]
  split
  · exact ⟨by simp, by simp; omega, by simp, fun j h1 h2 => by simp at h2; omega⟩
  · rename_i hb
    have hr : ¬ (s.getD p 0).toNat < 32 := by omega
    have bad : 1 ≤ (Utf8.runeError, 1).2 ∧ p + (Utf8.runeError, 1).2 ≤ s.length ∧ ((Utf8.runeError, 1).1 < 32 ↔ (s.getD p 0).toNat < 32) ∧ ∀ j, 1 ≤ j → j < (Utf8.runeError, 1).2 → 32 ≤ (s.getD (p + j) 0).toNat :=
      ⟨by simp, by simp; omega, by simp only [Utf8.runeError]; omega, fun j h1 h2 => by simp at h2; omega⟩
    split
    · rename_i hc
      simp only [Bool.and_eq_true, decide_eq_true_eq, beq_iff_eq] at hc
      split
      · refine ⟨by simp, by simp; omega, by simp only; omega, fun j h1 h2 => ?_⟩
        have : j = 1 := by simp at h2; omega
        subst this; omega
      · exact bad
    · split
      · rename_i hc
        simp only [Bool.and_eq_true, decide_eq_true_eq, beq_iff_eq] at hc
        split
        · rename_i hv
          simp only [Bool.and_eq_true, decide_eq_true_eq] at hv
          refine ⟨by simp, by simp; omega, by simp only; omega, fun j h1 h2 => ?_⟩
          have : j = 1 ∨ j = 2 := by simp at h2; omega
          rcases this with rfl | rfl <;> omega
        · exact bad
      · split
        · rename_i hc
          simp only [Bool.and_eq_true, decide_eq_true_eq, beq_iff_eq] at hc
          split
          · rename_i hv
            simp only [Bool.and_eq_true, decide_eq_true_eq] at hv
            refine ⟨by simp, by simp; omega, by simp only; omega, fun j h1 h2 => ?_⟩
            have : j = 1 ∨ j = 2 ∨ j = 3 := by simp at h2; omega
            rcases this with rfl | rfl | rfl <;> omega
          · exact bad
        · exact bad
end Nm
