/- The plain functions of layer 4: what its Go functions compute, on lists of bytes. Conditions: none. -/
namespace Nm
def lett (c : Int) : Bool := decide (c ≥ 97) && decide (c ≤ 122)
def badc (c : Int) (first : Bool) : Bool := !lett c && (first || (c != 95 && c != 45 && (decide (c < 48) || decide (c > 57))))
def badAt (s : List UInt8) (k : Nat) : Bool := badc ((s.getD k 0).toNat : Int) ((k : Int) == 0)
def valid (s : List UInt8) : Bool := !(decide ((s.length : Int) < 1) || decide ((s.length : Int) > 24)) && (List.range s.length).all fun k => !badAt s k
theorem valid_false {s : List UInt8} {k : Nat} (hk : k < s.length) (h : badAt s k = true) : valid s = false := by
  unfold valid
  rw [Bool.and_eq_false_iff]; right
  rw [List.all_eq_false]
  exact ⟨k, by simpa using hk, by simp [h]⟩
theorem valid_true {s : List UInt8} (h1 : (decide ((s.length : Int) < 1) || decide ((s.length : Int) > 24)) = false) (h : ∀ k, k < s.length → badAt s k = false) : valid s = true := by
  unfold valid
  rw [h1]
  simp only [Bool.not_false, Bool.true_and, List.all_eq_true, List.mem_range]
  intro k hk; rw [h k hk]; rfl
end Nm
namespace Nm
def hexdigs : List UInt8 := [48, 49, 50, 51, 52, 53, 54, 55, 56, 57, 97, 98, 99, 100, 101, 102]
def hexd (n : Nat) : UInt8 := hexdigs.getD (n % 16) 0
/-- The form of a byte. -/
def quoteB (c : UInt8) : List UInt8 :=
  if ((c.toNat : Int) == 34 || (c.toNat : Int) == 92) = true then [92, c]
  else if (decide ((c.toNat : Int) < 32) || decide ((c.toNat : Int) > 126)) = true then [92, 120, hexd (c.toNat / 16), hexd c.toNat]
  else [c]
def quote (s : List UInt8) : List UInt8 := 34 :: s.flatMap quoteB ++ [34]
theorem quoteB_len (c : UInt8) : (quoteB c).length ≤ 4 := by unfold quoteB; repeat' split
                                                             all_goals simp
theorem flatMap_len (s : List UInt8) : (s.flatMap quoteB).length ≤ 4 * s.length := by
  induction s with
  | nil => simp
  | cons c s ih => simp only [List.flatMap_cons, List.length_append, List.length_cons]; have := quoteB_len c; omega
theorem take_snoc {α : Type} (l : List α) (k : Nat) (d : α) (h : k < l.length) : l.take (k + 1) = l.take k ++ [l.getD k d] := by
  rw [List.take_succ_eq_append_getElem h, List.getD_eq_getElem?_getD, List.getElem?_eq_getElem h]; rfl
/-- A hexadecimal digit's value, or -1. -/
def hexv (c : Int) : Int :=
  if (decide (c ≥ 48) && decide (c ≤ 57)) = true then c - 48
  else if (decide (c ≥ 97) && decide (c ≤ 102)) = true then c - 97 + 10
  else -1
end Nm
namespace Nm
def qacc (s : List UInt8) (k : Nat) : List UInt8 := 34 :: (s.take k).flatMap quoteB
theorem qacc_succ (s : List UInt8) (k : Nat) (h : k < s.length) : qacc s (k + 1) = qacc s k ++ quoteB (s.getD k 0) := by
  simp [qacc, take_snoc s k 0 h]
theorem qacc_len (s : List UInt8) (k : Nat) : (qacc s k).length ≤ 4 * s.length + 1 := by
  have := flatMap_len (s.take k)
  simp only [qacc, List.length_cons]
  have h2 : (s.take k).length ≤ s.length := List.length_take_le' ..
  omega
theorem quote_eq (s : List UInt8) : quote s = qacc s s.length ++ [34] := by simp [quote, qacc]
theorem quoteB_1 {c : UInt8} (h : ((c.toNat : Int) == 34 || (c.toNat : Int) == 92) = true) : quoteB c = [92, c] := by unfold quoteB; rw [if_pos h]
theorem quoteB_2 {c : UInt8} (h : ((c.toNat : Int) == 34 || (c.toNat : Int) == 92) = false) (h2 : (decide ((c.toNat : Int) < 32) || decide ((c.toNat : Int) > 126)) = true) : quoteB c = [92, 120, hexd (c.toNat / 16), hexd c.toNat] := by
  unfold quoteB; rw [if_neg (by simp [h]), if_pos h2]
theorem quoteB_3 {c : UInt8} (h : ((c.toNat : Int) == 34 || (c.toNat : Int) == 92) = false) (h2 : (decide ((c.toNat : Int) < 32) || decide ((c.toNat : Int) > 126)) = false) : quoteB c = [c] := by
  unfold quoteB; rw [if_neg (by simp [h]), if_neg (by simp [h2])]
end Nm
namespace Nm
theorem hexslice : ∀ k, k < 16 → List.take (k + 1 - k) (List.drop k hexdigs) = [hexd k] := by decide
theorem and15 (n : Nat) : n &&& 15 = n % 16 := Nat.and_two_pow_sub_one_eq_mod n 4
theorem hexd_mod (n : Nat) : hexd (n % 16) = hexd n := by unfold hexd; rw [Nat.mod_mod]
end Nm
namespace Nm
theorem quote_len (s : List UInt8) : (quote s).length ≤ 4 * s.length + 2 := by
  have := flatMap_len s; simp only [quote, List.cons_append, List.length_cons, List.length_append, List.length_nil]; omega
end Nm
