/- The plain law of tariffs: what the functions compute. Conditions: none. -/
import Derived.Test.YtiepojpebndgoaaGxList
namespace Tf
open Go.GX
set_option linter.unusedVariables false
set_option linter.unusedSimpArgs false

structure Tr where
  b : List Int
  s : List Int
  fu : Int
def bad (p : Int) : Bool := decide (p < 0) || decide (p > 1000000)
def over (p : Int × Int) : Bool := decide (p.2 > p.1)
def sized (t : Tr) : Bool := decide (1 ≤ t.b.length) && decide (t.b.length ≤ 96) && decide (t.s.length = t.b.length)
def ranged (t : Tr) : Bool := !t.b.any bad && !t.s.any bad && decide (1 ≤ t.fu) && decide (t.fu ≤ 1000)
def check (t : Tr) : Int := if sized t = false then 3 else if ranged t = false then 2 else if (t.b.zip t.s).any over = true then 4 else 0
theorem check_sized {t : Tr} (h : sized t = false) : check t = 3 := by simp [check, h]
theorem check_ranged {t : Tr} (h : sized t = true) (h2 : ranged t = false) : check t = 2 := by simp [check, h, h2]
theorem check_over {t : Tr} (h : sized t = true) (h2 : ranged t = true) (h3 : (t.b.zip t.s).any over = true) : check t = 4 := by simp [check, h, h2, h3]
theorem check_ok {t : Tr} (h : sized t = true) (h2 : ranged t = true) (h3 : (t.b.zip t.s).any over = false) : check t = 0 := by simp [check, h, h2, h3]
theorem sized_iff {t : Tr} : sized t = true ↔ 1 ≤ t.b.length ∧ t.b.length ≤ 96 ∧ t.s.length = t.b.length := by simp [sized, and_assoc]
theorem any_take {α : Type} {f : α → Bool} {l : List α} {k : Nat} {a : α} (ha : l[k]? = some a) : (l.take (k + 1)).any f = ((l.take k).any f || f a) := by
  rw [take_succ_get ha]; simp
theorem any_at {α : Type} {f : α → Bool} {l : List α} {k : Nat} {a : α} (ha : l[k]? = some a) (hf : f a = true) : l.any f = true := List.any_eq_true.2 ⟨a, List.mem_of_getElem? ha, hf⟩
theorem zip_get {l m : List Int} {k : Nat} {a b : Int} (ha : l[k]? = some a) (hb : m[k]? = some b) : (l.zip m)[k]? = some (a, b) := List.getElem?_zip_eq_some.2 ⟨ha, hb⟩

structure Ok (t : Tr) : Prop where
  n1 : 1 ≤ t.b.length
  n2 : t.b.length ≤ 96
  n3 : t.s.length = t.b.length
  f1 : 1 ≤ t.fu
  f2 : t.fu ≤ 1000
  pb : ∀ x ∈ t.b, 0 ≤ x ∧ x ≤ 1000000
  ps : ∀ x ∈ t.s, 0 ≤ x ∧ x ≤ 1000000
  ov : ∀ (j : Nat) (x y : Int), t.b[j]? = some x → t.s[j]? = some y → y ≤ x
theorem notbad {l : List Int} (h : l.any bad = false) : ∀ x ∈ l, 0 ≤ x ∧ x ≤ 1000000 := by
  intro x hx
  have := List.any_eq_false.1 h x hx
  simp only [bad, Bool.or_eq_true, decide_eq_true_eq] at this
  omega
theorem ok_of {t : Tr} (h : check t = 0) : Ok t := by
  unfold check at h
  split at h
  · omega
  · rename_i h1
    split at h
    · omega
    · rename_i h2
      split at h
      · omega
      · rename_i h3
        have h1 : sized t = true := by simpa using h1
        have h2 : ranged t = true := by simpa using h2
        obtain ⟨a1, a2, a3⟩ := sized_iff.1 h1
        simp only [ranged, Bool.and_eq_true, Bool.not_eq_true', decide_eq_true_eq] at h2
        obtain ⟨⟨⟨b1, b2⟩, b3⟩, b4⟩ := h2
        refine ⟨a1, a2, a3, b3, b4, notbad b1, notbad b2, fun j x y hx hy => ?_⟩
        have := List.any_eq_false.1 (by simpa using h3) (x, y) (List.mem_of_getElem? (zip_get hx hy))
        simp only [over, decide_eq_true_eq] at this
        omega

def slots (t : Tr) : Nat := if check t = 0 then t.b.length else 0
theorem slots_ok {t : Tr} (h : check t = 0) : slots t = t.b.length := by simp [slots, h]
theorem slots_no {t : Tr} (h : ¬ check t = 0) : slots t = 0 := by simp [slots, h]
theorem slots_le (t : Tr) : slots t ≤ 96 := by
  unfold slots; split
  · rename_i h; exact (ok_of h).n2
  · omega
theorem ok_slots {t : Tr} {j : Nat} (h : j < slots t) : check t = 0 := by
  by_cases h0 : check t = 0
  · exact h0
  · rw [slots_no h0] at h; omega
def clamp (n lo hi : Int) : Int := if hi < lo ∨ n > hi then hi else if n < lo then lo else n
def amount (b s net : Int) : Int := if clamp net (-1000) 1000 < 0 then clamp net (-1000) 1000 * s else clamp net (-1000) 1000 * b
def inB (t : Tr) (i : Int) : Bool := decide (0 ≤ i) && decide (i < t.b.length) && decide (check t = 0)
def bAt (t : Tr) (i : Int) : Int := t.b.getD i.toNat 0
def sAt (t : Tr) (i : Int) : Int := t.s.getD i.toNat 0
def cost (t : Tr) (i net : Int) : Int := if inB t i = true then amount (bAt t i) (sAt t i) net else 0
def fit (t : Tr) (i net : Int) : Bool := inB t i && decide (net ≥ -t.fu) && decide (net ≤ t.fu)
theorem inB_of {t : Tr} {i : Int} (h : inB t i = true) : ∃ j : Nat, i = j ∧ j < t.b.length ∧ check t = 0 := by
  simp only [inB, Bool.and_eq_true, decide_eq_true_eq] at h
  exact ⟨i.toNat, by omega, by omega, h.2⟩
theorem clamp_le (n : Int) : -1000 ≤ clamp n (-1000) 1000 ∧ clamp n (-1000) 1000 ≤ 1000 := by
  unfold clamp; split <;> (try split) <;> omega
theorem mul_bound {c p : Int} (hc : -1000 ≤ c ∧ c ≤ 1000) (hp : 0 ≤ p ∧ p ≤ 1000000) : -1000000000 ≤ c * p ∧ c * p ≤ 1000000000 := by
  have h1 : (c + 1000) * p ≥ 0 := Int.mul_nonneg (by omega) hp.1
  have h2 : (1000 - c) * p ≥ 0 := Int.mul_nonneg (by omega) hp.1
  rw [Int.add_mul] at h1
  rw [Int.sub_mul] at h2
  omega
theorem amount_bound {b s n : Int} (hb : 0 ≤ b ∧ b ≤ 1000000) (hs : 0 ≤ s ∧ s ≤ 1000000) : -1000000000 ≤ amount b s n ∧ amount b s n ≤ 1000000000 := by
  unfold amount; split
  · exact mul_bound (clamp_le n) hs
  · exact mul_bound (clamp_le n) hb
theorem bAt_get {t : Tr} {j : Nat} {x : Int} (h : t.b[j]? = some x) : bAt t (j : Int) = x := by simp [bAt, List.getD_eq_getElem?_getD, h]
theorem sAt_get {t : Tr} {j : Nat} {x : Int} (h : t.s[j]? = some x) : sAt t (j : Int) = x := by simp [sAt, List.getD_eq_getElem?_getD, h]
theorem inB_nat {t : Tr} (h : check t = 0) {j : Nat} (hj : j < t.b.length) : inB t (j : Int) = true := by simp [inB, h, hj]
theorem cost_at {t : Tr} (h : check t = 0) {j : Nat} {x y n : Int} (hx : t.b[j]? = some x) (hy : t.s[j]? = some y) : cost t (j : Int) n = amount x y n := by
  unfold cost
  rw [if_pos (inB_nat h (List.getElem?_eq_some_iff.1 hx).1), bAt_get hx, sAt_get hy]
theorem cost_bound (t : Tr) (i n : Int) : -1000000000 ≤ cost t i n ∧ cost t i n ≤ 1000000000 := by
  unfold cost; split
  · rename_i h
    obtain ⟨j, rfl, hj, h0⟩ := inB_of h
    have ho := ok_of h0
    obtain ⟨x, hx⟩ := getSome hj
    obtain ⟨y, hy⟩ := getSome (show j < t.s.length by rw [ho.n3]; exact hj)
    rw [bAt_get hx, sAt_get hy]
    exact amount_bound (ho.pb x (List.mem_of_getElem? hx)) (ho.ps y (List.mem_of_getElem? hy))
  · omega
theorem cost_zero (t : Tr) (i : Int) : cost t i 0 = 0 := by
  unfold cost; split
  · simp [amount, clamp]
  · rfl

/-! ### The sum over the slots -/
def tot (t : Tr) (nets : List Int) : Nat → Int
  | 0 => 0
  | k + 1 => tot t nets k + cost t k (nets.getD k 0)
def total (t : Tr) (nets : List Int) : Int := tot t nets (min nets.length (slots t))
theorem tot_bound (t : Tr) (nets : List Int) : ∀ k : Nat, -(1000000000 * (k : Int)) ≤ tot t nets k ∧ tot t nets k ≤ 1000000000 * (k : Int)
  | 0 => by simp [tot]
  | k + 1 => by
    have h1 := tot_bound t nets k
    have h2 := cost_bound t k (nets.getD k 0)
    simp only [tot]
    omega
theorem tot_past (t : Tr) (nets : List Int) {m : Nat} (hm : nets.length ≤ m) : ∀ d, tot t nets (m + d) = tot t nets m
  | 0 => rfl
  | d + 1 => by
    show tot t nets (m + d) + cost t ((m + d : Nat) : Int) (nets.getD (m + d) 0) = _
    rw [tot_past t nets hm d, List.getD_eq_getElem?_getD, List.getElem?_eq_none (by omega), Option.getD_none, cost_zero, Int.add_zero]

/-! ### Amounts that are split -/
theorem mul_mono {a b p : Int} (h : a ≤ b) (hp : 0 ≤ p) : a * p ≤ b * p := Int.mul_le_mul_of_nonneg_right h hp
theorem amount_in {x y n : Int} (h1 : -1000 ≤ n) (h2 : n ≤ 1000) : amount x y n = if n < 0 then n * y else n * x := by
  have : clamp n (-1000) 1000 = n := by unfold clamp; rw [if_neg (by omega), if_neg (by omega)]
  unfold amount; rw [this]
/-- What a slot costs, as the greater of both prices' worth. -/
theorem amount_max {x y n : Int} (hxy : y ≤ x) (h1 : -1000 ≤ n) (h2 : n ≤ 1000) : (n * x ≤ amount x y n ∧ n * y ≤ amount x y n) ∧ (amount x y n = n * x ∨ amount x y n = n * y) := by
  rw [amount_in h1 h2]
  split
  · refine ⟨⟨?_, Int.le_refl _⟩, .inr rfl⟩
    have := Int.mul_le_mul_of_nonpos_left (show n ≤ 0 by omega) hxy
    omega
  · refine ⟨⟨Int.le_refl _, ?_⟩, .inl rfl⟩
    exact Int.mul_le_mul_of_nonneg_left hxy (by omega)
theorem amount_split {x y a b : Int} (hxy : y ≤ x) (ha : -1000 ≤ a ∧ a ≤ 1000) (hb : -1000 ≤ b ∧ b ≤ 1000) (hab : -1000 ≤ a + b ∧ a + b ≤ 1000) : amount x y (a + b) ≤ amount x y a + amount x y b := by
  obtain ⟨⟨a1, a2⟩, _⟩ := amount_max hxy ha.1 ha.2
  obtain ⟨⟨b1, b2⟩, _⟩ := amount_max hxy hb.1 hb.2
  obtain ⟨_, h⟩ := amount_max hxy hab.1 hab.2
  rcases h with h | h <;> rw [h, Int.add_mul] <;> omega
theorem amount_mono {x y a b : Int} (hy : 0 ≤ y) (hx : 0 ≤ x) (ha : -1000 ≤ a ∧ a ≤ 1000) (hb : -1000 ≤ b ∧ b ≤ 1000) (hab : a ≤ b) : amount x y a ≤ amount x y b := by
  rw [amount_in ha.1 ha.2, amount_in hb.1 hb.2]
  split
  · split
    · exact mul_mono hab hy
    · have h1 : a * y ≤ 0 := by have := mul_mono (show a ≤ 0 by omega) hy; omega
      have h2 : 0 ≤ b * x := Int.mul_nonneg (by omega) hx
      omega
  · rw [if_neg (by omega)]
    exact mul_mono hab hx
theorem cost_split {t : Tr} {i a b : Int} (ha : -1000 ≤ a ∧ a ≤ 1000) (hb : -1000 ≤ b ∧ b ≤ 1000) (hab : -1000 ≤ a + b ∧ a + b ≤ 1000) : cost t i (a + b) ≤ cost t i a + cost t i b := by
  unfold cost; split
  · rename_i h
    obtain ⟨j, rfl, hj, h0⟩ := inB_of h
    have ho := ok_of h0
    obtain ⟨x, hx⟩ := getSome hj
    obtain ⟨y, hy⟩ := getSome (show j < t.s.length by rw [ho.n3]; exact hj)
    rw [bAt_get hx, sAt_get hy]
    exact amount_split (ho.ov j x y hx hy) ha hb hab
  · omega
theorem cost_mono {t : Tr} {i a b : Int} (ha : -1000 ≤ a ∧ a ≤ 1000) (hb : -1000 ≤ b ∧ b ≤ 1000) (hab : a ≤ b) : cost t i a ≤ cost t i b := by
  unfold cost; split
  · rename_i h
    obtain ⟨j, rfl, hj, h0⟩ := inB_of h
    have ho := ok_of h0
    obtain ⟨x, hx⟩ := getSome hj
    obtain ⟨y, hy⟩ := getSome (show j < t.s.length by rw [ho.n3]; exact hj)
    rw [bAt_get hx, sAt_get hy]
    exact amount_mono (ho.ps y (List.mem_of_getElem? hy)).1 (ho.pb x (List.mem_of_getElem? hx)).1 ha hb hab
  · omega
theorem cost_back {t : Tr} {i a : Int} (ha : -1000 ≤ a ∧ a ≤ 1000) : 0 ≤ cost t i a + cost t i (-a) := by
  have := cost_split (t := t) (i := i) (a := a) (b := -a) ha (by omega) (by omega)
  rw [Int.add_right_neg, cost_zero] at this
  omega

/-! ### The cheapest slots -/
def sumAt (b : List Int) (i k : Nat) : Int := ((b.drop i).take k).sum
def best (b : List Int) (k : Nat) : Nat → Nat
  | 0 => 0
  | m + 1 => if sumAt b (m + 1) k < sumAt b (best b k m) k then m + 1 else best b k m
def cheapest (t : Tr) (k : Int) : Int := if 1 ≤ k ∧ k ≤ slots t then (best t.b k.toNat (t.b.length - k.toNat) : Int) else -1
theorem best_le (b : List Int) (k : Nat) : ∀ m, best b k m ≤ m
  | 0 => Nat.le_refl _
  | m + 1 => by
    unfold best; split
    · omega
    · have := best_le b k m; omega
theorem best_min (b : List Int) (k : Nat) : ∀ m i, i ≤ m → sumAt b (best b k m) k ≤ sumAt b i k ∧ (i < best b k m → sumAt b (best b k m) k < sumAt b i k)
  | 0, i, hi => by
    have : i = 0 := by omega
    subst this
    exact ⟨Int.le_refl _, fun h => absurd h (by unfold best; omega)⟩
  | m + 1, i, hi => by
    have hl := best_le b k m
    unfold best
    split
    · rename_i h
      by_cases hi' : i = m + 1
      · subst hi'; exact ⟨Int.le_refl _, fun h => absurd h (by omega)⟩
      · have := (best_min b k m i (by omega)).1
        exact ⟨by omega, fun _ => by omega⟩
    · rename_i h
      by_cases hi' : i = m + 1
      · subst hi'; exact ⟨by omega, fun h2 => absurd h2 (by omega)⟩
      · exact best_min b k m i (by omega)
theorem sum_bound {l : List Int} (h : ∀ x ∈ l, 0 ≤ x ∧ x ≤ 1000000) : 0 ≤ l.sum ∧ l.sum ≤ 1000000 * (l.length : Int) := by
  induction l with
  | nil => simp
  | cons x l ih =>
    have h1 := h x (List.mem_cons_self ..)
    have h2 := ih fun y hy => h y (List.mem_cons_of_mem _ hy)
    simp only [List.sum_cons, List.length_cons]
    omega
theorem sum_take {l : List Int} {k : Nat} {a : Int} (ha : l[k]? = some a) : (l.take (k + 1)).sum = (l.take k).sum + a := by
  rw [take_succ_get ha]; simp
theorem sumAt_succ {b : List Int} {i k : Nat} {a : Int} (ha : b[i + k]? = some a) : sumAt b i (k + 1) = sumAt b i k + a := by
  unfold sumAt; exact sum_take (by rw [List.getElem?_drop]; exact ha)
theorem sumAt_move {b : List Int} {i k : Nat} {x y : Int} (hk : 1 ≤ k) (hx : b[i]? = some x) (hy : b[i + k]? = some y) : sumAt b (i + 1) k = sumAt b i k + y - x := by
  have h1 : sumAt b i (k + 1) = sumAt b i k + y := sumAt_succ hy
  have h2 : sumAt b i (k + 1) = x + sumAt b (i + 1) k := by
    unfold sumAt; rw [drop_get hx, List.take_succ_cons, List.sum_cons]
  omega
theorem sumAt_bound {b : List Int} (h : ∀ x ∈ b, 0 ≤ x ∧ x ≤ 1000000) (i k : Nat) : 0 ≤ sumAt b i k ∧ sumAt b i k ≤ 1000000 * (k : Int) := by
  have h1 := sum_bound (l := (b.drop i).take k) fun x hx => h x (List.drop_subset _ _ (List.take_subset _ _ hx))
  have h2 : ((b.drop i).take k).length ≤ k := by simp; omega
  unfold sumAt; omega
theorem sumAt_one {b : List Int} {i : Nat} {x : Int} (hx : b[i]? = some x) : sumAt b i 1 = x := by
  have : sumAt b i (0 + 1) = sumAt b i 0 + x := sumAt_succ hx
  simpa [sumAt] using this
end Tf
