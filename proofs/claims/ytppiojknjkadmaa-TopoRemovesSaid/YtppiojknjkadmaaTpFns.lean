/- What the functions on graphs return. Conditions: none. -/
import Derived.Test.YtppiojknjkadmaaTpEx
namespace Go.GX.Tp
open Go.GX
set_option linter.unusedVariables false
set_option linter.unusedSectionVars false
set_option linter.unusedSimpArgs false
def hopsZ (o : Option Nat) : Int := match o with
  | none => -1
  | some k => (k : Int)
/-- The greatest distance. -/
def depthD (D : Int → Option Nat) : Nat := (reachD D).foldl (fun a n => max a (dz (D n))) 0
theorem foldl_max_spec (f : Int → Nat) : ∀ (l : List Int) (a : Nat), a ≤ l.foldl (fun a n => max a (f n)) a ∧ (∀ n ∈ l, f n ≤ l.foldl (fun a n => max a (f n)) a) ∧ (l.foldl (fun a n => max a (f n)) a = a ∨ ∃ n ∈ l, f n = l.foldl (fun a n => max a (f n)) a)
  | [], a => ⟨Nat.le_refl _, (fun n hn => by cases hn), .inl rfl⟩
  | x :: l, a => by
    obtain ⟨h1, h2, h3⟩ := foldl_max_spec f l (max a (f x))
    rw [List.foldl_cons]
    refine ⟨by omega, fun n hn => ?_, ?_⟩
    · rcases List.mem_cons.1 hn with rfl | hn
      · omega
      · exact h2 n hn
    · rcases h3 with h3 | ⟨n, hn, h3⟩
      · by_cases h : f x ≤ a
        · left; rw [h3]; omega
        · right; exact ⟨x, List.mem_cons_self .., by rw [h3]; omega⟩
      · right; exact ⟨n, List.mem_cons_of_mem _ hn, h3⟩
theorem depthD_is {D : Int → Option Nat} (ok : ∀ n k, D n = some k → okN n = true) {M : Nat} (h1 : ∀ n k, D n = some k → k ≤ M) (h2 : M = 0 ∨ ∃ n, D n = some M) : depthD D = M := by
  obtain ⟨g1, g2, g3⟩ := foldl_max_spec (fun n => dz (D n)) (reachD D) 0
  unfold depthD
  generalize (reachD D).foldl (fun a n => max a (dz (D n))) 0 = F at g1 g2 g3
  have hle : F ≤ M := by
    rcases g3 with g3 | ⟨n, hn, g3⟩
    · omega
    · obtain ⟨k, hk⟩ := Option.isSome_iff_exists.1 (mem_reachD.1 hn).2
      rw [hk] at g3
      have := h1 n k hk
      simp [dz] at g3; omega
  rcases h2 with h2 | ⟨n, hn⟩
  · omega
  · have := g2 n (mem_reachD.2 ⟨ok n M hn, by rw [hn]; rfl⟩)
    rw [hn] at this
    simp [dz] at this; omega
def parentD (l : List Ed) (D : Int → Option Nat) (n : Int) : Int := match D n with
  | none => -1
  | some at_ => ((nbrs l n).find? fun k => ((dz (D k) : Nat) : Int) == (at_ : Int) - 1).getD (-1)
noncomputable def critical (l : List Ed) (root c : Int) : Bool := c != root && decide (((reachD (dist (without l [c]) root)).length : Int) < ((reachD (dist l root)).length : Int) - 1)
noncomputable def cutL (l : List Ed) (root : Int) : List Int := (reachD (dist l root)).filter (critical l root)
theorem len_reach {D : Int → Option Nat} {dm : List (Int × Value)} (hn : (dm.map (·.1)).Nodup) (hok : ∀ n k, D n = some k → okN n = true) (hd : ∀ n, n ∈ dm.map (·.1) ↔ (D n).isSome = true) : dm.length = (reachD D).length := by
  have hnr : (reachD D).Nodup := (reachD_sorted D).imp fun h => by omega
  have h1 : (dm.map (·.1)).Subset (reachD D) := fun x hx => by
    have := (hd x).1 hx
    obtain ⟨k, hk⟩ := Option.isSome_iff_exists.1 this
    exact mem_reachD.2 ⟨hok x k hk, this⟩
  have h2 : (reachD D).Subset (dm.map (·.1)) := fun x hx => (hd x).2 (mem_reachD.1 hx).2
  have := List.Nodup.length_le_of_subset hn h1
  have := List.Nodup.length_le_of_subset hnr h2
  simp at *
  omega

/-! ### Distances in an array: -1 where there is none -/
def dArr (D : Int → Option Nat) : List Int := (List.range 251).map fun k => hopsZ (D (Int.ofNat k))
theorem dArr_len (D : Int → Option Nat) : (dArr D).length = 251 := by simp [dArr]
theorem okN_nat {a : Int} (h : okN a = true) : ∃ k : Nat, a = (k : Int) ∧ k < 251 := by
  simp only [okN, Bool.and_eq_true, decide_eq_true_eq] at h
  exact ⟨a.toNat, by omega, by omega⟩
theorem dArr_get (D : Int → Option Nat) {k : Nat} (h : k < 251) : (dArr D)[k]? = some (hopsZ (D (k : Int))) := by
  simp [dArr, h]
theorem dArr_set (D : Int → Option Nat) {k s : Nat} (h : k < 251) : (dArr D).set k (s : Int) = dArr (updD D (k : Int) s) := by
  apply List.ext_getElem?
  intro i
  by_cases hi : i < 251
  · rw [dArr_get _ hi, List.getElem?_set, dArr_get _ hi]
    by_cases hk : k = i
    · subst hk; simp [updD, dArr_len, h, hopsZ]
    · have : (i : Int) ≠ (k : Int) := by omega
      simp [hk, updD, this]
  · rw [List.getElem?_eq_none (by simp [dArr_len]; omega), List.getElem?_eq_none (by simp [dArr_len]; omega)]
def preArr (k : Nat) : List Int := (List.range 251).map fun i => if i < k then -1 else 0
theorem preArr_len (k : Nat) : (preArr k).length = 251 := by simp [preArr]
theorem preArr_set {k : Nat} (h : k < 251) : (preArr k).set k (-1) = preArr (k + 1) := by
  apply List.ext_getElem?
  intro i
  rw [List.getElem?_set]
  by_cases hi : i < 251
  · by_cases hk : k = i
    · subst hk; simp [preArr, h]
    · have : (i < k) ↔ (i < k + 1) := by omega
      simp [preArr, hk, hi, this]
  · have h1 : 251 ≤ i := by omega
    have h2 : k ≠ i := by omega
    simp [preArr, h1, h2, hi]
theorem preArr_all : preArr 251 = dArr fun _ => none := by
  apply List.ext_getElem?
  intro i
  by_cases hi : i < 251
  · simp [preArr, dArr, hi, hopsZ]
  · simp [preArr, dArr, hi]
theorem preArr_zero : preArr 0 = List.replicate 251 0 := by
  unfold preArr
  rw [List.eq_replicate_iff]
  exact ⟨by simp, fun b hb => by obtain ⟨i, hi, rfl⟩ := List.mem_map.1 hb; simp⟩
theorem hopsZ_eq {o : Option Nat} {s : Nat} : hopsZ o = (s : Int) ↔ o = some s := by
  cases o with
  | none => simp [hopsZ]
  | some k => simp only [hopsZ, Option.some.injEq]; omega
theorem hopsZ_neg {o : Option Nat} : hopsZ o < 0 ↔ o = none := by
  cases o with
  | none => simp [hopsZ]
  | some k => simp [hopsZ]

theorem parent_none {l : List Ed} {root n : Int} {D : Int → Option Nat} (hD : IsDist l root D) (h : hopsZ (D n) < 1) : parentD l D n = -1 := by
  unfold parentD
  cases hh : D n with
  | none => rfl
  | some k =>
    rw [hh] at h
    have hk : k = 0 := by simp only [hopsZ] at h; omega
    subst hk
    simp only []
    rw [List.find?_eq_none.2 (fun x _ => by simp only [beq_iff_eq]; omega)]; rfl
theorem near_some {l : List Ed} {root n k : Int} {D : Int → Option Nat} {at_ : Nat} (hD : IsDist l root D) (hat : D n = some at_) (hl : linked l n k = true) : ∃ j, D k = some j := by
  obtain ⟨j, _, hj⟩ := hD.step n k at_ hl hat; exact ⟨j, hj⟩
theorem parent_eq {l : List Ed} {root n k : Int} {D : Int → Option Nat} {at_ : Nat} (hD : IsDist l root D) (hat : D n = some at_) (h1 : 1 ≤ at_) (hl : linked l n k = true) : (((dz (D k) : Nat) : Int) == (at_ : Int) - 1) = decide (D k = some (at_ - 1)) := by
  obtain ⟨j, hj⟩ := near_some hD hat hl
  rw [hj, Bool.eq_iff_iff]
  simp [dz]
  omega
theorem parent_not {l : List Ed} {root n : Int} {D : Int → Option Nat} {at_ : Nat} (hD : IsDist l root D) (hat : D n = some at_) (h1 : 1 ≤ at_) (hno : ∀ k : Nat, k < 251 → ¬ (D (k : Int) = some (at_ - 1) ∧ linked l n (k : Int) = true)) : parentD l D n = -1 := by
  unfold parentD
  rw [hat]
  simp only []
  rw [List.find?_eq_none.2 (fun x hx => ?_)]; rfl
  have hl := mem_nbrs.1 hx
  obtain ⟨k, rfl, hk⟩ := okN_nat (linked_ok hl).2.1
  rw [parent_eq hD hat h1 hl]
  intro h
  exact hno k hk ⟨of_decide_eq_true h, hl⟩
theorem parent_found {l : List Ed} {root n : Int} {D : Int → Option Nat} {at_ j : Nat} (hD : IsDist l root D) (hat : D n = some at_) (h1 : 1 ≤ at_) (hj : D (j : Int) = some (at_ - 1)) (hl : linked l n (j : Int) = true) (hno : ∀ k : Nat, k < j → ¬ (D (k : Int) = some (at_ - 1) ∧ linked l n (k : Int) = true)) : parentD l D n = (j : Int) := by
  unfold parentD
  rw [hat]
  simp only []
  have hin : (j : Int) ∈ nbrs l n := mem_nbrs.2 hl
  obtain ⟨i, hi, he⟩ := List.getElem_of_mem hin
  have hget : (nbrs l n)[i]? = some (j : Int) := by rw [List.getElem?_eq_getElem hi, he]
  rw [find_at hget (fun x hx => ?_) (by rw [parent_eq hD hat h1 hl]; exact decide_eq_true hj)]; rfl
  have hx' : x ∈ nbrs l n := List.mem_of_mem_take hx
  have hlx := mem_nbrs.1 hx'
  obtain ⟨k, rfl, hk⟩ := okN_nat (linked_ok hlx).2.1
  have hlt : (k : Int) < (j : Int) := by
    obtain ⟨i2, h2, e2⟩ := List.getElem_of_mem hx
    have h3 : i2 < i := by simp at h2; omega
    have := List.pairwise_iff_getElem.1 (nbrs_sorted l n) i2 i (by omega) hi h3
    rw [he] at this
    rw [List.getElem_take] at e2
    rw [← e2]; exact this
  rw [parent_eq hD hat h1 hlx]
  refine decide_eq_false fun h => hno k (by omega) ⟨h, hlx⟩
end Go.GX.Tp
