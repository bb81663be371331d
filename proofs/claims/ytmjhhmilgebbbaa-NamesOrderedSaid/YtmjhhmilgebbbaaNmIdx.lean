/- Layer 4: the first index of a text, lists of names. Conditions: none. -/
import Derived.Test.YtmjhhmilgebbbaaNmLaw
import Derived.Shelf.Strings.Search1
import Derived.Shelf.Slices.Turned
set_option linter.unusedVariables false
namespace Nm
open Go
def bs (s : List UInt8) : ByteArray := ⟨s.toArray⟩
theorem bs_inj {a b : List UInt8} (h : bs a = bs b) : a = b := by
  have := congrArg (fun x : ByteArray => x.data.toList) h
  simpa [bs] using this
def idx (l : List (List UInt8)) (s : List UInt8) : Int := Lib.idxOfS (l.map bs) (bs s)
theorem getD_mem {l : List (List UInt8)} {k : Nat} (h : k < l.length) : l.getD k [] ∈ l := by
  rw [List.getD_eq_getElem?_getD, List.getElem?_eq_getElem h]; exact List.getElem_mem h
theorem bsAt {l : List (List UInt8)} {k : Nat} (h : k < l.length) : (l.map bs).getD k ByteArray.empty = bs (l.getD k []) := by
  rw [List.getD_eq_getElem?_getD, List.getElem?_map, List.getElem?_eq_getElem h, List.getD_eq_getElem?_getD, List.getElem?_eq_getElem h]; rfl
theorem idx_at {l : List (List UInt8)} {s : List UInt8} {k : Nat} (hk : k < l.length) (h : l.getD k [] = s) (hne : ∀ j, j < k → l.getD j [] ≠ s) : idx l s = (k : Int) := by
  unfold idx Lib.idxOfS
  rw [Lib.idxFromS_hit (bs s) (l.map bs) k 0 (by simpa using hk) (by rw [bsAt hk, h]) (fun j hj e => hne j hj (bs_inj (by rwa [bsAt (by omega)] at e)))]
  simp
theorem idx_none {l : List (List UInt8)} {s : List UInt8} (hne : ∀ j, j < l.length → l.getD j [] ≠ s) : idx l s = -1 := by
  unfold idx Lib.idxOfS
  exact Lib.idxFromS_miss (bs s) (l.map bs) 0 (fun j hj e => hne j (by simpa using hj) (bs_inj (by rwa [bsAt (by simpa using hj)] at e)))
def okAt (l : List (List UInt8)) (k : Nat) : Bool := !(!valid (l.getD k []) || decide (idx l (l.getD k []) < (k : Int)))
def distinct (l : List (List UInt8)) : Bool := (List.range l.length).all fun k => okAt l k
theorem okAt_of {l : List (List UInt8)} {k : Nat} (h : (!valid (l.getD k []) || decide (idx l (l.getD k []) < (k : Int))) = false) : okAt l k = true := by unfold okAt; rw [h]; rfl
theorem distinct_false {l : List (List UInt8)} {k : Nat} (hk : k < l.length) (h : (!valid (l.getD k []) || decide (idx l (l.getD k []) < (k : Int))) = true) : distinct l = false := by
  unfold distinct
  rw [List.all_eq_false]
  exact ⟨k, by simpa using hk, by unfold okAt; rw [h]; simp⟩
theorem distinct_true {l : List (List UInt8)} (h : ∀ k, k < l.length → okAt l k = true) : distinct l = true := by
  unfold distinct
  simp only [List.all_eq_true, List.mem_range]
  exact h
end Nm
