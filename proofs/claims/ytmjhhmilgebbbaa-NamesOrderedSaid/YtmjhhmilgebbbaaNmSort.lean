/- Layer 4: the sorted list of the different texts. Conditions: none. -/
import Derived.Test.YtmjhhmilgebbbaaNmIdx
import Derived.Shelf.Sort.Plain
import Derived.Shelf.Slices.CompactS
import Derived.Lib.OwnBridge
import Derived.Lib.RowBridge
import Derived.Lib.AppendIntMem
set_option linter.unusedVariables false
namespace Nm
open Go Go.RowKit
def sorted (l : List (List UInt8)) : List (List UInt8) := Lib.compact (l.mergeSort fun x y => decide (x ≤ y))
theorem sorted_nil : sorted [] = [] := by simp [sorted]; rfl
theorem below_grow {w0 w : World} (os : Array Obj) (h : Below w0.heap.size w0 w) : Below w0.heap.size w0 (Sort.grow w os) := by
  refine ⟨h.os, h.tape, h.output, ?_, fun k hk => ?_⟩
  · have := h.size; simp [Sort.grow]; omega
  · rw [← h.block k hk]
    have h2 := h.size
    simp [Sort.grow, Array.getElem?_append_left (show k < w.heap.size by omega)]
end Nm
