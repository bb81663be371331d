/- Arguments of a law, opened as the walks want them. Conditions: none. -/
import Derived.Test.YtmjhhmilgebbbaaGxMem
import Derived.SliceStrings
namespace Go.GX
open Go.RowKit Go.ChangeShapes Go.WideShapes
set_option linter.unusedVariables false
theorem add_none (b off j : Nat) : (⟨b, off, none⟩ : Addr).add j = ⟨b, off + j, none⟩ := by unfold Addr.add; split <;> simp_all
/-- A list of strings that came in. -/
theorem open_strsI {H : Type} {enc : TypeId × Value → H} {P : Program} {w : World} {base t e fuel : Nat} {a0 : Option Addr} {len cap : Nat} {x : DataW H × List MemPlace} (ht : P.underlying t = some (.slice e)) (he : P.underlying e = some .string) (hc : P.cellsOf e = 1)
    (h : DataW.trod enc P w base (fun _ => true) true fuel t [.slice a0 len cap] = some x) : ∃ l : List (List UInt8), IsSl w (.slice a0 len cap) (l.map str) l.length ∧ ∀ s ∈ l, s.length ≤ 9223372036854775807 := by
  rcases open_strings ht he hc h with ⟨hcs, _⟩ | ⟨a, len', cap', ss, hcs, _, hl, hm, hz, _, hcell, hw⟩
  · simp at hcs
    obtain ⟨rfl, rfl, rfl⟩ := hcs
    exact ⟨[], IsSl.nil _, fun s h => by cases h⟩
  · simp at hcs
    obtain ⟨rfl, rfl, rfl⟩ := hcs
    simp only [if_true] at hz
    by_cases h0 : len = 0
    · subst h0
      exact ⟨[], .inl ⟨.inr ⟨_, _, rfl⟩, rfl, rfl⟩, fun s h => by cases h⟩
    · obtain ⟨b, off, spot⟩ := a
      have hlen : ((ss.take len).map fun s => s.data.toList).length = len := by simp; omega
      have hspot : spot = none := by simpa [Addr.add] using World.cell?_spot (hcell 0 (by omega))
      subst hspot
      refine ⟨(ss.take len).map fun s => s.data.toList, .inr ⟨b, off, cap, by rw [hlen], fun j u hu => ?_⟩, fun s hs => ?_⟩
      rotate_left
      · obtain ⟨y, hy, rfl⟩ := List.mem_map.1 hs
        have := hw y (List.mem_of_mem_take hy)
        unfold maxLen at this
        have e : y.data.toList.length = y.size := rfl
        omega
      rw [List.map_map, List.getElem?_map] at hu
      have hj : j < len := by
        rcases Nat.lt_or_ge j len with h' | h'
        · exact h'
        · rw [List.getElem?_eq_none (by simp; omega)] at hu; cases hu
      rw [List.getElem?_take_of_lt hj, List.getElem?_eq_getElem (by omega)] at hu
      cases hu
      have := hcell j (by omega)
      rw [add_none, List.getD_eq_getElem?_getD, List.getElem?_eq_getElem (by omega)] at this
      rw [this]
      rfl
end Go.GX
