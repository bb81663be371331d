/- The map's operations as rules of a region. Conditions: none. -/
import Derived.Test.YtiepojpebndgoaaGxMap3
namespace Go.GX
open Go.RowKit
set_option linter.unusedVariables false
set_option linter.unusedSectionVars false
set_option linter.unusedSimpArgs false
section
variable {K : Type} [DecidableEq K] {P : Program} {t kt et : TypeId} {enc : K → Value} {w : World} {b : Nat} {m : List (K × Value)} {z v : Value}
  {N : Nat} {σ : Store} {ops l : List Oper} {KK : Act → World → Prop} {d : Nat} {ty : TypeId} {pos : String} {af : Array Edge} {gd : Option (Nat × Bool)}
theorem RunL.makeM (enc : K → Value) (hs : stat N ops ⟨some d, .makeMap t none, ty, pos, af, gd⟩ σ = true)
    (h : ∀ w', MapAt enc w' w.heap.size [] → Below w.heap.size w w' → RunL P N ops l ((d, .map (some w.heap.size)) :: σ) w' KK) : RunL P N ops (⟨some d, .makeMap t none, ty, pos, af, gd⟩ :: l) σ w KK := by
  refine RunL.op (w' := w.alloc (.map #[] 0)) hs ?_ (h _ ⟨#[], 0, (MapKept.heap_alloc w _).1, rfl, MapKept.stamped_empty 0⟩ ((Below.refl _ _).alloc (Nat.le_refl _) _))
  simp [execOp, run_makeMap]
theorem RunL.lookM {x y : Operand} {k : K} (hK : KeyK P kt enc) (hM : MapAt enc w b m) (hs : stat N ops ⟨some d, .lookup t x y false, ty, pos, af, gd⟩ σ = true) (hm : P.underlying t = some (.map kt et)) (hz : ∀ w, (zeroValue et).run P w = .ok z w)
    (hx : lookO σ x = some (.map (some b))) (hy : lookO σ y = some (enc k)) (h : RunL P N ops l ((d, (getM k m).getD z) :: σ) w KK) : RunL P N ops (⟨some d, .lookup t x y false, ty, pos, af, gd⟩ :: l) σ w KK := by
  refine RunL.op hs ?_ h
  simp [execOp, evO_of_lookO hx, evO_of_lookO hy, run_lookupM hK hm hz hM k false]
theorem RunL.lookOkM {x y : Operand} {k : K} (hK : KeyK P kt enc) (hM : MapAt enc w b m) (hs : stat N ops ⟨some d, .lookup t x y true, ty, pos, af, gd⟩ σ = true) (hm : P.underlying t = some (.map kt et)) (hz : ∀ w, (zeroValue et).run P w = .ok z w)
    (hx : lookO σ x = some (.map (some b))) (hy : lookO σ y = some (enc k)) (h : RunL P N ops l ((d, .tuple #[(getM k m).getD z, .bool (getM k m).isSome]) :: σ) w KK) : RunL P N ops (⟨some d, .lookup t x y true, ty, pos, af, gd⟩ :: l) σ w KK := by
  refine RunL.op hs ?_ h
  simp [execOp, evO_of_lookO hx, evO_of_lookO hy, run_lookupM hK hm hz hM k true]
theorem RunL.updM {x y u : Operand} {k : K} (hK : KeyK P kt enc) (hM : MapAt enc w b m) (hs : stat N ops ⟨none, .mapUpdate t x y u, ty, pos, af, gd⟩ σ = true) (hm : P.underlying t = some (.map kt et))
    (hx : lookO σ x = some (.map (some b))) (hy : lookO σ y = some (enc k)) (hu : lookO σ u = some v)
    (h : ∀ w', MapAt enc w' b (setM k v m) → w.grownBy w' (some b) → w'.heap.size = w.heap.size → RunL P N ops l σ w' KK) : RunL P N ops (⟨none, .mapUpdate t x y u, ty, pos, af, gd⟩ :: l) σ w KK := by
  obtain ⟨w', h1, h2, h3, h4⟩ := run_updateM hK hm hM k v
  refine RunL.opU (w' := w') hs ?_ (h w' h2 h3 h4)
  simp [execOp, evO_of_lookO hx, evO_of_lookO hy, evO_of_lookO hu, h1]
end
end Go.GX
