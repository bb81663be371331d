/- What the operations do to a map. Conditions: none. -/
import Derived.Test.YtiepojpebndgoaaGxMap
namespace Go.GX
open Go.RowKit
set_option linter.unusedVariables false
set_option linter.unusedSectionVars false
set_option linter.unusedSimpArgs false
section
variable {K : Type} [DecidableEq K] {P : Program} {t kt et : TypeId} {enc : K → Value} {w w' : World} {b : Nat} {m : List (K × Value)} {z v : Value}
theorem run_lookupM (hK : KeyK P kt enc) (hm : P.underlying t = some (.map kt et)) (hz : ∀ w, (zeroValue et).run P w = .ok z w) (h : MapAt enc w b m) (k : K) (ok : Bool) :
    (Instr.lookup t (.map (some b)) (enc k) ok).run P w = .ok (if ok then .tuple #[(getM k m).getD z, .bool (getM k m).isSome] else (getM k m).getD z) w := by
  obtain ⟨es, clock, h1, h2, h3⟩ := h
  have hf := hK.find k m es.toList w h2
  have hg := fndL_getM k m 0
  unfold Instr.lookup
  simp only [Sem.run_bind, run_underlying hm, MapKept.run_getObj_map h1, hK.check, Result.andThen]
  cases hx : fndL k m 0 with
  | none =>
    rw [hx] at hg hf
    have hg' : getM k m = none := hg.symm
    rw [hg']
    cases ok <;> simp [hf, hz, Result.andThen]
  | some p =>
    rw [hx] at hg hf
    obtain ⟨i, u⟩ := p
    have hg' : getM k m = some u := hg.symm
    rw [hg']
    cases ok <;> simp [hf, Result.andThen]
end
end Go.GX
