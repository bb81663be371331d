/- Small rules more. Conditions: none. -/
import Derived.Test.YtmjhhmilgebbbaaGxDraw
namespace Go.GX
open Go.RowKit
set_option linter.unusedVariables false
section
variable {P : Program} {N : Nat} {σ : Store} {w : World} {ops l : List Oper} {K : Act → World → Prop}
/-- A slot's value written otherwise. -/
theorem RunL.setV (t : Nat) {v v' : Value} (hl : look σ t = some v) (e : v = v') (h : RunL P N ops l ((t, v') :: σ) w K) : RunL P N ops l σ w K :=
  fun a ha => h a (ha.weaken fun t' u hu => by
    rw [look_cons] at hu
    split at hu
    · rename_i e'; subst e'; cases hu; rw [← e]; exact hl
    · exact hu)
/-- A test that is known. -/
theorem RunL.setB (t : Nat) {b : Bool} (c : Bool) (hl : look σ t = some (.bool b)) (e : b = c) (h : RunL P N ops l ((t, .bool c) :: σ) w K) : RunL P N ops l σ w K :=
  RunL.setV t hl (by rw [e]) h
end
end Go.GX
