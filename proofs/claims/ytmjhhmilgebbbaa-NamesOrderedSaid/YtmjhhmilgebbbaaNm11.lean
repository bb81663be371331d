/- A part of the proof: contracts of the program's functions. Conditions: none. -/
import Derived.Test.YtmjhhmilgebbbaaNm10
import Derived.Test.YtmjhhmilgebbbaaGxDraw
namespace Go.Proofs.Ytmjhhmilgebbbaa
open Go.GX Go.RowKit
attribute [local irreducible] Calls Run RunL RunQ RunD
set_option linter.unusedVariables false
set_option maxRecDepth 100000


theorem lives_any (w : World) :
    Calls Try.prog 12 #[] w fun e w' => e = .returned (.bool true) ∧ Below w.heap.size w w' := by
  have u1 := fun w' => unquote_any [34, 92, 120, 48, 97, 34] w' (by decide)
  rw [show Nm.unq [34, 92, 120, 48, 97, 34] = ([10], 0) by decide] at u1
  have u2 := fun w' => unquote_any [34, 92, 120, 52, 49, 34] w' (by decide)
  rw [show Nm.unq [34, 92, 120, 52, 49, 34] = ([], 4) by decide] at u2
  have u3 := fun w' => fields_any [115, 101, 116, 32, 34, 97, 32, 98, 34, 32, 49] w' (by decide)
  rw [show Nm.fieldsR [115, 101, 116, 32, 34, 97, 32, 98, 34, 32, 49] = ([[115, 101, 116], [34, 97, 32, 98, 34], [49]], 0) by decide] at u3
  have u4 := fun w' => valid_any [119, 101, 98, 45, 49] w' (by decide)
  rw [show Nm.valid [119, 101, 98, 45, 49] = true by decide] at u4
  have u5 := fun w' => valid_any [49, 97] w' (by decide)
  rw [show Nm.valid [49, 97] = false by decide] at u5
  refine calls_of_run Try.func12 rfl (Nat.le_of_ble_eq_true rfl) ?_
  refine Run.sub (σ' := []) trivial ?_
  repeat' (first | refine RunL.ev rfl rfl ?_ | refine RunL.evc rfl rfl (by first | omega | (simp; done) | (simp; omega) | exact List.length_pos_iff.2 (by assumption)) ?_ | refine RunL.nil ?_ | refine Run.ctl rfl ?_ | refine Run.region ?_ | refine Run.condT rfl ?_ | refine Run.condF rfl ?_ | refine RunL.skip rfl rfl ?_ | refine RunL.skip0 rfl ?_ | exact RunL.blkEnd rfl rfl | apply RunL.andB rfl rfl rfl rfl rfl rfl rfl rfl | apply RunL.orB rfl rfl rfl rfl rfl rfl rfl rfl | (refine fun (hb : (_ : Bool) = _) => ?_; try simp at hb))
  refine RunL.callB fn13 rfl rfl (u1 _) ?_
  intro w1 hb1
  repeat' (first | refine RunL.ev rfl rfl ?_ | refine RunL.evc rfl rfl (by first | omega | (simp; done) | (simp; omega) | exact List.length_pos_iff.2 (by assumption)) ?_ | refine RunL.nil ?_ | refine Run.ctl rfl ?_ | refine Run.region ?_ | refine Run.condT rfl ?_ | refine Run.condF rfl ?_ | refine RunL.skip rfl rfl ?_ | refine RunL.skip0 rfl ?_ | exact RunL.blkEnd rfl rfl | apply RunL.andB rfl rfl rfl rfl rfl rfl rfl rfl | apply RunL.orB rfl rfl rfl rfl rfl rfl rfl rfl | (refine fun (hb : (_ : Bool) = _) => ?_; try simp at hb))
  refine RunL.callB fn13 rfl rfl (u2 _) ?_
  intro w2 hb2
  repeat' (first | refine RunL.ev rfl rfl ?_ | refine RunL.evc rfl rfl (by first | omega | (simp; done) | (simp; omega) | exact List.length_pos_iff.2 (by assumption)) ?_ | refine RunL.nil ?_ | refine Run.ctl rfl ?_ | refine Run.region ?_ | refine Run.condT rfl ?_ | refine Run.condF rfl ?_ | refine RunL.skip rfl rfl ?_ | refine RunL.skip0 rfl ?_ | exact RunL.blkEnd rfl rfl | apply RunL.andB rfl rfl rfl rfl rfl rfl rfl rfl | apply RunL.orB rfl rfl rfl rfl rfl rfl rfl rfl | (refine fun (hb : (_ : Bool) = _) => ?_; try simp at hb))
  refine RunL.call fn15 rfl rfl ((u3 _).mono ?_)
  rintro e w3 ⟨v, rfl, hsl, hb3⟩
  refine ⟨_, rfl, ?_⟩
  repeat' (first | refine RunL.ev rfl rfl ?_ | refine RunL.evc rfl rfl (by first | omega | (simp; done) | (simp; omega) | exact List.length_pos_iff.2 (by assumption)) ?_ | refine RunL.nil ?_ | refine Run.ctl rfl ?_ | refine Run.region ?_ | refine Run.condT rfl ?_ | refine Run.condF rfl ?_ | refine RunL.skip rfl rfl ?_ | refine RunL.skip0 rfl ?_ | exact RunL.blkEnd rfl rfl | apply RunL.andB rfl rfl rfl rfl rfl rfl rfl rfl | apply RunL.orB rfl rfl rfl rfl rfl rfl rfl rfl | (refine fun (hb : (_ : Bool) = _) => ?_; try simp at hb))
  refine RunL.callB fn20 rfl rfl (u4 _) ?_
  intro w4 hb4
  repeat' (first | refine RunL.ev rfl rfl ?_ | refine RunL.evc rfl rfl (by first | omega | (simp; done) | (simp; omega) | exact List.length_pos_iff.2 (by assumption)) ?_ | refine RunL.nil ?_ | refine Run.ctl rfl ?_ | refine Run.region ?_ | refine Run.condT rfl ?_ | refine Run.condF rfl ?_ | refine RunL.skip rfl rfl ?_ | refine RunL.skip0 rfl ?_)
  refine RunL.callB fn20 rfl rfl (u5 _) ?_
  intro w5 hb5
  repeat' (first | refine RunL.ev rfl rfl ?_ | refine RunL.evc rfl rfl (by first | omega | (simp; done) | (simp; omega) | exact List.length_pos_iff.2 (by assumption)) ?_ | refine RunL.lenI hsl rfl rfl rfl ?_ | refine RunL.idxI hsl elem27 1 rfl rfl rfl rfl (by decide) ?_ | refine RunL.loadI ((hsl.ext hb4).ext hb5) rfl rfl rfl rfl rfl ?_ | refine RunL.nil ?_ | refine Run.ctl rfl ?_ | refine Run.region ?_ | refine Run.condT rfl ?_ | refine Run.condF rfl ?_ | refine RunL.skip rfl rfl ?_ | refine RunL.skip0 rfl ?_)
  refine Run.ret Try.func12 rfl [_] ⟨rfl, trivial⟩ ?_
  exact ⟨rfl, Below.seq (Below.seq (Below.seq (Below.seq hb1 hb2) hb3) hb4) hb5⟩
end Go.Proofs.Ytmjhhmilgebbbaa
