/- 'MeshSteps': the statement holds of the given program. Conditions: none. -/
import Derived.Test.YtgfdoognildoeaaGreatRows
import Derived.Test.YtgfdoognildoeaaGreatSB17
import Derived.Below
import Derived.ChangeOld
import Derived.WalkKit
import Derived.ProofKit
import Derived.OpenShut
import Derived.ShutString
namespace Go.Proofs.YtgfdoognildoeaaGreat.meshSteps
open Go.ChangeShapes Go.WideShapes Go.ChangeAt Go.RowKit
open Go.ChangeMaps (open_string shut_string)
set_option linter.unusedVariables false
theorem own : ownKnob Tryz.prog.godebug = none := by kernel_rfl
theorem laidOut : laidOutB Tryz.prog = true := by kernel_rfl
set_option maxRecDepth 100000 in
theorem lifted (os : Os) (started : os.Started) (H : Type) (enc : TypeId × Value → H) :
  ReturnsInHanded {} Tryz.checked os 4 .any (Rows.meshStepsSpec.pre6 enc Tryz.prog Tryz.f4 Rows.meshStepsRow.domain false) (Rows.meshStepsSpec.post enc Tryz.prog Tryz.f4 false true false false):=by
 refine returnsInHanded_of_change_sized (C:=Tryz.checked) own started (by kernel_rfl) Tryz.func4
  (ChangeSpec.witness6 (enc:=enc) (C:=Tryz.checked) false ⟨#[],#[.agg #[.int .i64 0,.slice none 0 0],.agg #[.slice none 0 0,.slice none 0 0,.slice none 0 0]],[]⟩ 8 (by kernel_rfl) (by kernel_rfl) (by kernel_rfl) (by kernel_rfl)) ?_
 intro W base args ds gs before hval0 hW hcnd hsz _
 have hval:∀(j:Nat) t v,Tryz.f4.params[j]? =some t→args[j]? =some v→Value.okWide Tryz.prog W .any base t v:=hval0
 have hW':=hW
 obtain ⟨p,q,hA0,hV,rfl,hfz,hnd⟩:=hW
 have hA:DataW.TrodAll enc Tryz.prog W 0 (fun _=>true) true Tryz.f4.params.toList args.toList ds p:=hA0
 rw[Tryz.params4]at hA hval
 obtain ⟨v0,vs0,d0,ds0,p0,q0,hargs,rfl,rfl,h0,r0⟩:=trodAll_cons hA
 obtain ⟨v1,vs1,d1,ds1,p1,q1,rfl,rfl,rfl,h1,r1⟩:=trodAll_cons r0
 obtain ⟨rfl,rfl,rfl⟩:=trodAll_nil r1
 obtain rfl:args=#[v0,v1]:=by cases args;simp_all
 obtain ⟨rfl,rfl⟩:=trodVars_none hV
 obtain ⟨cs0,rfl,_,_⟩:∃cs,v0=Value.agg cs∧cs.size=Tryz.prog.cellsOf 26∧Row.okWide Tryz.prog W .any base 26 cs:=by
  have hv:=hval 0 26 v0 rfl rfl
  unfold Value.okWide at hv
  rw[Tryz.underlying26]at hv
  exact hv
 have k0:=h0
 have lt0:∀x∈p0,x.block<W.heap.size:=by obtain ⟨m,hm⟩:=k0;exact DataW.trod_lt m _ _ _ hm
 obtain ⟨fuel0,hf0⟩:=h0
 obtain ⟨a0,e0,g0⟩:=opZ26 fuel0 _ _ hf0 (Go.GX.Sized.of_each hsz (j:=0) rfl rfl)
 obtain ⟨cs0⟩:=cs0
 have e0:cs0=_:=e0
 subst e0
 obtain ⟨cs1,rfl,_,_⟩:∃cs,v1=Value.agg cs∧cs.size=Tryz.prog.cellsOf 34∧Row.okWide Tryz.prog W .any base 34 cs:=by
  have hv:=hval 1 34 v1 rfl rfl
  unfold Value.okWide at hv
  rw[Tryz.underlying34]at hv
  exact hv
 have k1:=h1
 have lt1:∀x∈p1,x.block<W.heap.size:=by obtain ⟨m,hm⟩:=k1;exact DataW.trod_lt m _ _ _ hm
 obtain ⟨fuel1,hf1⟩:=h1
 obtain ⟨a1,e1,g1⟩:=opZ34 fuel1 _ _ hf1 (Go.GX.Sized.of_each hsz (j:=1) rfl rfl)
 obtain ⟨cs1⟩:=cs1
 have e1:cs1=_:=e1
 subst e1
 clear hA0 hval0
 refine (meshSteps_any a0 a1 W g0 g1).mono fun e W' ⟨he,hg⟩=>?_
 subst he
 exact ⟨_,rfl,_,_,_,[],_,[],hW',trodAll_mk1 (shut_bool Tryz.underlying4 _),(trodAll_cons_mk (Below.trod laidOut (by kernel_rfl) (of_decide_eq_true (by kernel_rfl)) k0 hg lt0) (trodAll_cons_mk (Below.trod laidOut (by kernel_rfl) (of_decide_eq_true (by kernel_rfl)) k1 hg lt1) trodAll_mk0)),rfl,hg.frame _,fun h=>by cases h⟩
theorem both {a b : Bool} (h : a = true) (k : b = true) : (a && b) = true := by rw [h, k]; rfl
set_option maxHeartbeats 4000000 in
theorem closed : joinedFacts Tryz.pinned.checked.prog 4 Tryz.f4 Rows.meshStepsSpec Rows.meshStepsRow = true := by
 unfold joinedFacts
 repeat' (with_reducible apply both)
 all_goals (as_aux_lemma=>kernel_rfl)
theorem over : Rows.meshStepsRow.holds Tryz.pinned (OpenSpec.ofChange Rows.meshStepsSpec) :=
 OpenClaim.holds_of_wide 4 Tryz.f4 rfl rfl rfl rfl rfl rfl rfl ⟨rfl,rfl,rfl,rfl,rfl⟩ rfl rfl rfl rfl rfl (by as_aux_lemma=>kernel_rfl) Tryz.func4 closed
  (of_decide_eq_true (by as_aux_lemma=>kernel_rfl)) (by unfold Func.isWrapper;first|(rw [if_pos (by decide +kernel)];kernel_rfl)|(rw [if_neg (by decide +kernel)];exact ⟨rfl,rfl⟩))
  (fun os started H enc _=>lifted os started H enc)
/-- The statement. -/
theorem proved : Rows.MeshStepsSaid :=
 over
end Go.Proofs.YtgfdoognildoeaaGreat.meshSteps
