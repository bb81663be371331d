/- 'MeshHonest': the statement holds of the given program. Conditions: none. -/
import Derived.Test.YtgfdoognildoeaaGreatRows
import Derived.Test.YtgfdoognildoeaaGreatLB1
import Derived.Test.YtgfdoognildoeaaGreatLB2
import Derived.Test.YtgfdoognildoeaaGreatLB3
import Derived.Test.YtgfdoognildoeaaGreatLB4
import Derived.Test.YtgfdoognildoeaaGreatLB5
import Derived.Test.YtgfdoognildoeaaGreatLB6
import Derived.Test.YtgfdoognildoeaaGreatLB7
import Derived.Test.YtgfdoognildoeaaGreatLB8
import Derived.Test.YtgfdoognildoeaaGreatLB9
import Derived.Test.YtgfdoognildoeaaGreatLB10
import Derived.Test.YtgfdoognildoeaaGreatLB11
import Derived.Test.YtgfdoognildoeaaGreatLB12
import Derived.Test.YtgfdoognildoeaaGreatLB13
import Derived.Test.YtgfdoognildoeaaGreatLB14
import Derived.Test.YtgfdoognildoeaaGreatLMeshHonest1
import Derived.Below
import Derived.ChangeOld
import Derived.WalkKit
import Derived.ProofKit
import Derived.OpenShut
import Derived.ShutString
namespace Go.Proofs.YtgfdoognildoeaaGreat.meshHonest
open Go.ChangeShapes Go.WideShapes Go.ChangeAt Go.RowKit
open Go.ChangeMaps (open_string shut_string)
set_option linter.unusedVariables false

theorem own : ownKnob Tryz.prog.godebug = none := by kernel_rfl
theorem laidOut : laidOutB Tryz.prog = true := by kernel_rfl

set_option maxRecDepth 100000 in
theorem lifted (os : Os) (started : os.Started) (H : Type) (enc : TypeId × Value → H) :
    ReturnsInHanded {} Tryz.checked os 8 .any (Rows.meshHonestSpec.pre6 enc Tryz.prog Tryz.f8 Rows.meshHonestRow.domain false) (Rows.meshHonestSpec.post enc Tryz.prog Tryz.f8 false true false false) := by
  refine returnsInHanded_of_change_sized (C := Tryz.checked) own started (by kernel_rfl) Tryz.func8
    (ChangeSpec.witness6 (enc := enc) (C := Tryz.checked) false ⟨#[], #[.slice none 0 0, .slice none 0 0, .slice none 0 0], []⟩ 8 (by kernel_rfl) (by kernel_rfl) (by kernel_rfl) (by kernel_rfl)) ?_
  intro W base args ds gs before hval0 hW hcnd hsz _
  have hval : ∀ (j : Nat) t v, Tryz.f8.params[j]? = some t → args[j]? = some v → Value.okWide Tryz.prog W .any base t v := hval0
  have hW' := hW
  obtain ⟨p, q, hA0, hV, rfl, hfz, hnd⟩ := hW
  have hA : DataW.TrodAll enc Tryz.prog W 0 (fun _ => true) true Tryz.f8.params.toList args.toList ds p := hA0
  rw [Tryz.params8] at hA hval
  obtain ⟨v0, vs0, d0, ds0, p0, q0, hargs, rfl, rfl, h0, r0⟩ := trodAll_cons hA
  obtain ⟨v1, vs1, d1, ds1, p1, q1, rfl, rfl, rfl, h1, r1⟩ := trodAll_cons r0
  obtain ⟨v2, vs2, d2, ds2, p2, q2, rfl, rfl, rfl, h2, r2⟩ := trodAll_cons r1
  obtain ⟨rfl, rfl, rfl⟩ := trodAll_nil r2
  obtain rfl : args = #[v0, v1, v2] := by cases args; simp_all
  obtain ⟨rfl, rfl⟩ := trodVars_none hV
  obtain ⟨a0, n0, c0, rfl⟩ := okWide_slice Tryz.underlying22 (hval 0 22 v0 rfl rfl)
  have k0 := h0
  have lt0 : ∀ x ∈ p0, x.block < W.heap.size := by obtain ⟨m, hm⟩ := k0; exact DataW.trod_lt m _ _ _ hm
  obtain ⟨fuel0, hf0⟩ := h0
  obtain ⟨⟨u0, l0⟩, e0, s0, b0, g0⟩ := opZ22 fuel0 _ _ hf0 (Go.GX.Sized.of_each hsz (j := 0) rfl rfl)
  have e0 : [Value.slice a0 n0 c0] = [u0] := e0
  cases e0
  obtain ⟨a1, n1, c1, rfl⟩ := okWide_slice Tryz.underlying22 (hval 1 22 v1 rfl rfl)
  have k1 := h1
  have lt1 : ∀ x ∈ p1, x.block < W.heap.size := by obtain ⟨m, hm⟩ := k1; exact DataW.trod_lt m _ _ _ hm
  obtain ⟨fuel1, hf1⟩ := h1
  obtain ⟨⟨u1, l1⟩, e1, s1, b1, g1⟩ := opZ22 fuel1 _ _ hf1 (Go.GX.Sized.of_each hsz (j := 1) rfl rfl)
  have e1 : [Value.slice a1 n1 c1] = [u1] := e1
  cases e1
  obtain ⟨a2, n2, c2, rfl⟩ := okWide_slice Tryz.underlying52 (hval 2 52 v2 rfl rfl)
  have k2 := h2
  have lt2 : ∀ x ∈ p2, x.block < W.heap.size := by obtain ⟨m, hm⟩ := k2; exact DataW.trod_lt m _ _ _ hm
  obtain ⟨fuel2, hf2⟩ := h2
  obtain ⟨⟨u2, l2⟩, e2, s2, b2, g2⟩ := opZ52 fuel2 _ _ hf2 (Go.GX.Sized.of_each hsz (j := 2) rfl rfl)
  have e2 : [Value.slice a2 n2 c2] = [u2] := e2
  cases e2
  clear hA0 hval0
  refine (meshHonest_any l0 _ l1 _ l2 _ W s0 g0 s1 g1 s2 g2).mono fun e W' ⟨he, hg⟩ => ?_
  subst he
  exact ⟨_, rfl, _, _, _, [], _, [], hW', trodAll_mk1 (shut_bool Tryz.underlying4 _), (trodAll_cons_mk (Below.trod laidOut (by kernel_rfl) (of_decide_eq_true (by kernel_rfl)) k0 hg lt0) (trodAll_cons_mk (Below.trod laidOut (by kernel_rfl) (of_decide_eq_true (by kernel_rfl)) k1 hg lt1) (trodAll_cons_mk (Below.trod laidOut (by kernel_rfl) (of_decide_eq_true (by kernel_rfl)) k2 hg lt2) trodAll_mk0))), rfl, hg.frame _, fun h => by cases h⟩

theorem both {a b : Bool} (h : a = true) (k : b = true) : (a && b) = true := by rw [h, k]; rfl
set_option maxHeartbeats 4000000 in
theorem closed : joinedFacts Tryz.pinned.checked.prog 8 Tryz.f8 Rows.meshHonestSpec Rows.meshHonestRow = true := by
  unfold joinedFacts
  repeat' (with_reducible apply both)
  all_goals (as_aux_lemma => kernel_rfl)
theorem over : Rows.meshHonestRow.holds Tryz.pinned (OpenSpec.ofChange Rows.meshHonestSpec) :=
  OpenClaim.holds_of_wide 8 Tryz.f8 rfl rfl rfl rfl rfl rfl rfl ⟨rfl, rfl, rfl, rfl, rfl⟩ rfl rfl rfl rfl rfl (by as_aux_lemma => kernel_rfl) Tryz.func8 closed
    (of_decide_eq_true (by as_aux_lemma => kernel_rfl)) (by unfold Func.isWrapper; first | (rw [if_pos (by decide +kernel)]; kernel_rfl) | (rw [if_neg (by decide +kernel)]; exact ⟨rfl, rfl⟩))
    (fun os started H enc _ => lifted os started H enc)

/-- The statement. -/
theorem proved : Rows.MeshHonestSaid :=
  over
end Go.Proofs.YtgfdoognildoeaaGreat.meshHonest
