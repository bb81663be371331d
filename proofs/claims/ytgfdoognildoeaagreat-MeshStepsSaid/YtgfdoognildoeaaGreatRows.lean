/-
  No cell of these rows narrows 'for every input' (looked for: loops, veiled, ifaces, maps, wideKeys, modest, calm, conditions, laid).
  DERIVED. THE GIVEN ROWS OF THIS SEAT. 6 by the template 'for every input the law returns true; each argument reads behind the call as it read before'; 0 by the template 'total and deterministic' (their statements: YtgfdoognildoeaaGreatTotals.lean).
  GIVEN WITH THE SEED: the statements are not yours to turn. If you find one false, say at which input.
  Laid BY PROGRAM, IN A SANDBOX (cutbox-rows.mjs): the forced cells as the released guide's own fill.sh prints them over the translation dd83d8562f0bc76a… (all of the seat's roots in one cut). By AI agents, Wed Nov 11 2026. No macro, syntax, notation, axiom, sorry.
-/
import Derived.Test.YtgfdoognildoeaaGreatChecked
import GoSem.Claim
import GoSem.ClaimJoined
import GoSem.ClaimMapViews
import Derived.JoinedTies
import Derived.KernelRfl
namespace Go.Proofs.YtgfdoognildoeaaGreat
/- THE CELL 'sum', in the pinned program and in every row, IS THE sha256 OF THE DUMP (.gsa) THAT YtgfdoognildoeaaGreatProg.lean LOADS. Nothing in Lean hashes anything: it is a label: what it is worth is what the hold of that sum in a sandbox is worth. -/
noncomputable def Tryz.pinned : Pinned := { name := "ytgfdoognildoeaagreat", sum := "dd83d8562f0bc76a9c8a8f3854c86e6d8a223d739c63a35d6cd6b82142ea419a", checked := Tryz.checked }
namespace Rows
def none {H : Type} : Left H := { results := [], args := [] }

/-- 'homehublaw19.MeshNews': WHATEVER THE INPUT: true; the input reads as it did. -/
def meshNewsSpec : ChangeSpec := { name := "meshNews", fn := fun _ => fun
  | [d1, d2] => { results := [.lit (.bool true)], args := [d1, d2] }
  | _ => none }
def meshNewsRow : OpenClaim := { program := "ytgfdoognildoeaagreat", sum := "dd83d8562f0bc76a9c8a8f3854c86e6d8a223d739c63a35d6cd6b82142ea419a", func := "homehub/homehublaw19.MeshNews", spec := "meshNews", inPlace := ["slices.overlaps[homehub/api.Node]", "slices.overlaps[homehub/api.Mail]", "slices.overlaps[homehub/api.Sending]", "slices.overlaps[homehub/api.Link]", "slices.overlaps[homehub/api.Route]", "internal/abi.NoEscape", "internal/bytealg.MakeNoZero"], unfollowed := true, recurses := true, plainKeys := false, apart := false }
def MeshNewsSaid : Prop := meshNewsRow.holds Tryz.pinned (OpenSpec.ofChange meshNewsSpec)

/-- ITS FALSE NEIGHBOUR: 'it returns false'. Refute it at one input. -/
def meshNewsWrong : ChangeSpec := { name := "meshNews", fn := fun _ => fun
  | [d1, d2] => { results := [.lit (.bool false)], args := [d1, d2] }
  | _ => none }
def MeshNewsWrongFalsely : Prop := meshNewsRow.holds Tryz.pinned (OpenSpec.ofChange meshNewsWrong)

/-- 'homehublaw19.MeshSteps': WHATEVER THE INPUT: true; the input reads as it did. -/
def meshStepsSpec : ChangeSpec := { name := "meshSteps", fn := fun _ => fun
  | [d1, d2] => { results := [.lit (.bool true)], args := [d1, d2] }
  | _ => none }
def meshStepsRow : OpenClaim := { program := "ytgfdoognildoeaagreat", sum := "dd83d8562f0bc76a9c8a8f3854c86e6d8a223d739c63a35d6cd6b82142ea419a", func := "homehub/homehublaw19.MeshSteps", spec := "meshSteps", inPlace := ["slices.overlaps[homehub/api.Mail]", "slices.overlaps[homehub/api.Sending]", "slices.overlaps[homehub/api.Link]", "slices.overlaps[homehub/api.Route]", "internal/abi.NoEscape", "internal/bytealg.MakeNoZero", "slices.overlaps[homehub/api.Node]"], unfollowed := true, recurses := true, plainKeys := false, apart := false }
def MeshStepsSaid : Prop := meshStepsRow.holds Tryz.pinned (OpenSpec.ofChange meshStepsSpec)

/-- ITS FALSE NEIGHBOUR: 'it returns false'. Refute it at one input. -/
def meshStepsWrong : ChangeSpec := { name := "meshSteps", fn := fun _ => fun
  | [d1, d2] => { results := [.lit (.bool false)], args := [d1, d2] }
  | _ => none }
def MeshStepsWrongFalsely : Prop := meshStepsRow.holds Tryz.pinned (OpenSpec.ofChange meshStepsWrong)

/-- 'homehublaw19.MeshPaths': WHATEVER THE INPUT: true; the input reads as it did. -/
def meshPathsSpec : ChangeSpec := { name := "meshPaths", fn := fun _ => fun
  | [d1, d2, d3] => { results := [.lit (.bool true)], args := [d1, d2, d3] }
  | _ => none }
def meshPathsRow : OpenClaim := { program := "ytgfdoognildoeaagreat", sum := "dd83d8562f0bc76a9c8a8f3854c86e6d8a223d739c63a35d6cd6b82142ea419a", func := "homehub/homehublaw19.MeshPaths", spec := "meshPaths", inPlace := ["slices.overlaps[homehub/api.Node]", "slices.overlaps[homehub/api.Mail]", "slices.overlaps[homehub/api.Sending]", "slices.overlaps[homehub/api.Link]", "slices.overlaps[homehub/api.Route]", "internal/abi.NoEscape", "internal/bytealg.MakeNoZero"], unfollowed := true, recurses := true, plainKeys := false, apart := false }
def MeshPathsSaid : Prop := meshPathsRow.holds Tryz.pinned (OpenSpec.ofChange meshPathsSpec)

/-- ITS FALSE NEIGHBOUR: 'it returns false'. Refute it at one input. -/
def meshPathsWrong : ChangeSpec := { name := "meshPaths", fn := fun _ => fun
  | [d1, d2, d3] => { results := [.lit (.bool false)], args := [d1, d2, d3] }
  | _ => none }
def MeshPathsWrongFalsely : Prop := meshPathsRow.holds Tryz.pinned (OpenSpec.ofChange meshPathsWrong)

/-- 'homehublaw19.MeshSends': WHATEVER THE INPUT: true; the input reads as it did. -/
def meshSendsSpec : ChangeSpec := { name := "meshSends", fn := fun _ => fun
  | [d1, d2] => { results := [.lit (.bool true)], args := [d1, d2] }
  | _ => none }
def meshSendsRow : OpenClaim := { program := "ytgfdoognildoeaagreat", sum := "dd83d8562f0bc76a9c8a8f3854c86e6d8a223d739c63a35d6cd6b82142ea419a", func := "homehub/homehublaw19.MeshSends", spec := "meshSends", inPlace := ["slices.overlaps[homehub/api.Node]", "slices.overlaps[homehub/api.Mail]", "slices.overlaps[homehub/api.Sending]", "slices.overlaps[homehub/api.Link]", "slices.overlaps[homehub/api.Route]", "internal/abi.NoEscape", "internal/bytealg.MakeNoZero"], unfollowed := true, recurses := true, plainKeys := false, apart := false }
def MeshSendsSaid : Prop := meshSendsRow.holds Tryz.pinned (OpenSpec.ofChange meshSendsSpec)

/-- ITS FALSE NEIGHBOUR: 'it returns false'. Refute it at one input. -/
def meshSendsWrong : ChangeSpec := { name := "meshSends", fn := fun _ => fun
  | [d1, d2] => { results := [.lit (.bool false)], args := [d1, d2] }
  | _ => none }
def MeshSendsWrongFalsely : Prop := meshSendsRow.holds Tryz.pinned (OpenSpec.ofChange meshSendsWrong)

/-- 'homehublaw19.MeshLoopFree': WHATEVER THE INPUT: true; the input reads as it did. -/
def meshLoopFreeSpec : ChangeSpec := { name := "meshLoopFree", fn := fun _ => fun
  | [d1, d2, d3] => { results := [.lit (.bool true)], args := [d1, d2, d3] }
  | _ => none }
def meshLoopFreeRow : OpenClaim := { program := "ytgfdoognildoeaagreat", sum := "dd83d8562f0bc76a9c8a8f3854c86e6d8a223d739c63a35d6cd6b82142ea419a", func := "homehub/homehublaw19.MeshLoopFree", spec := "meshLoopFree", inPlace := ["slices.overlaps[homehub/api.Node]", "slices.overlaps[homehub/api.Mail]", "slices.overlaps[homehub/api.Sending]", "slices.overlaps[homehub/api.Link]", "slices.overlaps[homehub/api.Route]", "internal/abi.NoEscape", "internal/bytealg.MakeNoZero"], unfollowed := true, recurses := true, plainKeys := false, apart := false }
def MeshLoopFreeSaid : Prop := meshLoopFreeRow.holds Tryz.pinned (OpenSpec.ofChange meshLoopFreeSpec)

/-- ITS FALSE NEIGHBOUR: 'it returns false'. Refute it at one input. -/
def meshLoopFreeWrong : ChangeSpec := { name := "meshLoopFree", fn := fun _ => fun
  | [d1, d2, d3] => { results := [.lit (.bool false)], args := [d1, d2, d3] }
  | _ => none }
def MeshLoopFreeWrongFalsely : Prop := meshLoopFreeRow.holds Tryz.pinned (OpenSpec.ofChange meshLoopFreeWrong)

/-- 'homehublaw19.MeshHonest': WHATEVER THE INPUT: true; the input reads as it did. -/
def meshHonestSpec : ChangeSpec := { name := "meshHonest", fn := fun _ => fun
  | [d1, d2, d3] => { results := [.lit (.bool true)], args := [d1, d2, d3] }
  | _ => none }
def meshHonestRow : OpenClaim := { program := "ytgfdoognildoeaagreat", sum := "dd83d8562f0bc76a9c8a8f3854c86e6d8a223d739c63a35d6cd6b82142ea419a", func := "homehub/homehublaw19.MeshHonest", spec := "meshHonest", inPlace := ["slices.overlaps[homehub/api.Node]", "slices.overlaps[homehub/api.Mail]", "slices.overlaps[homehub/api.Sending]", "slices.overlaps[homehub/api.Link]", "slices.overlaps[homehub/api.Route]", "internal/abi.NoEscape", "internal/bytealg.MakeNoZero"], unfollowed := true, recurses := true, plainKeys := false, apart := false }
def MeshHonestSaid : Prop := meshHonestRow.holds Tryz.pinned (OpenSpec.ofChange meshHonestSpec)

/-- ITS FALSE NEIGHBOUR: 'it returns false'. Refute it at one input. -/
def meshHonestWrong : ChangeSpec := { name := "meshHonest", fn := fun _ => fun
  | [d1, d2, d3] => { results := [.lit (.bool false)], args := [d1, d2, d3] }
  | _ => none }
def MeshHonestWrongFalsely : Prop := meshHonestRow.holds Tryz.pinned (OpenSpec.ofChange meshHonestWrong)

/- THE SECOND FORM. 'bulk': how many values and letters a reading holds, each counted each time it is reached (what is shared counts as often as it is met; a slice's spare places count too). A statement '..UptoSaid' is the law's where the arguments, and the package variables that the reading takes, are together of bulk at most 1048576: NARROWER than '..Said'. Prove '..Said' where nothing that the law and all that it calls make is longer than what came in: it says more and counts as full. Else prove '..UptoSaid'. A law counts once. -/
mutual
def uptoBulk {H : Type} : DataW H → Nat
  | .lit (.string bytes) => bytes.length + 1
  | .lit _ => 1
  | .nil => 1
  | .ptr d => uptoBulk d + 1
  | .slice elems spare => uptoBulkAll elems + uptoBulkAll spare + 1
  | .agg parts => uptoBulkAll parts + 1
  | .iface _ d => uptoBulk d + 1
  | .map entries => uptoBulkEntries entries + 1
  | .held _ => 1
def uptoBulkAll {H : Type} : List (DataW H) → Nat
  | [] => 0
  | d :: r => uptoBulk d + uptoBulkAll r
def uptoBulkEntries {H : Type} : List (Lit × DataW H) → Nat
  | [] => 0
  | x :: r => uptoBulkEntry x + uptoBulkEntries r
def uptoBulkEntry {H : Type} : Lit × DataW H → Nat
  | (.string bytes, d) => bytes.length + uptoBulk d + 1
  | (_, d) => uptoBulk d + 1
 end
def uptoSmall : (H : Type) → List (DataW H) → Bool := fun _ ds => decide (uptoBulkAll ds ≤ 1048576)
def OpenSpec.upto (s : _root_.Go.ChangeSpec) : _root_.Go.OpenSpec := { _root_.Go.OpenSpec.ofChange s with cond := some uptoSmall }

/-- 'homehublaw19.MeshNews', WHERE WHAT IT READS IS OF BULK AT MOST 1048576: true; the input reads as it did. -/
def meshNewsUptoRow : OpenClaim := { program := "ytgfdoognildoeaagreat", sum := "dd83d8562f0bc76a9c8a8f3854c86e6d8a223d739c63a35d6cd6b82142ea419a", func := "homehub/homehublaw19.MeshNews", spec := "meshNews", inPlace := ["slices.overlaps[homehub/api.Node]", "slices.overlaps[homehub/api.Mail]", "slices.overlaps[homehub/api.Sending]", "slices.overlaps[homehub/api.Link]", "slices.overlaps[homehub/api.Route]", "internal/abi.NoEscape", "internal/bytealg.MakeNoZero"], unfollowed := true, recurses := true, plainKeys := false, apart := false, narrowed := true }
def MeshNewsUptoSaid : Prop := meshNewsUptoRow.holds Tryz.pinned (OpenSpec.upto meshNewsSpec)

/-- 'homehublaw19.MeshSteps', WHERE WHAT IT READS IS OF BULK AT MOST 1048576: true; the input reads as it did. -/
def meshStepsUptoRow : OpenClaim := { program := "ytgfdoognildoeaagreat", sum := "dd83d8562f0bc76a9c8a8f3854c86e6d8a223d739c63a35d6cd6b82142ea419a", func := "homehub/homehublaw19.MeshSteps", spec := "meshSteps", inPlace := ["slices.overlaps[homehub/api.Mail]", "slices.overlaps[homehub/api.Sending]", "slices.overlaps[homehub/api.Link]", "slices.overlaps[homehub/api.Route]", "internal/abi.NoEscape", "internal/bytealg.MakeNoZero", "slices.overlaps[homehub/api.Node]"], unfollowed := true, recurses := true, plainKeys := false, apart := false, narrowed := true }
def MeshStepsUptoSaid : Prop := meshStepsUptoRow.holds Tryz.pinned (OpenSpec.upto meshStepsSpec)

/-- 'homehublaw19.MeshPaths', WHERE WHAT IT READS IS OF BULK AT MOST 1048576: true; the input reads as it did. -/
def meshPathsUptoRow : OpenClaim := { program := "ytgfdoognildoeaagreat", sum := "dd83d8562f0bc76a9c8a8f3854c86e6d8a223d739c63a35d6cd6b82142ea419a", func := "homehub/homehublaw19.MeshPaths", spec := "meshPaths", inPlace := ["slices.overlaps[homehub/api.Node]", "slices.overlaps[homehub/api.Mail]", "slices.overlaps[homehub/api.Sending]", "slices.overlaps[homehub/api.Link]", "slices.overlaps[homehub/api.Route]", "internal/abi.NoEscape", "internal/bytealg.MakeNoZero"], unfollowed := true, recurses := true, plainKeys := false, apart := false, narrowed := true }
def MeshPathsUptoSaid : Prop := meshPathsUptoRow.holds Tryz.pinned (OpenSpec.upto meshPathsSpec)

/-- 'homehublaw19.MeshSends', WHERE WHAT IT READS IS OF BULK AT MOST 1048576: true; the input reads as it did. -/
def meshSendsUptoRow : OpenClaim := { program := "ytgfdoognildoeaagreat", sum := "dd83d8562f0bc76a9c8a8f3854c86e6d8a223d739c63a35d6cd6b82142ea419a", func := "homehub/homehublaw19.MeshSends", spec := "meshSends", inPlace := ["slices.overlaps[homehub/api.Node]", "slices.overlaps[homehub/api.Mail]", "slices.overlaps[homehub/api.Sending]", "slices.overlaps[homehub/api.Link]", "slices.overlaps[homehub/api.Route]", "internal/abi.NoEscape", "internal/bytealg.MakeNoZero"], unfollowed := true, recurses := true, plainKeys := false, apart := false, narrowed := true }
def MeshSendsUptoSaid : Prop := meshSendsUptoRow.holds Tryz.pinned (OpenSpec.upto meshSendsSpec)

/-- 'homehublaw19.MeshLoopFree', WHERE WHAT IT READS IS OF BULK AT MOST 1048576: true; the input reads as it did. -/
def meshLoopFreeUptoRow : OpenClaim := { program := "ytgfdoognildoeaagreat", sum := "dd83d8562f0bc76a9c8a8f3854c86e6d8a223d739c63a35d6cd6b82142ea419a", func := "homehub/homehublaw19.MeshLoopFree", spec := "meshLoopFree", inPlace := ["slices.overlaps[homehub/api.Node]", "slices.overlaps[homehub/api.Mail]", "slices.overlaps[homehub/api.Sending]", "slices.overlaps[homehub/api.Link]", "slices.overlaps[homehub/api.Route]", "internal/abi.NoEscape", "internal/bytealg.MakeNoZero"], unfollowed := true, recurses := true, plainKeys := false, apart := false, narrowed := true }
def MeshLoopFreeUptoSaid : Prop := meshLoopFreeUptoRow.holds Tryz.pinned (OpenSpec.upto meshLoopFreeSpec)

/-- 'homehublaw19.MeshHonest', WHERE WHAT IT READS IS OF BULK AT MOST 1048576: true; the input reads as it did. -/
def meshHonestUptoRow : OpenClaim := { program := "ytgfdoognildoeaagreat", sum := "dd83d8562f0bc76a9c8a8f3854c86e6d8a223d739c63a35d6cd6b82142ea419a", func := "homehub/homehublaw19.MeshHonest", spec := "meshHonest", inPlace := ["slices.overlaps[homehub/api.Node]", "slices.overlaps[homehub/api.Mail]", "slices.overlaps[homehub/api.Sending]", "slices.overlaps[homehub/api.Link]", "slices.overlaps[homehub/api.Route]", "internal/abi.NoEscape", "internal/bytealg.MakeNoZero"], unfollowed := true, recurses := true, plainKeys := false, apart := false, narrowed := true }
def MeshHonestUptoSaid : Prop := meshHonestUptoRow.holds Tryz.pinned (OpenSpec.upto meshHonestSpec)

end Rows
end Go.Proofs.YtgfdoognildoeaaGreat
