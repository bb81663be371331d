/-
  No cell of these rows narrows 'for every input' (looked for: loops, veiled, ifaces, maps, wideKeys, modest, calm, conditions, laid).
  DERIVED. THE GIVEN ROWS OF THIS SEAT. 9 by the template 'for every input the law returns true; each argument reads behind the call as it read before'; 0 by the template 'total and deterministic' (their statements: YtgdgclmkpoaagaaGreatTotals.lean).
  GIVEN WITH THE SEED: the statements are not yours to turn. If you find one false, say at which input.
  Laid BY PROGRAM, IN A SANDBOX (cutbox-rows.mjs): the forced cells as the released guide's own fill.sh prints them over the translation 006fa7b5a5ecbbff… (all of the seat's roots in one cut). By AI agents, Wed Nov 11 2026. No macro, syntax, notation, axiom, sorry.
-/
import Derived.Test.YtgdgclmkpoaagaaGreatChecked
import GoSem.Claim
import GoSem.ClaimJoined
import GoSem.ClaimMapViews
import Derived.JoinedTies
import Derived.KernelRfl
namespace Go.Proofs.YtgdgclmkpoaagaaGreat
/- THE CELL 'sum', in the pinned program and in every row, IS THE sha256 OF THE DUMP (.gsa) THAT YtgdgclmkpoaagaaGreatProg.lean LOADS. Nothing in Lean hashes anything: it is a label: what it is worth is what the hold of that sum in a sandbox is worth. -/
noncomputable def Tryz.pinned : Pinned := { name := "ytgdgclmkpoaagaagreat", sum := "006fa7b5a5ecbbff33ab6e570bda587e02d8f8b5d0c6b361c097bce4a6d22f8f", checked := Tryz.checked }
namespace Rows
def none {H : Type} : Left H := { results := [], args := [] }

/-- 'homehublaw17.NodeSends': WHATEVER THE INPUT: true; the input reads as it did. -/
def nodeSendsSpec : ChangeSpec := { name := "nodeSends", fn := fun _ => fun
  | [d1, d2] => { results := [.lit (.bool true)], args := [d1, d2] }
  | _ => none }
def nodeSendsRow : OpenClaim := { program := "ytgdgclmkpoaagaagreat", sum := "006fa7b5a5ecbbff33ab6e570bda587e02d8f8b5d0c6b361c097bce4a6d22f8f", func := "homehub/homehublaw17.NodeSends", spec := "nodeSends", inPlace := ["slices.overlaps[homehub/api.Sending]", "slices.overlaps[homehub/api.Mail]", "slices.overlaps[homehub/api.Link]", "slices.overlaps[homehub/api.Route]", "internal/abi.NoEscape", "internal/bytealg.MakeNoZero"], unfollowed := true, recurses := true, apart := false }
def NodeSendsSaid : Prop := nodeSendsRow.holds Tryz.pinned (OpenSpec.ofChange nodeSendsSpec)

/-- ITS FALSE NEIGHBOUR: 'it returns false'. Refute it at one input. -/
def nodeSendsWrong : ChangeSpec := { name := "nodeSends", fn := fun _ => fun
  | [d1, d2] => { results := [.lit (.bool false)], args := [d1, d2] }
  | _ => none }
def NodeSendsWrongFalsely : Prop := nodeSendsRow.holds Tryz.pinned (OpenSpec.ofChange nodeSendsWrong)

/-- 'homehublaw17.NodeHears': WHATEVER THE INPUT: true; the input reads as it did. -/
def nodeHearsSpec : ChangeSpec := { name := "nodeHears", fn := fun _ => fun
  | [d1, d2, d3] => { results := [.lit (.bool true)], args := [d1, d2, d3] }
  | _ => none }
def nodeHearsRow : OpenClaim := { program := "ytgdgclmkpoaagaagreat", sum := "006fa7b5a5ecbbff33ab6e570bda587e02d8f8b5d0c6b361c097bce4a6d22f8f", func := "homehub/homehublaw17.NodeHears", spec := "nodeHears", inPlace := ["slices.overlaps[homehub/api.Sending]", "slices.overlaps[homehub/api.Mail]", "slices.overlaps[homehub/api.Link]", "slices.overlaps[homehub/api.Route]", "internal/abi.NoEscape", "internal/bytealg.MakeNoZero"], unfollowed := true, recurses := true, apart := false }
def NodeHearsSaid : Prop := nodeHearsRow.holds Tryz.pinned (OpenSpec.ofChange nodeHearsSpec)

/-- ITS FALSE NEIGHBOUR: 'it returns false'. Refute it at one input. -/
def nodeHearsWrong : ChangeSpec := { name := "nodeHears", fn := fun _ => fun
  | [d1, d2, d3] => { results := [.lit (.bool false)], args := [d1, d2, d3] }
  | _ => none }
def NodeHearsWrongFalsely : Prop := nodeHearsRow.holds Tryz.pinned (OpenSpec.ofChange nodeHearsWrong)

/-- 'homehublaw17.NodeOnce': WHATEVER THE INPUT: true; the input reads as it did. -/
def nodeOnceSpec : ChangeSpec := { name := "nodeOnce", fn := fun _ => fun
  | [d1, d2, d3] => { results := [.lit (.bool true)], args := [d1, d2, d3] }
  | _ => none }
def nodeOnceRow : OpenClaim := { program := "ytgdgclmkpoaagaagreat", sum := "006fa7b5a5ecbbff33ab6e570bda587e02d8f8b5d0c6b361c097bce4a6d22f8f", func := "homehub/homehublaw17.NodeOnce", spec := "nodeOnce", inPlace := ["slices.overlaps[homehub/api.Sending]", "slices.overlaps[homehub/api.Mail]", "slices.overlaps[homehub/api.Link]", "slices.overlaps[homehub/api.Route]", "internal/abi.NoEscape", "internal/bytealg.MakeNoZero"], unfollowed := true, recurses := true, apart := false }
def NodeOnceSaid : Prop := nodeOnceRow.holds Tryz.pinned (OpenSpec.ofChange nodeOnceSpec)

/-- ITS FALSE NEIGHBOUR: 'it returns false'. Refute it at one input. -/
def nodeOnceWrong : ChangeSpec := { name := "nodeOnce", fn := fun _ => fun
  | [d1, d2, d3] => { results := [.lit (.bool false)], args := [d1, d2, d3] }
  | _ => none }
def NodeOnceWrongFalsely : Prop := nodeOnceRow.holds Tryz.pinned (OpenSpec.ofChange nodeOnceWrong)

/-- 'homehublaw17.NodeUrgent': WHATEVER THE INPUT: true; the input reads as it did. -/
def nodeUrgentSpec : ChangeSpec := { name := "nodeUrgent", fn := fun _ => fun
  | [d1, d2] => { results := [.lit (.bool true)], args := [d1, d2] }
  | _ => none }
def nodeUrgentRow : OpenClaim := { program := "ytgdgclmkpoaagaagreat", sum := "006fa7b5a5ecbbff33ab6e570bda587e02d8f8b5d0c6b361c097bce4a6d22f8f", func := "homehub/homehublaw17.NodeUrgent", spec := "nodeUrgent", inPlace := ["slices.overlaps[homehub/api.Sending]", "slices.overlaps[homehub/api.Mail]", "slices.overlaps[homehub/api.Link]", "slices.overlaps[homehub/api.Route]", "internal/abi.NoEscape", "internal/bytealg.MakeNoZero"], unfollowed := true, recurses := true, apart := false }
def NodeUrgentSaid : Prop := nodeUrgentRow.holds Tryz.pinned (OpenSpec.ofChange nodeUrgentSpec)

/-- ITS FALSE NEIGHBOUR: 'it returns false'. Refute it at one input. -/
def nodeUrgentWrong : ChangeSpec := { name := "nodeUrgent", fn := fun _ => fun
  | [d1, d2] => { results := [.lit (.bool false)], args := [d1, d2] }
  | _ => none }
def NodeUrgentWrongFalsely : Prop := nodeUrgentRow.holds Tryz.pinned (OpenSpec.ofChange nodeUrgentWrong)

/-- 'homehublaw17.NodeNews': WHATEVER THE INPUT: true; the input reads as it did. -/
def nodeNewsSpec : ChangeSpec := { name := "nodeNews", fn := fun _ => fun
  | [d1, d2, d3] => { results := [.lit (.bool true)], args := [d1, d2, d3] }
  | _ => none }
def nodeNewsRow : OpenClaim := { program := "ytgdgclmkpoaagaagreat", sum := "006fa7b5a5ecbbff33ab6e570bda587e02d8f8b5d0c6b361c097bce4a6d22f8f", func := "homehub/homehublaw17.NodeNews", spec := "nodeNews", inPlace := ["slices.overlaps[homehub/api.Sending]", "slices.overlaps[homehub/api.Mail]", "slices.overlaps[homehub/api.Link]", "slices.overlaps[homehub/api.Route]", "internal/abi.NoEscape", "internal/bytealg.MakeNoZero"], unfollowed := true, recurses := true, apart := false }
def NodeNewsSaid : Prop := nodeNewsRow.holds Tryz.pinned (OpenSpec.ofChange nodeNewsSpec)

/-- ITS FALSE NEIGHBOUR: 'it returns false'. Refute it at one input. -/
def nodeNewsWrong : ChangeSpec := { name := "nodeNews", fn := fun _ => fun
  | [d1, d2, d3] => { results := [.lit (.bool false)], args := [d1, d2, d3] }
  | _ => none }
def NodeNewsWrongFalsely : Prop := nodeNewsRow.holds Tryz.pinned (OpenSpec.ofChange nodeNewsWrong)

/-- 'homehublaw17.NodeResults': WHATEVER THE INPUT: true; the input reads as it did. -/
def nodeResultsSpec : ChangeSpec := { name := "nodeResults", fn := fun _ => fun
  | [d1, d2, d3] => { results := [.lit (.bool true)], args := [d1, d2, d3] }
  | _ => none }
def nodeResultsRow : OpenClaim := { program := "ytgdgclmkpoaagaagreat", sum := "006fa7b5a5ecbbff33ab6e570bda587e02d8f8b5d0c6b361c097bce4a6d22f8f", func := "homehub/homehublaw17.NodeResults", spec := "nodeResults", inPlace := ["slices.overlaps[homehub/api.Sending]", "slices.overlaps[homehub/api.Mail]", "slices.overlaps[homehub/api.Link]", "slices.overlaps[homehub/api.Route]", "internal/abi.NoEscape", "internal/bytealg.MakeNoZero"], unfollowed := true, recurses := true, apart := false }
def NodeResultsSaid : Prop := nodeResultsRow.holds Tryz.pinned (OpenSpec.ofChange nodeResultsSpec)

/-- ITS FALSE NEIGHBOUR: 'it returns false'. Refute it at one input. -/
def nodeResultsWrong : ChangeSpec := { name := "nodeResults", fn := fun _ => fun
  | [d1, d2, d3] => { results := [.lit (.bool false)], args := [d1, d2, d3] }
  | _ => none }
def NodeResultsWrongFalsely : Prop := nodeResultsRow.holds Tryz.pinned (OpenSpec.ofChange nodeResultsWrong)

/-- 'homehublaw17.NodeTicks': WHATEVER THE INPUT: true; the input reads as it did. -/
def nodeTicksSpec : ChangeSpec := { name := "nodeTicks", fn := fun _ => fun
  | [d1, d2] => { results := [.lit (.bool true)], args := [d1, d2] }
  | _ => none }
def nodeTicksRow : OpenClaim := { program := "ytgdgclmkpoaagaagreat", sum := "006fa7b5a5ecbbff33ab6e570bda587e02d8f8b5d0c6b361c097bce4a6d22f8f", func := "homehub/homehublaw17.NodeTicks", spec := "nodeTicks", inPlace := ["slices.overlaps[homehub/api.Sending]", "slices.overlaps[homehub/api.Mail]", "slices.overlaps[homehub/api.Link]", "slices.overlaps[homehub/api.Route]", "internal/abi.NoEscape", "internal/bytealg.MakeNoZero"], unfollowed := true, recurses := true, apart := false }
def NodeTicksSaid : Prop := nodeTicksRow.holds Tryz.pinned (OpenSpec.ofChange nodeTicksSpec)

/-- ITS FALSE NEIGHBOUR: 'it returns false'. Refute it at one input. -/
def nodeTicksWrong : ChangeSpec := { name := "nodeTicks", fn := fun _ => fun
  | [d1, d2] => { results := [.lit (.bool false)], args := [d1, d2] }
  | _ => none }
def NodeTicksWrongFalsely : Prop := nodeTicksRow.holds Tryz.pinned (OpenSpec.ofChange nodeTicksWrong)

/-- 'homehublaw17.NodeOrder': WHATEVER THE INPUT: true; the input reads as it did. -/
def nodeOrderSpec : ChangeSpec := { name := "nodeOrder", fn := fun _ => fun
  | [d1, d2, d3] => { results := [.lit (.bool true)], args := [d1, d2, d3] }
  | _ => none }
def nodeOrderRow : OpenClaim := { program := "ytgdgclmkpoaagaagreat", sum := "006fa7b5a5ecbbff33ab6e570bda587e02d8f8b5d0c6b361c097bce4a6d22f8f", func := "homehub/homehublaw17.NodeOrder", spec := "nodeOrder", inPlace := ["slices.overlaps[homehub/api.Sending]", "slices.overlaps[homehub/api.Mail]", "slices.overlaps[homehub/api.Link]", "slices.overlaps[homehub/api.Route]", "internal/abi.NoEscape", "internal/bytealg.MakeNoZero"], unfollowed := true, recurses := true, apart := false }
def NodeOrderSaid : Prop := nodeOrderRow.holds Tryz.pinned (OpenSpec.ofChange nodeOrderSpec)

/-- ITS FALSE NEIGHBOUR: 'it returns false'. Refute it at one input. -/
def nodeOrderWrong : ChangeSpec := { name := "nodeOrder", fn := fun _ => fun
  | [d1, d2, d3] => { results := [.lit (.bool false)], args := [d1, d2, d3] }
  | _ => none }
def NodeOrderWrongFalsely : Prop := nodeOrderRow.holds Tryz.pinned (OpenSpec.ofChange nodeOrderWrong)

/-- 'homehublaw17.NodeDelivers': WHATEVER THE INPUT: true; the input reads as it did. -/
def nodeDeliversSpec : ChangeSpec := { name := "nodeDelivers", fn := fun _ => fun
  | [d1, d2, d3] => { results := [.lit (.bool true)], args := [d1, d2, d3] }
  | _ => none }
def nodeDeliversRow : OpenClaim := { program := "ytgdgclmkpoaagaagreat", sum := "006fa7b5a5ecbbff33ab6e570bda587e02d8f8b5d0c6b361c097bce4a6d22f8f", func := "homehub/homehublaw17.NodeDelivers", spec := "nodeDelivers", inPlace := ["slices.overlaps[homehub/api.Sending]", "slices.overlaps[homehub/api.Mail]", "slices.overlaps[homehub/api.Link]", "slices.overlaps[homehub/api.Route]", "internal/abi.NoEscape", "internal/bytealg.MakeNoZero"], unfollowed := true, recurses := true, apart := false }
def NodeDeliversSaid : Prop := nodeDeliversRow.holds Tryz.pinned (OpenSpec.ofChange nodeDeliversSpec)

/-- ITS FALSE NEIGHBOUR: 'it returns false'. Refute it at one input. -/
def nodeDeliversWrong : ChangeSpec := { name := "nodeDelivers", fn := fun _ => fun
  | [d1, d2, d3] => { results := [.lit (.bool false)], args := [d1, d2, d3] }
  | _ => none }
def NodeDeliversWrongFalsely : Prop := nodeDeliversRow.holds Tryz.pinned (OpenSpec.ofChange nodeDeliversWrong)

/- THE SECOND FORM. 'bulk': how many values and letters a reading holds, each counted each time it is reached (what is shared counts as often as it is met; a slice's spare places count too). A statement '..UptoSaid' is the law's where the arguments, and the package variables that the reading takes, are together of bulk at most 1048576: NARROWER than '..Said'. Prove '..Said' where nothing that the law and all that it calls make is longer than what came in: it says more and counts as full. Else prove '..UptoSaid'. A law counts once. -/
mutual
def uptoBulk {H : Type} : DataW H → Nat
  | .lit (.string bytes) => bytes.length + 1
  | .lit _ => 1
  | .nil => 1
  | .ptr d => uptoBulk d + 1
  | .slice elems spare => uptoBulkAll elems + uptoBulkAll spare + 1
  | .agg parts => uptoBulkAll parts + 1
  | .iface _ d => uptoBulk d + 1
  | .map entries => uptoBulkEntries entries + 1
  | .held _ => 1
def uptoBulkAll {H : Type} : List (DataW H) → Nat
  | [] => 0
  | d :: r => uptoBulk d + uptoBulkAll r
def uptoBulkEntries {H : Type} : List (Lit × DataW H) → Nat
  | [] => 0
  | x :: r => uptoBulkEntry x + uptoBulkEntries r
def uptoBulkEntry {H : Type} : Lit × DataW H → Nat
  | (.string bytes, d) => bytes.length + uptoBulk d + 1
  | (_, d) => uptoBulk d + 1
 end
def uptoSmall : (H : Type) → List (DataW H) → Bool := fun _ ds => decide (uptoBulkAll ds ≤ 1048576)
def OpenSpec.upto (s : _root_.Go.ChangeSpec) : _root_.Go.OpenSpec := { _root_.Go.OpenSpec.ofChange s with cond := some uptoSmall }

/-- 'homehublaw17.NodeSends', WHERE WHAT IT READS IS OF BULK AT MOST 1048576: true; the input reads as it did. -/
def nodeSendsUptoRow : OpenClaim := { program := "ytgdgclmkpoaagaagreat", sum := "006fa7b5a5ecbbff33ab6e570bda587e02d8f8b5d0c6b361c097bce4a6d22f8f", func := "homehub/homehublaw17.NodeSends", spec := "nodeSends", inPlace := ["slices.overlaps[homehub/api.Sending]", "slices.overlaps[homehub/api.Mail]", "slices.overlaps[homehub/api.Link]", "slices.overlaps[homehub/api.Route]", "internal/abi.NoEscape", "internal/bytealg.MakeNoZero"], unfollowed := true, recurses := true, apart := false, narrowed := true }
def NodeSendsUptoSaid : Prop := nodeSendsUptoRow.holds Tryz.pinned (OpenSpec.upto nodeSendsSpec)

/-- 'homehublaw17.NodeHears', WHERE WHAT IT READS IS OF BULK AT MOST 1048576: true; the input reads as it did. -/
def nodeHearsUptoRow : OpenClaim := { program := "ytgdgclmkpoaagaagreat", sum := "006fa7b5a5ecbbff33ab6e570bda587e02d8f8b5d0c6b361c097bce4a6d22f8f", func := "homehub/homehublaw17.NodeHears", spec := "nodeHears", inPlace := ["slices.overlaps[homehub/api.Sending]", "slices.overlaps[homehub/api.Mail]", "slices.overlaps[homehub/api.Link]", "slices.overlaps[homehub/api.Route]", "internal/abi.NoEscape", "internal/bytealg.MakeNoZero"], unfollowed := true, recurses := true, apart := false, narrowed := true }
def NodeHearsUptoSaid : Prop := nodeHearsUptoRow.holds Tryz.pinned (OpenSpec.upto nodeHearsSpec)

/-- 'homehublaw17.NodeOnce', WHERE WHAT IT READS IS OF BULK AT MOST 1048576: true; the input reads as it did. -/
def nodeOnceUptoRow : OpenClaim := { program := "ytgdgclmkpoaagaagreat", sum := "006fa7b5a5ecbbff33ab6e570bda587e02d8f8b5d0c6b361c097bce4a6d22f8f", func := "homehub/homehublaw17.NodeOnce", spec := "nodeOnce", inPlace := ["slices.overlaps[homehub/api.Sending]", "slices.overlaps[homehub/api.Mail]", "slices.overlaps[homehub/api.Link]", "slices.overlaps[homehub/api.Route]", "internal/abi.NoEscape", "internal/bytealg.MakeNoZero"], unfollowed := true, recurses := true, apart := false, narrowed := true }
def NodeOnceUptoSaid : Prop := nodeOnceUptoRow.holds Tryz.pinned (OpenSpec.upto nodeOnceSpec)

/-- 'homehublaw17.NodeUrgent', WHERE WHAT IT READS IS OF BULK AT MOST 1048576: true; the input reads as it did. -/
def nodeUrgentUptoRow : OpenClaim := { program := "ytgdgclmkpoaagaagreat", sum := "006fa7b5a5ecbbff33ab6e570bda587e02d8f8b5d0c6b361c097bce4a6d22f8f", func := "homehub/homehublaw17.NodeUrgent", spec := "nodeUrgent", inPlace := ["slices.overlaps[homehub/api.Sending]", "slices.overlaps[homehub/api.Mail]", "slices.overlaps[homehub/api.Link]", "slices.overlaps[homehub/api.Route]", "internal/abi.NoEscape", "internal/bytealg.MakeNoZero"], unfollowed := true, recurses := true, apart := false, narrowed := true }
def NodeUrgentUptoSaid : Prop := nodeUrgentUptoRow.holds Tryz.pinned (OpenSpec.upto nodeUrgentSpec)

/-- 'homehublaw17.NodeNews', WHERE WHAT IT READS IS OF BULK AT MOST 1048576: true; the input reads as it did. -/
def nodeNewsUptoRow : OpenClaim := { program := "ytgdgclmkpoaagaagreat", sum := "006fa7b5a5ecbbff33ab6e570bda587e02d8f8b5d0c6b361c097bce4a6d22f8f", func := "homehub/homehublaw17.NodeNews", spec := "nodeNews", inPlace := ["slices.overlaps[homehub/api.Sending]", "slices.overlaps[homehub/api.Mail]", "slices.overlaps[homehub/api.Link]", "slices.overlaps[homehub/api.Route]", "internal/abi.NoEscape", "internal/bytealg.MakeNoZero"], unfollowed := true, recurses := true, apart := false, narrowed := true }
def NodeNewsUptoSaid : Prop := nodeNewsUptoRow.holds Tryz.pinned (OpenSpec.upto nodeNewsSpec)

/-- 'homehublaw17.NodeResults', WHERE WHAT IT READS IS OF BULK AT MOST 1048576: true; the input reads as it did. -/
def nodeResultsUptoRow : OpenClaim := { program := "ytgdgclmkpoaagaagreat", sum := "006fa7b5a5ecbbff33ab6e570bda587e02d8f8b5d0c6b361c097bce4a6d22f8f", func := "homehub/homehublaw17.NodeResults", spec := "nodeResults", inPlace := ["slices.overlaps[homehub/api.Sending]", "slices.overlaps[homehub/api.Mail]", "slices.overlaps[homehub/api.Link]", "slices.overlaps[homehub/api.Route]", "internal/abi.NoEscape", "internal/bytealg.MakeNoZero"], unfollowed := true, recurses := true, apart := false, narrowed := true }
def NodeResultsUptoSaid : Prop := nodeResultsUptoRow.holds Tryz.pinned (OpenSpec.upto nodeResultsSpec)

/-- 'homehublaw17.NodeTicks', WHERE WHAT IT READS IS OF BULK AT MOST 1048576: true; the input reads as it did. -/
def nodeTicksUptoRow : OpenClaim := { program := "ytgdgclmkpoaagaagreat", sum := "006fa7b5a5ecbbff33ab6e570bda587e02d8f8b5d0c6b361c097bce4a6d22f8f", func := "homehub/homehublaw17.NodeTicks", spec := "nodeTicks", inPlace := ["slices.overlaps[homehub/api.Sending]", "slices.overlaps[homehub/api.Mail]", "slices.overlaps[homehub/api.Link]", "slices.overlaps[homehub/api.Route]", "internal/abi.NoEscape", "internal/bytealg.MakeNoZero"], unfollowed := true, recurses := true, apart := false, narrowed := true }
def NodeTicksUptoSaid : Prop := nodeTicksUptoRow.holds Tryz.pinned (OpenSpec.upto nodeTicksSpec)

/-- 'homehublaw17.NodeOrder', WHERE WHAT IT READS IS OF BULK AT MOST 1048576: true; the input reads as it did. -/
def nodeOrderUptoRow : OpenClaim := { program := "ytgdgclmkpoaagaagreat", sum := "006fa7b5a5ecbbff33ab6e570bda587e02d8f8b5d0c6b361c097bce4a6d22f8f", func := "homehub/homehublaw17.NodeOrder", spec := "nodeOrder", inPlace := ["slices.overlaps[homehub/api.Sending]", "slices.overlaps[homehub/api.Mail]", "slices.overlaps[homehub/api.Link]", "slices.overlaps[homehub/api.Route]", "internal/abi.NoEscape", "internal/bytealg.MakeNoZero"], unfollowed := true, recurses := true, apart := false, narrowed := true }
def NodeOrderUptoSaid : Prop := nodeOrderUptoRow.holds Tryz.pinned (OpenSpec.upto nodeOrderSpec)

/-- 'homehublaw17.NodeDelivers', WHERE WHAT IT READS IS OF BULK AT MOST 1048576: true; the input reads as it did. -/
def nodeDeliversUptoRow : OpenClaim := { program := "ytgdgclmkpoaagaagreat", sum := "006fa7b5a5ecbbff33ab6e570bda587e02d8f8b5d0c6b361c097bce4a6d22f8f", func := "homehub/homehublaw17.NodeDelivers", spec := "nodeDelivers", inPlace := ["slices.overlaps[homehub/api.Sending]", "slices.overlaps[homehub/api.Mail]", "slices.overlaps[homehub/api.Link]", "slices.overlaps[homehub/api.Route]", "internal/abi.NoEscape", "internal/bytealg.MakeNoZero"], unfollowed := true, recurses := true, apart := false, narrowed := true }
def NodeDeliversUptoSaid : Prop := nodeDeliversUptoRow.holds Tryz.pinned (OpenSpec.upto nodeDeliversSpec)

end Rows
end Go.Proofs.YtgdgclmkpoaagaaGreat
