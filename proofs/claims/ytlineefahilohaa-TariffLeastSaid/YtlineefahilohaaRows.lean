/-
  No cell of these rows narrows 'for every input' (looked for: loops, veiled, ifaces, maps, wideKeys, modest, calm, conditions, laid).
  DERIVED. THE GIVEN ROWS OF THIS SEAT. 6 by the template 'for every input the law returns true; each argument reads behind the call as it read before'; 0 by the template 'total and deterministic' (their statements: YtlineefahilohaaTotals.lean).
  GIVEN WITH THE SEED: the statements are not yours to turn. If you find one false, say at which input.
  Laid BY PROGRAM, IN A SANDBOX (cutbox-rows.mjs): the forced cells as the released guide's own fill.sh prints them over the translation 169a6ab02a916fd0… (all of the seat's roots in one cut). By AI agents, Wed Nov 11 2026. No macro, syntax, notation, axiom, sorry.
-/
import Derived.Test.YtlineefahilohaaChecked
import GoSem.Claim
import GoSem.ClaimJoined
import GoSem.ClaimMapViews
import Derived.JoinedTies
import Derived.KernelRfl
namespace Go.Proofs.Ytlineefahilohaa
/- THE CELL 'sum', in the pinned program and in every row, IS THE sha256 OF THE DUMP (.gsa) THAT YtlineefahilohaaProg.lean LOADS. Nothing in Lean hashes anything: it is a label: what it is worth is what the hold of that sum in a sandbox is worth. -/
noncomputable def Try.pinned : Pinned := { name := "ytlineefahilohaa", sum := "169a6ab02a916fd0e1d58ef28ddbd23361955f158a5ac98dbb9d1622241de6e3", checked := Try.checked }
namespace Rows
def none {H : Type} : Left H := { results := [], args := [] }

/-- 'homehublaw38.TariffChecks': WHATEVER THE INPUT: true; the input reads as it did. -/
def tariffChecksSpec : ChangeSpec := { name := "tariffChecks", fn := fun _ => fun
  | [d1, d2] => { results := [.lit (.bool true)], args := [d1, d2] }
  | _ => none }
def tariffChecksRow : OpenClaim := { program := "ytlineefahilohaa", sum := "169a6ab02a916fd0e1d58ef28ddbd23361955f158a5ac98dbb9d1622241de6e3", func := "homehub/homehublaw38.TariffChecks", spec := "tariffChecks", unfollowed := true, recurses := true, apart := false }
def TariffChecksSaid : Prop := tariffChecksRow.holds Try.pinned (OpenSpec.ofChange tariffChecksSpec)

/-- ITS FALSE NEIGHBOUR: 'it returns false'. Refute it at one input. -/
def tariffChecksWrong : ChangeSpec := { name := "tariffChecks", fn := fun _ => fun
  | [d1, d2] => { results := [.lit (.bool false)], args := [d1, d2] }
  | _ => none }
def TariffChecksWrongFalsely : Prop := tariffChecksRow.holds Try.pinned (OpenSpec.ofChange tariffChecksWrong)

/-- 'homehublaw38.TariffCosts': WHATEVER THE INPUT: true; the input reads as it did. -/
def tariffCostsSpec : ChangeSpec := { name := "tariffCosts", fn := fun _ => fun
  | [d1, d2, d3] => { results := [.lit (.bool true)], args := [d1, d2, d3] }
  | _ => none }
def tariffCostsRow : OpenClaim := { program := "ytlineefahilohaa", sum := "169a6ab02a916fd0e1d58ef28ddbd23361955f158a5ac98dbb9d1622241de6e3", func := "homehub/homehublaw38.TariffCosts", spec := "tariffCosts", unfollowed := true, recurses := true, apart := false }
def TariffCostsSaid : Prop := tariffCostsRow.holds Try.pinned (OpenSpec.ofChange tariffCostsSpec)

/-- ITS FALSE NEIGHBOUR: 'it returns false'. Refute it at one input. -/
def tariffCostsWrong : ChangeSpec := { name := "tariffCosts", fn := fun _ => fun
  | [d1, d2, d3] => { results := [.lit (.bool false)], args := [d1, d2, d3] }
  | _ => none }
def TariffCostsWrongFalsely : Prop := tariffCostsRow.holds Try.pinned (OpenSpec.ofChange tariffCostsWrong)

/-- 'homehublaw38.TariffStarts': WHATEVER THE INPUT: true; the input reads as it did. -/
def tariffStartsSpec : ChangeSpec := { name := "tariffStarts", fn := fun _ => fun
  | [d1, d2] => { results := [.lit (.bool true)], args := [d1, d2] }
  | _ => none }
def tariffStartsRow : OpenClaim := { program := "ytlineefahilohaa", sum := "169a6ab02a916fd0e1d58ef28ddbd23361955f158a5ac98dbb9d1622241de6e3", func := "homehub/homehublaw38.TariffStarts", spec := "tariffStarts", unfollowed := true, recurses := true, apart := false }
def TariffStartsSaid : Prop := tariffStartsRow.holds Try.pinned (OpenSpec.ofChange tariffStartsSpec)

/-- ITS FALSE NEIGHBOUR: 'it returns false'. Refute it at one input. -/
def tariffStartsWrong : ChangeSpec := { name := "tariffStarts", fn := fun _ => fun
  | [d1, d2] => { results := [.lit (.bool false)], args := [d1, d2] }
  | _ => none }
def TariffStartsWrongFalsely : Prop := tariffStartsRow.holds Try.pinned (OpenSpec.ofChange tariffStartsWrong)

/-- 'homehublaw38.TariffSplits': WHATEVER THE INPUT: true; the input reads as it did. -/
def tariffSplitsSpec : ChangeSpec := { name := "tariffSplits", fn := fun _ => fun
  | [d1, d2, d3] => { results := [.lit (.bool true)], args := [d1, d2, d3] }
  | _ => none }
def tariffSplitsRow : OpenClaim := { program := "ytlineefahilohaa", sum := "169a6ab02a916fd0e1d58ef28ddbd23361955f158a5ac98dbb9d1622241de6e3", func := "homehub/homehublaw38.TariffSplits", spec := "tariffSplits", unfollowed := true, recurses := true, apart := false }
def TariffSplitsSaid : Prop := tariffSplitsRow.holds Try.pinned (OpenSpec.ofChange tariffSplitsSpec)

/-- ITS FALSE NEIGHBOUR: 'it returns false'. Refute it at one input. -/
def tariffSplitsWrong : ChangeSpec := { name := "tariffSplits", fn := fun _ => fun
  | [d1, d2, d3] => { results := [.lit (.bool false)], args := [d1, d2, d3] }
  | _ => none }
def TariffSplitsWrongFalsely : Prop := tariffSplitsRow.holds Try.pinned (OpenSpec.ofChange tariffSplitsWrong)

/-- 'homehublaw38.TariffSums': WHATEVER THE INPUT: true; the input reads as it did. -/
def tariffSumsSpec : ChangeSpec := { name := "tariffSums", fn := fun _ => fun
  | [d1, d2] => { results := [.lit (.bool true)], args := [d1, d2] }
  | _ => none }
def tariffSumsRow : OpenClaim := { program := "ytlineefahilohaa", sum := "169a6ab02a916fd0e1d58ef28ddbd23361955f158a5ac98dbb9d1622241de6e3", func := "homehub/homehublaw38.TariffSums", spec := "tariffSums", unfollowed := true, recurses := true, apart := false }
def TariffSumsSaid : Prop := tariffSumsRow.holds Try.pinned (OpenSpec.ofChange tariffSumsSpec)

/-- ITS FALSE NEIGHBOUR: 'it returns false'. Refute it at one input. -/
def tariffSumsWrong : ChangeSpec := { name := "tariffSums", fn := fun _ => fun
  | [d1, d2] => { results := [.lit (.bool false)], args := [d1, d2] }
  | _ => none }
def TariffSumsWrongFalsely : Prop := tariffSumsRow.holds Try.pinned (OpenSpec.ofChange tariffSumsWrong)

/-- 'homehublaw38.TariffLeast': WHATEVER THE INPUT: true; the input reads as it did. -/
def tariffLeastSpec : ChangeSpec := { name := "tariffLeast", fn := fun _ => fun
  | [d1, d2] => { results := [.lit (.bool true)], args := [d1, d2] }
  | _ => none }
def tariffLeastRow : OpenClaim := { program := "ytlineefahilohaa", sum := "169a6ab02a916fd0e1d58ef28ddbd23361955f158a5ac98dbb9d1622241de6e3", func := "homehub/homehublaw38.TariffLeast", spec := "tariffLeast", unfollowed := true, recurses := true, apart := false }
def TariffLeastSaid : Prop := tariffLeastRow.holds Try.pinned (OpenSpec.ofChange tariffLeastSpec)

/-- ITS FALSE NEIGHBOUR: 'it returns false'. Refute it at one input. -/
def tariffLeastWrong : ChangeSpec := { name := "tariffLeast", fn := fun _ => fun
  | [d1, d2] => { results := [.lit (.bool false)], args := [d1, d2] }
  | _ => none }
def TariffLeastWrongFalsely : Prop := tariffLeastRow.holds Try.pinned (OpenSpec.ofChange tariffLeastWrong)

/- THE SECOND FORM. 'bulk': how many values and letters a reading holds, each counted each time it is reached (what is shared counts as often as it is met; a slice's spare places count too). A statement '..UptoSaid' is the law's where the arguments, and the package variables that the reading takes, are together of bulk at most 1048576: NARROWER than '..Said'. Prove '..Said' where nothing that the law and all that it calls make is longer than what came in: it says more and counts as full. Else prove '..UptoSaid'. A law counts once. -/
mutual
def uptoBulk {H : Type} : DataW H → Nat
  | .lit (.string bytes) => bytes.length + 1
  | .lit _ => 1
  | .nil => 1
  | .ptr d => uptoBulk d + 1
  | .slice elems spare => uptoBulkAll elems + uptoBulkAll spare + 1
  | .agg parts => uptoBulkAll parts + 1
  | .iface _ d => uptoBulk d + 1
  | .map entries => uptoBulkEntries entries + 1
  | .held _ => 1
def uptoBulkAll {H : Type} : List (DataW H) → Nat
  | [] => 0
  | d :: r => uptoBulk d + uptoBulkAll r
def uptoBulkEntries {H : Type} : List (Lit × DataW H) → Nat
  | [] => 0
  | x :: r => uptoBulkEntry x + uptoBulkEntries r
def uptoBulkEntry {H : Type} : Lit × DataW H → Nat
  | (.string bytes, d) => bytes.length + uptoBulk d + 1
  | (_, d) => uptoBulk d + 1
 end
def uptoSmall : (H : Type) → List (DataW H) → Bool := fun _ ds => decide (uptoBulkAll ds ≤ 1048576)
def OpenSpec.upto (s : _root_.Go.ChangeSpec) : _root_.Go.OpenSpec := { _root_.Go.OpenSpec.ofChange s with cond := some uptoSmall }

/-- 'homehublaw38.TariffChecks', WHERE WHAT IT READS IS OF BULK AT MOST 1048576: true; the input reads as it did. -/
def tariffChecksUptoRow : OpenClaim := { program := "ytlineefahilohaa", sum := "169a6ab02a916fd0e1d58ef28ddbd23361955f158a5ac98dbb9d1622241de6e3", func := "homehub/homehublaw38.TariffChecks", spec := "tariffChecks", unfollowed := true, recurses := true, apart := false, narrowed := true }
def TariffChecksUptoSaid : Prop := tariffChecksUptoRow.holds Try.pinned (OpenSpec.upto tariffChecksSpec)

/-- 'homehublaw38.TariffCosts', WHERE WHAT IT READS IS OF BULK AT MOST 1048576: true; the input reads as it did. -/
def tariffCostsUptoRow : OpenClaim := { program := "ytlineefahilohaa", sum := "169a6ab02a916fd0e1d58ef28ddbd23361955f158a5ac98dbb9d1622241de6e3", func := "homehub/homehublaw38.TariffCosts", spec := "tariffCosts", unfollowed := true, recurses := true, apart := false, narrowed := true }
def TariffCostsUptoSaid : Prop := tariffCostsUptoRow.holds Try.pinned (OpenSpec.upto tariffCostsSpec)

/-- 'homehublaw38.TariffStarts', WHERE WHAT IT READS IS OF BULK AT MOST 1048576: true; the input reads as it did. -/
def tariffStartsUptoRow : OpenClaim := { program := "ytlineefahilohaa", sum := "169a6ab02a916fd0e1d58ef28ddbd23361955f158a5ac98dbb9d1622241de6e3", func := "homehub/homehublaw38.TariffStarts", spec := "tariffStarts", unfollowed := true, recurses := true, apart := false, narrowed := true }
def TariffStartsUptoSaid : Prop := tariffStartsUptoRow.holds Try.pinned (OpenSpec.upto tariffStartsSpec)

/-- 'homehublaw38.TariffSplits', WHERE WHAT IT READS IS OF BULK AT MOST 1048576: true; the input reads as it did. -/
def tariffSplitsUptoRow : OpenClaim := { program := "ytlineefahilohaa", sum := "169a6ab02a916fd0e1d58ef28ddbd23361955f158a5ac98dbb9d1622241de6e3", func := "homehub/homehublaw38.TariffSplits", spec := "tariffSplits", unfollowed := true, recurses := true, apart := false, narrowed := true }
def TariffSplitsUptoSaid : Prop := tariffSplitsUptoRow.holds Try.pinned (OpenSpec.upto tariffSplitsSpec)

/-- 'homehublaw38.TariffSums', WHERE WHAT IT READS IS OF BULK AT MOST 1048576: true; the input reads as it did. -/
def tariffSumsUptoRow : OpenClaim := { program := "ytlineefahilohaa", sum := "169a6ab02a916fd0e1d58ef28ddbd23361955f158a5ac98dbb9d1622241de6e3", func := "homehub/homehublaw38.TariffSums", spec := "tariffSums", unfollowed := true, recurses := true, apart := false, narrowed := true }
def TariffSumsUptoSaid : Prop := tariffSumsUptoRow.holds Try.pinned (OpenSpec.upto tariffSumsSpec)

/-- 'homehublaw38.TariffLeast', WHERE WHAT IT READS IS OF BULK AT MOST 1048576: true; the input reads as it did. -/
def tariffLeastUptoRow : OpenClaim := { program := "ytlineefahilohaa", sum := "169a6ab02a916fd0e1d58ef28ddbd23361955f158a5ac98dbb9d1622241de6e3", func := "homehub/homehublaw38.TariffLeast", spec := "tariffLeast", unfollowed := true, recurses := true, apart := false, narrowed := true }
def TariffLeastUptoSaid : Prop := tariffLeastUptoRow.holds Try.pinned (OpenSpec.upto tariffLeastSpec)

end Rows
end Go.Proofs.Ytlineefahilohaa
