/-
  No cell of these rows narrows 'for every input' (looked for: loops, veiled, ifaces, maps, wideKeys, modest, calm, conditions, laid).
  DERIVED. THE GIVEN ROWS OF THIS SEAT. 8 by the template 'for every input the law returns true; each argument reads behind the call as it read before'; 0 by the template 'total and deterministic' (their statements: YtfjomclebkgocaaTotals.lean).
  GIVEN WITH THE SEED: the statements are not yours to turn. If you find one false, say at which input.
  Laid BY PROGRAM, IN A SANDBOX (cutbox-rows.mjs): the forced cells as the released guide's own fill.sh prints them over the translation 7bd1eddc4164f405… (all of the seat's roots in one cut). By AI agents, Wed Nov 11 2026. No macro, syntax, notation, axiom, sorry.
-/
import Derived.Test.YtfjomclebkgocaaChecked
import GoSem.Claim
import GoSem.ClaimJoined
import GoSem.ClaimMapViews
import Derived.JoinedTies
import Derived.KernelRfl
namespace Go.Proofs.Ytfjomclebkgocaa
/- THE CELL 'sum', in the pinned program and in every row, IS THE sha256 OF THE DUMP (.gsa) THAT YtfjomclebkgocaaProg.lean LOADS. Nothing in Lean hashes anything: it is a label: what it is worth is what the hold of that sum in a sandbox is worth. -/
noncomputable def Try.pinned : Pinned := { name := "ytfjomclebkgocaa", sum := "7bd1eddc4164f405d389f52c1539eb1569a9e38b964d7ca87e015ec1fdc496e6", checked := Try.checked }
namespace Rows
def none {H : Type} : Left H := { results := [], args := [] }

/-- 'homehublaw48.TokenChecks': WHATEVER THE INPUT: true; the input reads as it did. -/
def tokenChecksSpec : ChangeSpec := { name := "tokenChecks", fn := fun _ => fun
  | [d] => { results := [.lit (.bool true)], args := [d] }
  | _ => none }
def tokenChecksRow : OpenClaim := { program := "ytfjomclebkgocaa", sum := "7bd1eddc4164f405d389f52c1539eb1569a9e38b964d7ca87e015ec1fdc496e6", func := "homehub/homehublaw48.TokenChecks", spec := "tokenChecks", recurses := true, apart := false }
def TokenChecksSaid : Prop := tokenChecksRow.holds Try.pinned (OpenSpec.ofChange tokenChecksSpec)

/-- ITS FALSE NEIGHBOUR: 'it returns false'. Refute it at one input. -/
def tokenChecksWrong : ChangeSpec := { name := "tokenChecks", fn := fun _ => fun
  | [d] => { results := [.lit (.bool false)], args := [d] }
  | _ => none }
def TokenChecksWrongFalsely : Prop := tokenChecksRow.holds Try.pinned (OpenSpec.ofChange tokenChecksWrong)

/-- 'homehublaw48.TokenHexes': WHATEVER THE INPUT: true; the input reads as it did. -/
def tokenHexesSpec : ChangeSpec := { name := "tokenHexes", fn := fun _ => fun
  | [d] => { results := [.lit (.bool true)], args := [d] }
  | _ => none }
def tokenHexesRow : OpenClaim := { program := "ytfjomclebkgocaa", sum := "7bd1eddc4164f405d389f52c1539eb1569a9e38b964d7ca87e015ec1fdc496e6", func := "homehub/homehublaw48.TokenHexes", spec := "tokenHexes", recurses := true, apart := false }
def TokenHexesSaid : Prop := tokenHexesRow.holds Try.pinned (OpenSpec.ofChange tokenHexesSpec)

/-- ITS FALSE NEIGHBOUR: 'it returns false'. Refute it at one input. -/
def tokenHexesWrong : ChangeSpec := { name := "tokenHexes", fn := fun _ => fun
  | [d] => { results := [.lit (.bool false)], args := [d] }
  | _ => none }
def TokenHexesWrongFalsely : Prop := tokenHexesRow.holds Try.pinned (OpenSpec.ofChange tokenHexesWrong)

/-- 'homehublaw48.TokenIssues': WHATEVER THE INPUT: true; the input reads as it did. -/
def tokenIssuesSpec : ChangeSpec := { name := "tokenIssues", fn := fun _ => fun
  | [d1, d2] => { results := [.lit (.bool true)], args := [d1, d2] }
  | _ => none }
def tokenIssuesRow : OpenClaim := { program := "ytfjomclebkgocaa", sum := "7bd1eddc4164f405d389f52c1539eb1569a9e38b964d7ca87e015ec1fdc496e6", func := "homehub/homehublaw48.TokenIssues", spec := "tokenIssues", recurses := true, apart := false }
def TokenIssuesSaid : Prop := tokenIssuesRow.holds Try.pinned (OpenSpec.ofChange tokenIssuesSpec)

/-- ITS FALSE NEIGHBOUR: 'it returns false'. Refute it at one input. -/
def tokenIssuesWrong : ChangeSpec := { name := "tokenIssues", fn := fun _ => fun
  | [d1, d2] => { results := [.lit (.bool false)], args := [d1, d2] }
  | _ => none }
def TokenIssuesWrongFalsely : Prop := tokenIssuesRow.holds Try.pinned (OpenSpec.ofChange tokenIssuesWrong)

/-- 'homehublaw48.TokenVerifies': WHATEVER THE INPUT: true; the input reads as it did. -/
def tokenVerifiesSpec : ChangeSpec := { name := "tokenVerifies", fn := fun _ => fun
  | [d1, d2, d3, d4, d5] => { results := [.lit (.bool true)], args := [d1, d2, d3, d4, d5] }
  | _ => none }
def tokenVerifiesRow : OpenClaim := { program := "ytfjomclebkgocaa", sum := "7bd1eddc4164f405d389f52c1539eb1569a9e38b964d7ca87e015ec1fdc496e6", func := "homehub/homehublaw48.TokenVerifies", spec := "tokenVerifies", recurses := true, apart := false }
def TokenVerifiesSaid : Prop := tokenVerifiesRow.holds Try.pinned (OpenSpec.ofChange tokenVerifiesSpec)

/-- ITS FALSE NEIGHBOUR: 'it returns false'. Refute it at one input. -/
def tokenVerifiesWrong : ChangeSpec := { name := "tokenVerifies", fn := fun _ => fun
  | [d1, d2, d3, d4, d5] => { results := [.lit (.bool false)], args := [d1, d2, d3, d4, d5] }
  | _ => none }
def TokenVerifiesWrongFalsely : Prop := tokenVerifiesRow.holds Try.pinned (OpenSpec.ofChange tokenVerifiesWrong)

/-- 'homehublaw48.TokenRenews': WHATEVER THE INPUT: true; the input reads as it did. -/
def tokenRenewsSpec : ChangeSpec := { name := "tokenRenews", fn := fun _ => fun
  | [d1, d2, d3, d4, d5, d6] => { results := [.lit (.bool true)], args := [d1, d2, d3, d4, d5, d6] }
  | _ => none }
def tokenRenewsRow : OpenClaim := { program := "ytfjomclebkgocaa", sum := "7bd1eddc4164f405d389f52c1539eb1569a9e38b964d7ca87e015ec1fdc496e6", func := "homehub/homehublaw48.TokenRenews", spec := "tokenRenews", recurses := true, apart := false }
def TokenRenewsSaid : Prop := tokenRenewsRow.holds Try.pinned (OpenSpec.ofChange tokenRenewsSpec)

/-- ITS FALSE NEIGHBOUR: 'it returns false'. Refute it at one input. -/
def tokenRenewsWrong : ChangeSpec := { name := "tokenRenews", fn := fun _ => fun
  | [d1, d2, d3, d4, d5, d6] => { results := [.lit (.bool false)], args := [d1, d2, d3, d4, d5, d6] }
  | _ => none }
def TokenRenewsWrongFalsely : Prop := tokenRenewsRow.holds Try.pinned (OpenSpec.ofChange tokenRenewsWrong)

/-- 'homehublaw48.TokenReturns': WHATEVER THE INPUT: true; the input reads as it did. -/
def tokenReturnsSpec : ChangeSpec := { name := "tokenReturns", fn := fun _ => fun
  | [d1, d2, d3] => { results := [.lit (.bool true)], args := [d1, d2, d3] }
  | _ => none }
def tokenReturnsRow : OpenClaim := { program := "ytfjomclebkgocaa", sum := "7bd1eddc4164f405d389f52c1539eb1569a9e38b964d7ca87e015ec1fdc496e6", func := "homehub/homehublaw48.TokenReturns", spec := "tokenReturns", recurses := true, apart := false }
def TokenReturnsSaid : Prop := tokenReturnsRow.holds Try.pinned (OpenSpec.ofChange tokenReturnsSpec)

/-- ITS FALSE NEIGHBOUR: 'it returns false'. Refute it at one input. -/
def tokenReturnsWrong : ChangeSpec := { name := "tokenReturns", fn := fun _ => fun
  | [d1, d2, d3] => { results := [.lit (.bool false)], args := [d1, d2, d3] }
  | _ => none }
def TokenReturnsWrongFalsely : Prop := tokenReturnsRow.holds Try.pinned (OpenSpec.ofChange tokenReturnsWrong)

/-- 'homehublaw48.TokenLasts': WHATEVER THE INPUT: true; the input reads as it did. -/
def tokenLastsSpec : ChangeSpec := { name := "tokenLasts", fn := fun _ => fun
  | [d1, d2, d3, d4] => { results := [.lit (.bool true)], args := [d1, d2, d3, d4] }
  | _ => none }
def tokenLastsRow : OpenClaim := { program := "ytfjomclebkgocaa", sum := "7bd1eddc4164f405d389f52c1539eb1569a9e38b964d7ca87e015ec1fdc496e6", func := "homehub/homehublaw48.TokenLasts", spec := "tokenLasts", recurses := true, apart := false }
def TokenLastsSaid : Prop := tokenLastsRow.holds Try.pinned (OpenSpec.ofChange tokenLastsSpec)

/-- ITS FALSE NEIGHBOUR: 'it returns false'. Refute it at one input. -/
def tokenLastsWrong : ChangeSpec := { name := "tokenLasts", fn := fun _ => fun
  | [d1, d2, d3, d4] => { results := [.lit (.bool false)], args := [d1, d2, d3, d4] }
  | _ => none }
def TokenLastsWrongFalsely : Prop := tokenLastsRow.holds Try.pinned (OpenSpec.ofChange tokenLastsWrong)

/-- 'homehublaw48.TokenSealed': WHATEVER THE INPUT: true; the input reads as it did. -/
def tokenSealedSpec : ChangeSpec := { name := "tokenSealed", fn := fun _ => fun
  | [d1, d2, d3, d4, d5] => { results := [.lit (.bool true)], args := [d1, d2, d3, d4, d5] }
  | _ => none }
def tokenSealedRow : OpenClaim := { program := "ytfjomclebkgocaa", sum := "7bd1eddc4164f405d389f52c1539eb1569a9e38b964d7ca87e015ec1fdc496e6", func := "homehub/homehublaw48.TokenSealed", spec := "tokenSealed", recurses := true, apart := false }
def TokenSealedSaid : Prop := tokenSealedRow.holds Try.pinned (OpenSpec.ofChange tokenSealedSpec)

/-- ITS FALSE NEIGHBOUR: 'it returns false'. Refute it at one input. -/
def tokenSealedWrong : ChangeSpec := { name := "tokenSealed", fn := fun _ => fun
  | [d1, d2, d3, d4, d5] => { results := [.lit (.bool false)], args := [d1, d2, d3, d4, d5] }
  | _ => none }
def TokenSealedWrongFalsely : Prop := tokenSealedRow.holds Try.pinned (OpenSpec.ofChange tokenSealedWrong)

/- THE SECOND FORM. 'bulk': how many values and letters a reading holds, each counted each time it is reached (what is shared counts as often as it is met; a slice's spare places count too). A statement '..UptoSaid' is the law's where the arguments, and the package variables that the reading takes, are together of bulk at most 1048576: NARROWER than '..Said'. Prove '..Said' where nothing that the law and all that it calls make is longer than what came in: it says more and counts as full. Else prove '..UptoSaid'. A law counts once. -/
mutual
def uptoBulk {H : Type} : DataW H → Nat
  | .lit (.string bytes) => bytes.length + 1
  | .lit _ => 1
  | .nil => 1
  | .ptr d => uptoBulk d + 1
  | .slice elems spare => uptoBulkAll elems + uptoBulkAll spare + 1
  | .agg parts => uptoBulkAll parts + 1
  | .iface _ d => uptoBulk d + 1
  | .map entries => uptoBulkEntries entries + 1
  | .held _ => 1
def uptoBulkAll {H : Type} : List (DataW H) → Nat
  | [] => 0
  | d :: r => uptoBulk d + uptoBulkAll r
def uptoBulkEntries {H : Type} : List (Lit × DataW H) → Nat
  | [] => 0
  | x :: r => uptoBulkEntry x + uptoBulkEntries r
def uptoBulkEntry {H : Type} : Lit × DataW H → Nat
  | (.string bytes, d) => bytes.length + uptoBulk d + 1
  | (_, d) => uptoBulk d + 1
 end
def uptoSmall : (H : Type) → List (DataW H) → Bool := fun _ ds => decide (uptoBulkAll ds ≤ 1048576)
def OpenSpec.upto (s : _root_.Go.ChangeSpec) : _root_.Go.OpenSpec := { _root_.Go.OpenSpec.ofChange s with cond := some uptoSmall }

/-- 'homehublaw48.TokenChecks', WHERE WHAT IT READS IS OF BULK AT MOST 1048576: true; the input reads as it did. -/
def tokenChecksUptoRow : OpenClaim := { program := "ytfjomclebkgocaa", sum := "7bd1eddc4164f405d389f52c1539eb1569a9e38b964d7ca87e015ec1fdc496e6", func := "homehub/homehublaw48.TokenChecks", spec := "tokenChecks", recurses := true, apart := false, narrowed := true }
def TokenChecksUptoSaid : Prop := tokenChecksUptoRow.holds Try.pinned (OpenSpec.upto tokenChecksSpec)

/-- 'homehublaw48.TokenHexes', WHERE WHAT IT READS IS OF BULK AT MOST 1048576: true; the input reads as it did. -/
def tokenHexesUptoRow : OpenClaim := { program := "ytfjomclebkgocaa", sum := "7bd1eddc4164f405d389f52c1539eb1569a9e38b964d7ca87e015ec1fdc496e6", func := "homehub/homehublaw48.TokenHexes", spec := "tokenHexes", recurses := true, apart := false, narrowed := true }
def TokenHexesUptoSaid : Prop := tokenHexesUptoRow.holds Try.pinned (OpenSpec.upto tokenHexesSpec)

/-- 'homehublaw48.TokenIssues', WHERE WHAT IT READS IS OF BULK AT MOST 1048576: true; the input reads as it did. -/
def tokenIssuesUptoRow : OpenClaim := { program := "ytfjomclebkgocaa", sum := "7bd1eddc4164f405d389f52c1539eb1569a9e38b964d7ca87e015ec1fdc496e6", func := "homehub/homehublaw48.TokenIssues", spec := "tokenIssues", recurses := true, apart := false, narrowed := true }
def TokenIssuesUptoSaid : Prop := tokenIssuesUptoRow.holds Try.pinned (OpenSpec.upto tokenIssuesSpec)

/-- 'homehublaw48.TokenVerifies', WHERE WHAT IT READS IS OF BULK AT MOST 1048576: true; the input reads as it did. -/
def tokenVerifiesUptoRow : OpenClaim := { program := "ytfjomclebkgocaa", sum := "7bd1eddc4164f405d389f52c1539eb1569a9e38b964d7ca87e015ec1fdc496e6", func := "homehub/homehublaw48.TokenVerifies", spec := "tokenVerifies", recurses := true, apart := false, narrowed := true }
def TokenVerifiesUptoSaid : Prop := tokenVerifiesUptoRow.holds Try.pinned (OpenSpec.upto tokenVerifiesSpec)

/-- 'homehublaw48.TokenRenews', WHERE WHAT IT READS IS OF BULK AT MOST 1048576: true; the input reads as it did. -/
def tokenRenewsUptoRow : OpenClaim := { program := "ytfjomclebkgocaa", sum := "7bd1eddc4164f405d389f52c1539eb1569a9e38b964d7ca87e015ec1fdc496e6", func := "homehub/homehublaw48.TokenRenews", spec := "tokenRenews", recurses := true, apart := false, narrowed := true }
def TokenRenewsUptoSaid : Prop := tokenRenewsUptoRow.holds Try.pinned (OpenSpec.upto tokenRenewsSpec)

/-- 'homehublaw48.TokenReturns', WHERE WHAT IT READS IS OF BULK AT MOST 1048576: true; the input reads as it did. -/
def tokenReturnsUptoRow : OpenClaim := { program := "ytfjomclebkgocaa", sum := "7bd1eddc4164f405d389f52c1539eb1569a9e38b964d7ca87e015ec1fdc496e6", func := "homehub/homehublaw48.TokenReturns", spec := "tokenReturns", recurses := true, apart := false, narrowed := true }
def TokenReturnsUptoSaid : Prop := tokenReturnsUptoRow.holds Try.pinned (OpenSpec.upto tokenReturnsSpec)

/-- 'homehublaw48.TokenLasts', WHERE WHAT IT READS IS OF BULK AT MOST 1048576: true; the input reads as it did. -/
def tokenLastsUptoRow : OpenClaim := { program := "ytfjomclebkgocaa", sum := "7bd1eddc4164f405d389f52c1539eb1569a9e38b964d7ca87e015ec1fdc496e6", func := "homehub/homehublaw48.TokenLasts", spec := "tokenLasts", recurses := true, apart := false, narrowed := true }
def TokenLastsUptoSaid : Prop := tokenLastsUptoRow.holds Try.pinned (OpenSpec.upto tokenLastsSpec)

/-- 'homehublaw48.TokenSealed', WHERE WHAT IT READS IS OF BULK AT MOST 1048576: true; the input reads as it did. -/
def tokenSealedUptoRow : OpenClaim := { program := "ytfjomclebkgocaa", sum := "7bd1eddc4164f405d389f52c1539eb1569a9e38b964d7ca87e015ec1fdc496e6", func := "homehub/homehublaw48.TokenSealed", spec := "tokenSealed", recurses := true, apart := false, narrowed := true }
def TokenSealedUptoSaid : Prop := tokenSealedUptoRow.holds Try.pinned (OpenSpec.upto tokenSealedSpec)

end Rows
end Go.Proofs.Ytfjomclebkgocaa
