/-
  No cell of these rows narrows 'for every input' (looked for: loops, veiled, ifaces, maps, wideKeys, modest, calm, conditions, laid).
  DERIVED. THE GIVEN ROWS OF THIS SEAT. 9 by the template 'for every input the law returns true; each argument reads behind the call as it read before'; 0 by the template 'total and deterministic' (their statements: YtmjhhmilgebbbaaTotals.lean).
  GIVEN WITH THE SEED: the statements are not yours to turn. If you find one false, say at which input.
  Laid BY PROGRAM, IN A SANDBOX (cutbox-rows.mjs): the forced cells as the released guide's own fill.sh prints them over the translation 51d4559ac7e3dfc7… (all of the seat's roots in one cut). By AI agents, Wed Nov 11 2026. No macro, syntax, notation, axiom, sorry.
-/
import Derived.Test.YtmjhhmilgebbbaaChecked
import GoSem.Claim
import GoSem.ClaimJoined
import GoSem.ClaimMapViews
import Derived.JoinedTies
import Derived.KernelRfl
namespace Go.Proofs.Ytmjhhmilgebbbaa
/- THE CELL 'sum', in the pinned program and in every row, IS THE sha256 OF THE DUMP (.gsa) THAT YtmjhhmilgebbbaaProg.lean LOADS. Nothing in Lean hashes anything: it is a label: what it is worth is what the hold of that sum in a sandbox is worth. -/
noncomputable def Try.pinned : Pinned := { name := "ytmjhhmilgebbbaa", sum := "51d4559ac7e3dfc7360926e8ff975ed0429d821bcf878b521e55c946317b9e2a", checked := Try.checked }
namespace Rows
def none {H : Type} : Left H := { results := [], args := [] }

/-- 'homehublaw04.NamesUnquotes': WHATEVER THE INPUT: true; the input reads as it did. -/
def namesUnquotesSpec : ChangeSpec := { name := "namesUnquotes", fn := fun _ => fun
  | [d] => { results := [.lit (.bool true)], args := [d] }
  | _ => none }
def namesUnquotesRow : OpenClaim := { program := "ytmjhhmilgebbbaa", sum := "51d4559ac7e3dfc7360926e8ff975ed0429d821bcf878b521e55c946317b9e2a", func := "homehub/homehublaw04.NamesUnquotes", spec := "namesUnquotes", inPlace := ["internal/bytealg.IndexByteString", "internal/abi.NoEscape"], apart := false }
def NamesUnquotesSaid : Prop := namesUnquotesRow.holds Try.pinned (OpenSpec.ofChange namesUnquotesSpec)

/-- ITS FALSE NEIGHBOUR: 'it returns false'. Refute it at one input. -/
def namesUnquotesWrong : ChangeSpec := { name := "namesUnquotes", fn := fun _ => fun
  | [d] => { results := [.lit (.bool false)], args := [d] }
  | _ => none }
def NamesUnquotesWrongFalsely : Prop := namesUnquotesRow.holds Try.pinned (OpenSpec.ofChange namesUnquotesWrong)

/-- 'homehublaw04.NamesFields': WHATEVER THE INPUT: true; the input reads as it did. -/
def namesFieldsSpec : ChangeSpec := { name := "namesFields", fn := fun _ => fun
  | [d] => { results := [.lit (.bool true)], args := [d] }
  | _ => none }
def namesFieldsRow : OpenClaim := { program := "ytmjhhmilgebbbaa", sum := "51d4559ac7e3dfc7360926e8ff975ed0429d821bcf878b521e55c946317b9e2a", func := "homehub/homehublaw04.NamesFields", spec := "namesFields", inPlace := ["internal/bytealg.IndexByteString", "internal/abi.NoEscape"], apart := false }
def NamesFieldsSaid : Prop := namesFieldsRow.holds Try.pinned (OpenSpec.ofChange namesFieldsSpec)

/-- ITS FALSE NEIGHBOUR: 'it returns false'. Refute it at one input. -/
def namesFieldsWrong : ChangeSpec := { name := "namesFields", fn := fun _ => fun
  | [d] => { results := [.lit (.bool false)], args := [d] }
  | _ => none }
def NamesFieldsWrongFalsely : Prop := namesFieldsRow.holds Try.pinned (OpenSpec.ofChange namesFieldsWrong)

/-- 'homehublaw04.NamesQuotes': WHATEVER THE INPUT: true; the input reads as it did. -/
def namesQuotesSpec : ChangeSpec := { name := "namesQuotes", fn := fun _ => fun
  | [d] => { results := [.lit (.bool true)], args := [d] }
  | _ => none }
def namesQuotesRow : OpenClaim := { program := "ytmjhhmilgebbbaa", sum := "51d4559ac7e3dfc7360926e8ff975ed0429d821bcf878b521e55c946317b9e2a", func := "homehub/homehublaw04.NamesQuotes", spec := "namesQuotes", inPlace := ["internal/abi.NoEscape", "internal/bytealg.IndexByteString"], apart := false }
def NamesQuotesSaid : Prop := namesQuotesRow.holds Try.pinned (OpenSpec.ofChange namesQuotesSpec)

/-- ITS FALSE NEIGHBOUR: 'it returns false'. Refute it at one input. -/
def namesQuotesWrong : ChangeSpec := { name := "namesQuotes", fn := fun _ => fun
  | [d] => { results := [.lit (.bool false)], args := [d] }
  | _ => none }
def NamesQuotesWrongFalsely : Prop := namesQuotesRow.holds Try.pinned (OpenSpec.ofChange namesQuotesWrong)

/-- 'homehublaw04.NamesBack': WHATEVER THE INPUT: true; the input reads as it did. -/
def namesBackSpec : ChangeSpec := { name := "namesBack", fn := fun _ => fun
  | [d1, d2] => { results := [.lit (.bool true)], args := [d1, d2] }
  | _ => none }
def namesBackRow : OpenClaim := { program := "ytmjhhmilgebbbaa", sum := "51d4559ac7e3dfc7360926e8ff975ed0429d821bcf878b521e55c946317b9e2a", func := "homehub/homehublaw04.NamesBack", spec := "namesBack", inPlace := ["internal/bytealg.IndexByteString", "internal/abi.NoEscape"], apart := false }
def NamesBackSaid : Prop := namesBackRow.holds Try.pinned (OpenSpec.ofChange namesBackSpec)

/-- ITS FALSE NEIGHBOUR: 'it returns false'. Refute it at one input. -/
def namesBackWrong : ChangeSpec := { name := "namesBack", fn := fun _ => fun
  | [d1, d2] => { results := [.lit (.bool false)], args := [d1, d2] }
  | _ => none }
def NamesBackWrongFalsely : Prop := namesBackRow.holds Try.pinned (OpenSpec.ofChange namesBackWrong)

/-- 'homehublaw04.NamesPrintable': WHATEVER THE INPUT: true; the input reads as it did. -/
def namesPrintableSpec : ChangeSpec := { name := "namesPrintable", fn := fun _ => fun
  | [d] => { results := [.lit (.bool true)], args := [d] }
  | _ => none }
def namesPrintableRow : OpenClaim := { program := "ytmjhhmilgebbbaa", sum := "51d4559ac7e3dfc7360926e8ff975ed0429d821bcf878b521e55c946317b9e2a", func := "homehub/homehublaw04.NamesPrintable", spec := "namesPrintable", inPlace := ["internal/bytealg.IndexByteString", "internal/abi.NoEscape"], apart := false }
def NamesPrintableSaid : Prop := namesPrintableRow.holds Try.pinned (OpenSpec.ofChange namesPrintableSpec)

/-- ITS FALSE NEIGHBOUR: 'it returns false'. Refute it at one input. -/
def namesPrintableWrong : ChangeSpec := { name := "namesPrintable", fn := fun _ => fun
  | [d] => { results := [.lit (.bool false)], args := [d] }
  | _ => none }
def NamesPrintableWrongFalsely : Prop := namesPrintableRow.holds Try.pinned (OpenSpec.ofChange namesPrintableWrong)

/-- 'homehublaw04.NamesJoined': WHATEVER THE INPUT: true; the input reads as it did. -/
def namesJoinedSpec : ChangeSpec := { name := "namesJoined", fn := fun _ => fun
  | [d] => { results := [.lit (.bool true)], args := [d] }
  | _ => none }
def namesJoinedRow : OpenClaim := { program := "ytmjhhmilgebbbaa", sum := "51d4559ac7e3dfc7360926e8ff975ed0429d821bcf878b521e55c946317b9e2a", func := "homehub/homehublaw04.NamesJoined", spec := "namesJoined", inPlace := ["internal/bytealg.IndexByteString", "internal/abi.NoEscape"], apart := false }
def NamesJoinedSaid : Prop := namesJoinedRow.holds Try.pinned (OpenSpec.ofChange namesJoinedSpec)

/-- ITS FALSE NEIGHBOUR: 'it returns false'. Refute it at one input. -/
def namesJoinedWrong : ChangeSpec := { name := "namesJoined", fn := fun _ => fun
  | [d] => { results := [.lit (.bool false)], args := [d] }
  | _ => none }
def NamesJoinedWrongFalsely : Prop := namesJoinedRow.holds Try.pinned (OpenSpec.ofChange namesJoinedWrong)

/-- 'homehublaw04.NamesValid': WHATEVER THE INPUT: true; the input reads as it did. -/
def namesValidSpec : ChangeSpec := { name := "namesValid", fn := fun _ => fun
  | [d1, d2] => { results := [.lit (.bool true)], args := [d1, d2] }
  | _ => none }
def namesValidRow : OpenClaim := { program := "ytmjhhmilgebbbaa", sum := "51d4559ac7e3dfc7360926e8ff975ed0429d821bcf878b521e55c946317b9e2a", func := "homehub/homehublaw04.NamesValid", spec := "namesValid", inPlace := ["internal/bytealg.IndexByteString", "internal/abi.NoEscape"], apart := false }
def NamesValidSaid : Prop := namesValidRow.holds Try.pinned (OpenSpec.ofChange namesValidSpec)

/-- ITS FALSE NEIGHBOUR: 'it returns false'. Refute it at one input. -/
def namesValidWrong : ChangeSpec := { name := "namesValid", fn := fun _ => fun
  | [d1, d2] => { results := [.lit (.bool false)], args := [d1, d2] }
  | _ => none }
def NamesValidWrongFalsely : Prop := namesValidRow.holds Try.pinned (OpenSpec.ofChange namesValidWrong)

/-- 'homehublaw04.NamesOrdered': WHATEVER THE INPUT: true; the input reads as it did. -/
def namesOrderedSpec : ChangeSpec := { name := "namesOrdered", fn := fun _ => fun
  | [d] => { results := [.lit (.bool true)], args := [d] }
  | _ => none }
def namesOrderedRow : OpenClaim := { program := "ytmjhhmilgebbbaa", sum := "51d4559ac7e3dfc7360926e8ff975ed0429d821bcf878b521e55c946317b9e2a", func := "homehub/homehublaw04.NamesOrdered", spec := "namesOrdered", inPlace := ["internal/bytealg.IndexByteString", "internal/abi.NoEscape"], recurses := true, apart := false }
def NamesOrderedSaid : Prop := namesOrderedRow.holds Try.pinned (OpenSpec.ofChange namesOrderedSpec)

/-- ITS FALSE NEIGHBOUR: 'it returns false'. Refute it at one input. -/
def namesOrderedWrong : ChangeSpec := { name := "namesOrdered", fn := fun _ => fun
  | [d] => { results := [.lit (.bool false)], args := [d] }
  | _ => none }
def NamesOrderedWrongFalsely : Prop := namesOrderedRow.holds Try.pinned (OpenSpec.ofChange namesOrderedWrong)

/-- 'homehublaw04.NamesSorts': WHATEVER THE INPUT: true; the input reads as it did. -/
def namesSortsSpec : ChangeSpec := { name := "namesSorts", fn := fun _ => fun
  | [d1, d2] => { results := [.lit (.bool true)], args := [d1, d2] }
  | _ => none }
def namesSortsRow : OpenClaim := { program := "ytmjhhmilgebbbaa", sum := "51d4559ac7e3dfc7360926e8ff975ed0429d821bcf878b521e55c946317b9e2a", func := "homehub/homehublaw04.NamesSorts", spec := "namesSorts", inPlace := ["internal/bytealg.IndexByteString", "internal/abi.NoEscape"], recurses := true, apart := false }
def NamesSortsSaid : Prop := namesSortsRow.holds Try.pinned (OpenSpec.ofChange namesSortsSpec)

/-- ITS FALSE NEIGHBOUR: 'it returns false'. Refute it at one input. -/
def namesSortsWrong : ChangeSpec := { name := "namesSorts", fn := fun _ => fun
  | [d1, d2] => { results := [.lit (.bool false)], args := [d1, d2] }
  | _ => none }
def NamesSortsWrongFalsely : Prop := namesSortsRow.holds Try.pinned (OpenSpec.ofChange namesSortsWrong)

/- THE SECOND FORM. 'bulk': how many values and letters a reading holds, each counted each time it is reached (what is shared counts as often as it is met; a slice's spare places count too). A statement '..UptoSaid' is the law's where the arguments, and the package variables that the reading takes, are together of bulk at most 1048576: NARROWER than '..Said'. Prove '..Said' where nothing that the law and all that it calls make is longer than what came in: it says more and counts as full. Else prove '..UptoSaid'. A law counts once. -/
mutual
def uptoBulk {H : Type} : DataW H → Nat
  | .lit (.string bytes) => bytes.length + 1
  | .lit _ => 1
  | .nil => 1
  | .ptr d => uptoBulk d + 1
  | .slice elems spare => uptoBulkAll elems + uptoBulkAll spare + 1
  | .agg parts => uptoBulkAll parts + 1
  | .iface _ d => uptoBulk d + 1
  | .map entries => uptoBulkEntries entries + 1
  | .held _ => 1
def uptoBulkAll {H : Type} : List (DataW H) → Nat
  | [] => 0
  | d :: r => uptoBulk d + uptoBulkAll r
def uptoBulkEntries {H : Type} : List (Lit × DataW H) → Nat
  | [] => 0
  | x :: r => uptoBulkEntry x + uptoBulkEntries r
def uptoBulkEntry {H : Type} : Lit × DataW H → Nat
  | (.string bytes, d) => bytes.length + uptoBulk d + 1
  | (_, d) => uptoBulk d + 1
 end
def uptoSmall : (H : Type) → List (DataW H) → Bool := fun _ ds => decide (uptoBulkAll ds ≤ 1048576)
def OpenSpec.upto (s : _root_.Go.ChangeSpec) : _root_.Go.OpenSpec := { _root_.Go.OpenSpec.ofChange s with cond := some uptoSmall }

/-- 'homehublaw04.NamesUnquotes', WHERE WHAT IT READS IS OF BULK AT MOST 1048576: true; the input reads as it did. -/
def namesUnquotesUptoRow : OpenClaim := { program := "ytmjhhmilgebbbaa", sum := "51d4559ac7e3dfc7360926e8ff975ed0429d821bcf878b521e55c946317b9e2a", func := "homehub/homehublaw04.NamesUnquotes", spec := "namesUnquotes", inPlace := ["internal/bytealg.IndexByteString", "internal/abi.NoEscape"], apart := false, narrowed := true }
def NamesUnquotesUptoSaid : Prop := namesUnquotesUptoRow.holds Try.pinned (OpenSpec.upto namesUnquotesSpec)

/-- 'homehublaw04.NamesFields', WHERE WHAT IT READS IS OF BULK AT MOST 1048576: true; the input reads as it did. -/
def namesFieldsUptoRow : OpenClaim := { program := "ytmjhhmilgebbbaa", sum := "51d4559ac7e3dfc7360926e8ff975ed0429d821bcf878b521e55c946317b9e2a", func := "homehub/homehublaw04.NamesFields", spec := "namesFields", inPlace := ["internal/bytealg.IndexByteString", "internal/abi.NoEscape"], apart := false, narrowed := true }
def NamesFieldsUptoSaid : Prop := namesFieldsUptoRow.holds Try.pinned (OpenSpec.upto namesFieldsSpec)

/-- 'homehublaw04.NamesQuotes', WHERE WHAT IT READS IS OF BULK AT MOST 1048576: true; the input reads as it did. -/
def namesQuotesUptoRow : OpenClaim := { program := "ytmjhhmilgebbbaa", sum := "51d4559ac7e3dfc7360926e8ff975ed0429d821bcf878b521e55c946317b9e2a", func := "homehub/homehublaw04.NamesQuotes", spec := "namesQuotes", inPlace := ["internal/abi.NoEscape", "internal/bytealg.IndexByteString"], apart := false, narrowed := true }
def NamesQuotesUptoSaid : Prop := namesQuotesUptoRow.holds Try.pinned (OpenSpec.upto namesQuotesSpec)

/-- 'homehublaw04.NamesBack', WHERE WHAT IT READS IS OF BULK AT MOST 1048576: true; the input reads as it did. -/
def namesBackUptoRow : OpenClaim := { program := "ytmjhhmilgebbbaa", sum := "51d4559ac7e3dfc7360926e8ff975ed0429d821bcf878b521e55c946317b9e2a", func := "homehub/homehublaw04.NamesBack", spec := "namesBack", inPlace := ["internal/bytealg.IndexByteString", "internal/abi.NoEscape"], apart := false, narrowed := true }
def NamesBackUptoSaid : Prop := namesBackUptoRow.holds Try.pinned (OpenSpec.upto namesBackSpec)

/-- 'homehublaw04.NamesPrintable', WHERE WHAT IT READS IS OF BULK AT MOST 1048576: true; the input reads as it did. -/
def namesPrintableUptoRow : OpenClaim := { program := "ytmjhhmilgebbbaa", sum := "51d4559ac7e3dfc7360926e8ff975ed0429d821bcf878b521e55c946317b9e2a", func := "homehub/homehublaw04.NamesPrintable", spec := "namesPrintable", inPlace := ["internal/bytealg.IndexByteString", "internal/abi.NoEscape"], apart := false, narrowed := true }
def NamesPrintableUptoSaid : Prop := namesPrintableUptoRow.holds Try.pinned (OpenSpec.upto namesPrintableSpec)

/-- 'homehublaw04.NamesJoined', WHERE WHAT IT READS IS OF BULK AT MOST 1048576: true; the input reads as it did. -/
def namesJoinedUptoRow : OpenClaim := { program := "ytmjhhmilgebbbaa", sum := "51d4559ac7e3dfc7360926e8ff975ed0429d821bcf878b521e55c946317b9e2a", func := "homehub/homehublaw04.NamesJoined", spec := "namesJoined", inPlace := ["internal/bytealg.IndexByteString", "internal/abi.NoEscape"], apart := false, narrowed := true }
def NamesJoinedUptoSaid : Prop := namesJoinedUptoRow.holds Try.pinned (OpenSpec.upto namesJoinedSpec)

/-- 'homehublaw04.NamesValid', WHERE WHAT IT READS IS OF BULK AT MOST 1048576: true; the input reads as it did. -/
def namesValidUptoRow : OpenClaim := { program := "ytmjhhmilgebbbaa", sum := "51d4559ac7e3dfc7360926e8ff975ed0429d821bcf878b521e55c946317b9e2a", func := "homehub/homehublaw04.NamesValid", spec := "namesValid", inPlace := ["internal/bytealg.IndexByteString", "internal/abi.NoEscape"], apart := false, narrowed := true }
def NamesValidUptoSaid : Prop := namesValidUptoRow.holds Try.pinned (OpenSpec.upto namesValidSpec)

/-- 'homehublaw04.NamesOrdered', WHERE WHAT IT READS IS OF BULK AT MOST 1048576: true; the input reads as it did. -/
def namesOrderedUptoRow : OpenClaim := { program := "ytmjhhmilgebbbaa", sum := "51d4559ac7e3dfc7360926e8ff975ed0429d821bcf878b521e55c946317b9e2a", func := "homehub/homehublaw04.NamesOrdered", spec := "namesOrdered", inPlace := ["internal/bytealg.IndexByteString", "internal/abi.NoEscape"], recurses := true, apart := false, narrowed := true }
def NamesOrderedUptoSaid : Prop := namesOrderedUptoRow.holds Try.pinned (OpenSpec.upto namesOrderedSpec)

/-- 'homehublaw04.NamesSorts', WHERE WHAT IT READS IS OF BULK AT MOST 1048576: true; the input reads as it did. -/
def namesSortsUptoRow : OpenClaim := { program := "ytmjhhmilgebbbaa", sum := "51d4559ac7e3dfc7360926e8ff975ed0429d821bcf878b521e55c946317b9e2a", func := "homehub/homehublaw04.NamesSorts", spec := "namesSorts", inPlace := ["internal/bytealg.IndexByteString", "internal/abi.NoEscape"], recurses := true, apart := false, narrowed := true }
def NamesSortsUptoSaid : Prop := namesSortsUptoRow.holds Try.pinned (OpenSpec.upto namesSortsSpec)

end Rows
end Go.Proofs.Ytmjhhmilgebbbaa
