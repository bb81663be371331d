/- A part of the proof: contracts of the program's functions. Conditions: none. -/
import Derived.Test.YtlineefahilohaaTf9
import Derived.Test.YtlineefahilohaaTfP
import Derived.Test.YtlineefahilohaaGxDraw
namespace Go.Proofs.Ytlineefahilohaa
open Go.GX Go.RowKit
attribute [local irreducible] Calls Run RunL RunQ RunD HR HL HD blkC ownC mapC Rd slicesC iterC RdM
set_option linter.unusedVariables false
set_option linter.unusedSectionVars false
set_option linter.unusedSimpArgs false
set_option maxRecDepth 100000

open Tf
theorem tariffLeast.tariffLeast_any (a : TfA) (k : Int) (w : World) (g : tfG w a) :
    Calls Try.prog 8 #[.agg ⟨tfE a⟩, .int .i64 k] w fun e w' => e = .returned (.bool true) ∧ Below w.heap.size w w' := Proofs.Ytlineefahilohaa.tariffLeast_any a.2.2 a.1 a.2.1 k w g.1 g.2
end Go.Proofs.Ytlineefahilohaa
