/- A part of the proof: contracts of the program's functions. Conditions: none. -/
import Derived.Carry
import Derived.Deep.MidRow
import Derived.Deep.Quiet
import Derived.Laws.IdiomRangeMap
import Derived.Laws.MakeOwn
import Derived.Laws.StructEq
import Derived.Laws.Tables
import Derived.Lib.AppendStr
import Derived.Lib.AppendZerosOnto
import Derived.Lib.OthersKept
import Derived.Lib.Overlaps
import Derived.Lib.OwnBridge
import Derived.Lib.SlicesCompact
import Derived.MapKept
import Derived.Orders
import Derived.OrdersHeld
import Derived.Scope
import Derived.SizedLaws
import Derived.SliceStrings
import Derived.Sort.Grow
import Derived.StillTail
import Derived.Test.YtgfdoognildoeaaGreatProg
import Derived.Test.YtgfdoognildoeaaGreatShelf
import Derived.WalkKit
import Derived.WalkLawsBesides
import Derived.WalkSpells
import Derived.Test.YtgfdoognildoeaaGreatPB1
import Derived.Test.YtgfdoognildoeaaGreatPB2
import Derived.Test.YtgfdoognildoeaaGreatPB3
import Derived.Test.YtgfdoognildoeaaGreatPB4
import Derived.Test.YtgfdoognildoeaaGreatPB5
import Derived.Test.YtgfdoognildoeaaGreatPB6
import Derived.Test.YtgfdoognildoeaaGreatPB7
import Derived.Test.YtgfdoognildoeaaGreatPB8
import Derived.Test.YtgfdoognildoeaaGreatPB9
import Derived.Test.YtgfdoognildoeaaGreatPB10
import Derived.Test.YtgfdoognildoeaaGreatPB11
import Derived.Test.YtgfdoognildoeaaGreatPB12
import Derived.Test.YtgfdoognildoeaaGreatPB13
set_option linter.unusedVariables false
set_option linter.unusedSectionVars false
set_option linter.unusedSimpArgs false
set_option maxRecDepth 100000
set_option maxHeartbeats 4000000
namespace Go.Proofs.YtgfdoognildoeaaGreat
open Go.GX Go.RowKit
attribute [local irreducible] Calls Run RunL RunQ RunD HR HL HD blkC ownC mapC Rd slicesC iterC
open Nd
theorem meshPaths.meshPaths_any (a:MeA) (src to:Int) (w:World) (g:MeOkZ w a):
  Calls Tryz.prog 5 #[.agg ⟨meE a⟩,.int .i64 src,.int .i64 to] w fun e w'=>e= .returned (.bool true)∧Below w.heap.size w w':=Proofs.YtgfdoognildoeaaGreat.meshPaths_any a.2.2 a.1 a.2.1 src to w g.ok (fun x hx=>(g.nd x hx).sm)
end Go.Proofs.YtgfdoognildoeaaGreat
