/- The mark, and bytes.Index. -/
import Derived.KernelRfl
import Derived.Shelf.Lay
import Derived.Shelf.Bytes.SlIndexWhole
import Derived.Test.YtmgjogbpmaiahaaHt
set_option linter.unusedSimpArgs false
set_option linter.unusedVariables false
set_option maxHeartbeats 4000000
set_option maxRecDepth 100000
namespace Go.Proofs.Ytmgjogbpmaiahaa
open Go Hm Go.ChangeShapes Go.WideShapes Go.ChangeAt Go.RowKit
theorem hM : Try.prog.follows .mixedOrders = true := by kernel_rfl
/-- The variable internal/bytealg.MaxLen holds some number. -/
def Gm (mx : Int) : Nat → Option (List PV) := fun g => if g = 0 then some [PV.int .i64 mx] else none
shelf_lay LaysM.n185 Nm 185 at Try as Try.slLays
end Go.Proofs.Ytmgjogbpmaiahaa
