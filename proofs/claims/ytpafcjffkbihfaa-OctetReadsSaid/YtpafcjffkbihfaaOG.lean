/- Contracts of functions that the statement reaches: each told as values, for all arguments that its hypotheses let in. -/
import Derived.KernelRfl
import Derived.Test.YtpafcjffkbihfaaHt
set_option linter.unusedSimpArgs false
set_option linter.unusedVariables false
set_option maxHeartbeats 4000000
set_option maxRecDepth 100000
namespace Go.Proofs.Ytpafcjffkbihfaa
open Go Hm Go.ChangeShapes Go.WideShapes Go.ChangeAt Go.RowKit
theorem hM : Try.prog.follows .mixedOrders = true := by kernel_rfl
def tops : List Int := [0, 255, 65535, 16777215, 4294967295, 1099511627775, 281474976710655, 72057594037927935, 18446744073709551615]
def topCells : List PV := tops.map (PV.int .u64)
def G : Nat → Option (List PV) := fun _ => none
end Go.Proofs.Ytpafcjffkbihfaa
