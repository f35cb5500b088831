/- Contracts of functions that the statement reaches: each told as values, for all arguments that its hypotheses let in. -/
import Derived.KernelRfl
import Derived.Test.YthhjplnhmmhbbaaHt
set_option linter.unusedSimpArgs false
set_option linter.unusedVariables false
set_option maxHeartbeats 4000000
set_option maxRecDepth 100000
namespace Go.Proofs.Ythhjplnhmmhbbaa
open Go Hm Go.ChangeShapes Go.WideShapes Go.ChangeAt Go.RowKit
theorem hM : Try.prog.follows .mixedOrders = true := by kernel_rfl
def G : Nat → Option (List PV) := fun _ => none
end Go.Proofs.Ythhjplnhmmhbbaa
