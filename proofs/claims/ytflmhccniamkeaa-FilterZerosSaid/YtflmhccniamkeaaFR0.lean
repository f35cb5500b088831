/- What the rows of this seat ask for. -/
import Derived.Test.YtflmhccniamkeaaRows
import Derived.Test.YtflmhccniamkeaaFG
set_option linter.unusedSimpArgs false
set_option linter.unusedVariables false
set_option maxHeartbeats 4000000
set_option maxRecDepth 100000
namespace Go.Proofs.Ytflmhccniamkeaa
open Go Hm Go.ChangeShapes Go.WideShapes Go.ChangeAt Go.RowKit
theorem own : ownKnob Try.prog.godebug = none := by kernel_rfl
theorem laidOut : laidOutB Try.prog = true := by kernel_rfl
theorem boolUnder : Try.prog.underlying 4 = some .bool := by kernel_rfl
theorem gok0 {W : World} : GOk G W := fun g cells hg => by cases hg
end Go.Proofs.Ytflmhccniamkeaa
