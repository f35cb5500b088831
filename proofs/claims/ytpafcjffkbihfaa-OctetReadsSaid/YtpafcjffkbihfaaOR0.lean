/- Contracts of functions that the statement reaches: each told as values, for all arguments that its hypotheses let in. -/
import Derived.Test.YtpafcjffkbihfaaRows
import Derived.Test.YtpafcjffkbihfaaOG
set_option linter.unusedSimpArgs false
set_option linter.unusedVariables false
set_option maxHeartbeats 4000000
set_option maxRecDepth 100000
namespace Go.Proofs.Ytpafcjffkbihfaa
open Go Hm Go.ChangeShapes Go.WideShapes Go.ChangeAt Go.RowKit
theorem own : ownKnob Try.prog.godebug = none := by kernel_rfl
theorem laidOut : laidOutB Try.prog = true := by kernel_rfl
theorem boolUnder : Try.prog.underlying 4 = some .bool := by kernel_rfl
theorem gok0 {W : World} : GOk G W := fun g cells hg => by cases hg
end Go.Proofs.Ytpafcjffkbihfaa
