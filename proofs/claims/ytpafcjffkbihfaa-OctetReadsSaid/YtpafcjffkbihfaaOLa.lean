/- Contracts of functions that the statement reaches: each told as values, for all arguments that its hypotheses let in. -/
import Derived.Test.YtpafcjffkbihfaaO7
set_option linter.unusedSimpArgs false
set_option linter.unusedVariables false
set_option maxHeartbeats 4000000
set_option maxRecDepth 100000
namespace Go.Proofs.Ytpafcjffkbihfaa
open Go Hm Go.ChangeShapes Go.WideShapes Go.ChangeAt Go.RowKit
theorem byt123 : Byt [1, 2, 3] := by unfold Byt; decide
end Go.Proofs.Ytpafcjffkbihfaa
