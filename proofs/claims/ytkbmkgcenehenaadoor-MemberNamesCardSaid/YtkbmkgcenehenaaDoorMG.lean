/- Contracts of functions that the statement reaches: each told as values, for all arguments that its hypotheses let in. -/
import Derived.KernelRfl
import Derived.Test.YtkbmkgcenehenaaDoorHt
set_option linter.unusedSimpArgs false
set_option linter.unusedVariables false
set_option maxHeartbeats 4000000
set_option maxRecDepth 100000
namespace Go.Proofs.YtkbmkgcenehenaaDoor
open Go Hm Go.ChangeShapes Go.WideShapes Go.ChangeAt Go.RowKit
attribute [local go_sem] Int.reduceEq Int.reduceNe Int.reduceLT Int.reduceLE Int.reduceNeg Int.reduceToNat Int.reduceAdd Int.reduceSub Int.reduceMul Int.reducePow Int.reduceDiv Int.reduceMod ite_eq_left_iff ite_eq_right_iff imp_false Nat.reduceLT Nat.reduceEqDiff Nat.reduceAdd Nat.reduceSub Nat.reduceMul Nat.reduceLeDiff Nat.reduceBEq reduceIte
theorem hM : Tryd.prog.follows .mixedOrders = true := by kernel_rfl
def quarters : List Int := [1518500249, 1859775393, 2400959708, 3395469782]
def qCells : List PV := quarters.map (PV.int .u32)
def G : Nat → Option (List PV) := fun g => if g = 0 then some qCells else none
@[go_sem] theorem Gq : G 0 = some qCells := rfl
end Go.Proofs.YtkbmkgcenehenaaDoor
