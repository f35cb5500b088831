/- Contracts of functions that the statement reaches: each told as values, for all arguments that its hypotheses let in. -/
import Derived.Test.YtkbmkgcenehenaaDoorTie
import Derived.Test.YtkbmkgcenehenaaDoorCards
import Derived.Test.YtkbmkgcenehenaaDoorM0
set_option linter.unusedSimpArgs false
set_option linter.unusedVariables false
set_option maxHeartbeats 4000000
set_option maxRecDepth 100000
namespace Go.Proofs.YtkbmkgcenehenaaDoor
open Go Hm Go.ChangeShapes Go.WideShapes Go.ChangeAt Go.RowKit
attribute [local go_sem] Int.reduceEq Int.reduceNe Int.reduceLT Int.reduceLE Int.reduceNeg Int.reduceToNat Int.reduceAdd Int.reduceSub Int.reduceMul Int.reducePow Int.reduceDiv Int.reduceMod ite_eq_left_iff ite_eq_right_iff imp_false Nat.reduceLT Nat.reduceEqDiff Nat.reduceAdd Nat.reduceSub Nat.reduceMul Nat.reduceLeDiff Nat.reduceBEq reduceIte
set_option maxRecDepth 100000
theorem own : ownKnob Tryd.prog.godebug = none := by kernel_rfl
theorem laidOut : laidOutB Tryd.prog = true := by kernel_rfl
theorem boolUnder : Tryd.prog.underlying 4 = some .bool := by kernel_rfl
theorem quartersNamed : Tryd.prog.globalNamed "bitloft/sha.quarters" = some 0 := by kernel_rfl
theorem quartersType : (Tryd.prog.globals[0]?).map (·.type) = some 100 := by kernel_rfl
noncomputable def laidWorld (os : Os) : World :=
  let w0 := World.holding Tryd.prog os ⟨#[], #[], []⟩
  { w0 with heap := w0.heap.modify 0 fun
      | .cells _ t frozen => .cells (quarters.map (Value.int .u32)).toArray t frozen
      | o => o }
theorem gok {W : World} (h : laidMet Tryd.prog [("bitloft/sha.quarters", Rows.laid_bitloft_sha_quarters)] W) : GOk G W := fun g cells hg => by
  obtain ⟨ps, hl, _⟩ := h
  unfold G at hg
  split at hg
  · rename_i e
    subst e
    simp only [Option.some.injEq] at hg
    subst hg
    exact laid_imm hT (n := 2) hl (List.mem_singleton.2 rfl) quartersNamed quartersType (by decide +kernel) (by rfl) (by decide)
  · cases hg
end Go.Proofs.YtkbmkgcenehenaaDoor
