/- What the listed variables hold, for the laws that reach errors.As. -/
import Derived.LaidEql
import Derived.Stop.Asserts
import Derived.RowKitTokens
import Derived.Test.YtkbmkgcenehenaaDoorMR0
import Derived.Test.YtkbmkgcenehenaaDoorME3
set_option linter.unusedSimpArgs false
set_option linter.unusedVariables false
set_option maxHeartbeats 4000000
set_option maxRecDepth 100000
namespace Go.Proofs.YtkbmkgcenehenaaDoor
open Go Hm Go.ChangeShapes Go.WideShapes Go.ChangeAt Go.RowKit
attribute [local go_sem] Int.reduceEq Int.reduceNe Int.reduceLT Int.reduceLE Int.reduceNeg Int.reduceToNat Int.reduceAdd Int.reduceSub Int.reduceMul Int.reducePow Int.reduceDiv Int.reduceMod ite_eq_left_iff ite_eq_right_iff imp_false Nat.reduceLT Nat.reduceEqDiff Nat.reduceAdd Nat.reduceSub Nat.reduceMul Nat.reduceLeDiff Nat.reduceBEq reduceIte
set_option maxRecDepth 100000
theorem etNamed : Tryd.prog.globalNamed "errors.errorType" = some 1 := by kernel_rfl
theorem rtNamed : (Tryd.prog.cutTypes.find? (·.1 == "internal/reflectlite.rtype")).map (·.2) = some 120 := by kernel_rfl
theorem oneRow : ((List.range 162).filter fun t => Tryd.prog.rowNamed t [101, 114, 114, 111, 114]) = [87] := by kernel_rfl
theorem typesSize : Tryd.prog.types.size = 162 := by kernel_rfl
def laidE : List (String × DataW Unit) := [("errors.errorType", Rows.laid_errors_errorType), ("bitloft/sha.quarters", Rows.laid_bitloft_sha_quarters)]
theorem handle_of_laid {W : World} (h : laidMetH Tryd.prog laidE W) : W.cell? ⟨1, 0, none⟩ = some eT := by
  have h' : laidMet Tryd.prog [("bitloft/sha.quarters", Rows.laid_bitloft_sha_quarters)] W ∧ handlesMet Tryd.prog [("errors.errorType", Rows.laid_errors_errorType)] W := h
  obtain ⟨name, u, ty, e1, e2, e3, e4, e5⟩ := h'.2 _ (List.mem_singleton.2 rfl)
  have en : name = [101, 114, 114, 111, 114] := (Option.some.inj e1).symm
  subst en
  obtain rfl := Option.some.inj (rtNamed.symm.trans e2)
  have hm : ty ∈ (List.range 162).filter fun t => Tryd.prog.rowNamed t [101, 114, 114, 111, 114] := List.mem_filter.2 ⟨List.mem_range.2 (by rw [← typesSize]; exact e3), e4⟩
  rw [oneRow] at hm
  obtain rfl := List.mem_singleton.1 hm
  have hh : typeHandle Tryd.prog 87 = .pointer (some ⟨2, 87, none⟩) := by kernel_rfl
  rw [hh] at e5
  simpa [eT] using World.var?_cell etNamed e5 0
theorem gokE {W : World} (h : laidMetH Tryd.prog laidE W) : GOk GE W := fun g cells hg => by
  unfold GE at hg
  split at hg
  · have h' : laidMet Tryd.prog [("bitloft/sha.quarters", Rows.laid_bitloft_sha_quarters)] W ∧ handlesMet Tryd.prog [("errors.errorType", Rows.laid_errors_errorType)] W := h
    refine gok h'.1 g cells ?_
    unfold G
    rw [if_pos ‹_›]
    exact hg
  · split at hg
    · rename_i e
      subst e
      simp only [Option.some.injEq] at hg
      subst hg
      have hc := handle_of_laid h
      have hlt : 1 < W.heap.size := by
        rcases Nat.lt_or_ge 1 W.heap.size with h | h
        · exact h
        · simp [World.cell?, Array.getElem?_eq_none h] at hc
      refine .ip true [.raw eT] 0 1 0 (fun _ => eT) (fun i p hp => ?_) (fun i hi => ?_) (fun i p hp => ?_)
      · match i, hp with
        | 0, hp => cases hp; rfl
      · have : i = 0 := by simpa using hi
        subst this
        exact ⟨⟨rfl, hlt⟩, hc⟩
      · match i, hp with
        | 0, hp => cases hp; exact .raw _ rfl
    · cases hg
end Go.Proofs.YtkbmkgcenehenaaDoor
