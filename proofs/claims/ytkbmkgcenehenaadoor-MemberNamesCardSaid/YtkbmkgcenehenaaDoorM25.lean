/- Records read: what both Reads answer. -/
import Derived.Test.YtkbmkgcenehenaaDoorM14
import Derived.Test.YtkbmkgcenehenaaDoorM23
set_option linter.unusedSimpArgs false
set_option linter.unusedVariables false
set_option maxHeartbeats 4000000
set_option maxRecDepth 100000
namespace Go.Proofs.YtkbmkgcenehenaaDoor
open Go Hm Go.ChangeShapes Go.WideShapes Go.ChangeAt Go.RowKit
attribute [local go_sem] Int.reduceEq Int.reduceNe Int.reduceLT Int.reduceLE Int.reduceNeg Int.reduceToNat Int.reduceAdd Int.reduceSub Int.reduceMul Int.reducePow Int.reduceDiv Int.reduceMod ite_eq_left_iff ite_eq_right_iff imp_false Nat.reduceLT Nat.reduceEqDiff Nat.reduceAdd Nat.reduceSub Nat.reduceMul Nat.reduceLeDiff Nat.reduceBEq reduceIte
noncomputable def rdE (b : List Int) (n : Int) : Int := if n < 0 ∨ 16 < n then 2 else if 50000 < b.length then 4 else match rdN b n.toNat with
  | none => 18
  | some x => if vldR x.1 = 0 then 0 else 12
noncomputable def rdL (b : List Int) (n : Int) : List Rec := if rdE b n = 0 then (match rdN b n.toNat with | some x => x.1 | none => []) else []
noncomputable def rdA (b : List Int) (n : Int) : Int := if rdE b n = 0 then (match rdN b n.toNat with | some x => (x.2 : Int) | none => 0) else 0
theorem rd_fail {b : List Int} {n e : Int} (h : rdE b n = e) (he : e ≠ 0) : rdL b n = [] ∧ rdA b n = 0 := by
  subst h
  exact ⟨if_neg he, if_neg he⟩
theorem rdE_none {b : List Int} {m : Nat} (hm : m ≤ 16) (hb : ¬ 50000 < b.length) (h : rdN b m = none) : rdE b m = 18 := by
  unfold rdE
  rw [if_neg (by omega), if_neg hb, Int.toNat_natCast, h]
theorem rdE_some {b : List Int} {m : Nat} (hm : m ≤ 16) (hb : ¬ 50000 < b.length) {x : List Rec × Nat} (h : rdN b m = some x) : rdE b m = if vldR x.1 = 0 then 0 else 12 := by
  unfold rdE
  rw [if_neg (by omega), if_neg hb, Int.toNat_natCast, h]
theorem rd_good {b : List Int} {m : Nat} (h : rdE b m = 0) {x : List Rec × Nat} (h2 : rdN b m = some x) : rdL b m = x.1 ∧ rdA b m = x.2 := by
  constructor
  · unfold rdL; rw [if_pos h, Int.toNat_natCast, h2]
  · unfold rdA; rw [if_pos h, Int.toNat_natCast, h2]
end Go.Proofs.YtkbmkgcenehenaaDoor
