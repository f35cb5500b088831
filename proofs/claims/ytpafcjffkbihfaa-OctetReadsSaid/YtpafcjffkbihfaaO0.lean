/- Contracts of functions that the statement reaches: each told as values, for all arguments that its hypotheses let in. -/
import Derived.Test.YtpafcjffkbihfaaOG
set_option linter.unusedSimpArgs false
set_option linter.unusedVariables false
set_option maxHeartbeats 4000000
set_option maxRecDepth 100000
namespace Go.Proofs.Ytpafcjffkbihfaa
open Go Hm Go.ChangeShapes Go.WideShapes Go.ChangeAt Go.RowKit
/-- Bytes, as an argument, and as a result. -/
@[go_sem] def byt (l : List Int) : PV := .asl true (l.map (PV.int .u8)) l.length
@[go_sem] def bytF (l : List Int) : PV := .asl false (l.map (PV.int .u8)) l.length

def wide (n : Int) : Int := if n < 1 ∨ n ≥ 9 then 2 else 0
theorem wide_sum (n : Int) : Sum Try.prog G 18 [.int .i64 n] (Is (.pv (.int .i64 (wide n))) []) := by
  refine Sum.body hT Try.func18 rfl rfl Try.ntmps18 Try.results18 (by simp) ?_
  simp only [go_sem, Int.reduceEq, Int.reduceNe, Int.reduceLT, Int.reduceLE, Int.reduceNeg, Int.reduceToNat, Int.reduceAdd, Int.reduceSub, Int.reduceMul, Int.reducePow, Int.reduceDiv, Int.reduceMod, ite_eq_left_iff, ite_eq_right_iff, imp_false, Nat.reduceLT, Nat.reduceEqDiff, Nat.reduceAdd, Nat.reduceSub, Nat.reduceMul, Nat.reduceLeDiff, Nat.reduceBEq, reduceIte, *]
  (repeat' first | with_reducible refine RK.out ?_ | with_reducible refine RC.out ?_ | with_reducible refine RA.out ?_ | refine AWp.seqN ?_ | refine AWp.region hT rfl ?_ | refine AWp.block ?_ | refine AWp.calm hT hM rfl (by decide +kernel) ?_ | ((first | refine runOps_step rfl ?_ | refine runOps_nil ?_ | refine runOps_guardQ rfl rfl ?_ | refine runCalm_step rfl ?_ | refine runCalm_nil ?_ | refine runCalm_guardQ rfl rfl ?_ | refine AWp.cond ?_ | refine AWp.skip ?_ | refine AWp.ret ?_ | refine AWp.exit ?_ | refine BodyPost.retA ?_ | refine BodyPost.norA ?_ | with_reducible refine Keep.mk ?_) <;> (try simp only [go_sem, Int.reduceEq, Int.reduceNe, Int.reduceLT, Int.reduceLE, Int.reduceNeg, Int.reduceToNat, Int.reduceAdd, Int.reduceSub, Int.reduceMul, Int.reducePow, Int.reduceDiv, Int.reduceMod, ite_eq_left_iff, ite_eq_right_iff, imp_false, Nat.reduceLT, Nat.reduceEqDiff, Nat.reduceAdd, Nat.reduceSub, Nat.reduceMul, Nat.reduceLeDiff, Nat.reduceBEq, reduceIte, *])) | (simp (disch := omega) only [wrap_i64, wrap_i32, Int.toNat_natCast, Int.emod_eq_of_lt, Int.emod_emod, gd]; try simp only [go_sem, Int.reduceEq, Int.reduceNe, Int.reduceLT, Int.reduceLE, Int.reduceNeg, Int.reduceToNat, Int.reduceAdd, Int.reduceSub, Int.reduceMul, Int.reducePow, Int.reduceDiv, Int.reduceMod, ite_eq_left_iff, ite_eq_right_iff, imp_false, Nat.reduceLT, Nat.reduceEqDiff, Nat.reduceAdd, Nat.reduceSub, Nat.reduceMul, Nat.reduceLeDiff, Nat.reduceBEq, reduceIte, *]) | ((with_reducible refine And.intro (fun hg => ?_) (fun hg => ?_)) <;> ((try simp only [go_sem] at hg); (try ((have hT0 : True := hg); clear hT0 hg)); (try (revert hg; intro _)); (try (exfalso; omega)); (try simp only [go_sem, Int.reduceEq, Int.reduceNe, Int.reduceLT, Int.reduceLE, Int.reduceNeg, Int.reduceToNat, Int.reduceAdd, Int.reduceSub, Int.reduceMul, Int.reducePow, Int.reduceDiv, Int.reduceMod, ite_eq_left_iff, ite_eq_right_iff, imp_false, Nat.reduceLT, Nat.reduceEqDiff, Nat.reduceAdd, Nat.reduceSub, Nat.reduceMul, Nat.reduceLeDiff, Nat.reduceBEq, reduceIte, *]))) | (((with_reducible first | refine And.intro (fun H' hS => ?_) ?_ | (intro H' hS; simp only [go_sem] at hS) | intro _) <;> (try simp only [go_sem, Int.reduceEq, Int.reduceNe, Int.reduceLT, Int.reduceLE, Int.reduceNeg, Int.reduceToNat, Int.reduceAdd, Int.reduceSub, Int.reduceMul, Int.reducePow, Int.reduceDiv, Int.reduceMod, ite_eq_left_iff, ite_eq_right_iff, imp_false, Nat.reduceLT, Nat.reduceEqDiff, Nat.reduceAdd, Nat.reduceSub, Nat.reduceMul, Nat.reduceLeDiff, Nat.reduceBEq, reduceIte, *]))) | ((with_reducible refine And.intro (by omega) ?_); try simp only [go_sem, Int.reduceEq, Int.reduceNe, Int.reduceLT, Int.reduceLE, Int.reduceNeg, Int.reduceToNat, Int.reduceAdd, Int.reduceSub, Int.reduceMul, Int.reducePow, Int.reduceDiv, Int.reduceMod, ite_eq_left_iff, ite_eq_right_iff, imp_false, Nat.reduceLT, Nat.reduceEqDiff, Nat.reduceAdd, Nat.reduceSub, Nat.reduceMul, Nat.reduceLeDiff, Nat.reduceBEq, reduceIte, *]) | fail)
  all_goals unfold wide
  all_goals first | rw [if_pos (by omega)] | rw [if_neg (by omega)]
@[go_sem] theorem wide_eq0 (w : Int) : wide w = 0 ↔ (1 ≤ w ∧ w < 9) := by
  unfold wide; split <;> omega
@[go_sem] theorem wide_ne0 (w : Int) : wide w ≠ 0 ↔ wide w = 2 := by
  unfold wide; split <;> simp
end Go.Proofs.Ytpafcjffkbihfaa
