/- Contracts of functions that the statement reaches: each told as values, for all arguments that its hypotheses let in. -/
import Derived.Test.YtpafcjffkbihfaaDoorO0
set_option linter.unusedSimpArgs false
set_option linter.unusedVariables false
set_option maxHeartbeats 4000000
set_option maxRecDepth 100000
namespace Go.Proofs.YtpafcjffkbihfaaDoor
open Go Hm Go.ChangeShapes Go.WideShapes Go.ChangeAt Go.RowKit
def top (w : Int) : Int := tops.getD w.toNat 0
theorem top_at (w : Int) (h : 1 ≤ w) (h9 : w < 9) : topCells[w.toNat]? = some (.int .u64 (top w)) := by
  have : w = 1 ∨ w = 2 ∨ w = 3 ∨ w = 4 ∨ w = 5 ∨ w = 6 ∨ w = 7 ∨ w = 8 := by omega
  rcases this with rfl | rfl | rfl | rfl | rfl | rfl | rfl | rfl <;> rfl

/-- The last k of the m bytes of a number. -/
def dig (n : Int) (m k : Nat) : List Int := (List.range m).map fun j => if m - 1 - j < k then n / 256 ^ (m - 1 - j) % 256 else 0
@[go_sem] theorem dig_length (n : Int) (m k : Nat) : (dig n m k).length = m := by simp [dig]
theorem dig_zero (n : Int) (m : Nat) : (dig n m 0).map (PV.int .u8) = List.replicate m (.int .u8 0) := by
  simp [dig, List.map_const']
theorem dig_step (n : Int) (m k : Nat) (h : k < m) : (dig n m k).set (m - 1 - k) (n / 256 ^ k % 256) = dig n m (k + 1) := by
  apply List.ext_getElem?
  intro i
  simp only [dig, List.getElem?_set, List.getElem?_map, List.length_map, List.length_range]
  by_cases h1 : i < m
  · simp only [List.getElem?_range h1, Option.map_some]
    by_cases h2 : m - 1 - k = i
    · subst h2
      simp only [if_true, if_pos h1]
      rw [if_pos (by omega)]
      have : m - 1 - (m - 1 - k) = k := by omega
      rw [this]
    · rw [if_neg h2]
      by_cases h3 : m - 1 - i < k
      · rw [if_pos h3, if_pos (by omega)]
      · rw [if_neg h3, if_neg (by omega)]
  · rw [List.getElem?_eq_none (by simp; omega)]
    simp
    omega
theorem shr_byte (n : Int) (k : Nat) (hk : k < 8) : n.fdiv (2 ^ min (8 * (k : Int)).toNat 64) % 256 = n / 256 ^ k % 256 := by
  have e : min (8 * (k : Int)).toNat 64 = 8 * k := by omega
  rw [e, Int.fdiv_eq_ediv_of_nonneg _ (Int.pow_nonneg (by omega)), Int.pow_mul]
  rfl

theorem number_ref (n w : Int) (_ : 0 ≤ n) (_ : n < 2^64) : Sum Tryd.prog G 9 [.int .u64 n, .int .i64 w]
    (fun lv H => if 1 ≤ w ∧ w < 9 then if n ≤ top w then Is (.tup [.ref 0 0 w.toNat 1, .pv (.int .i64 0)]) [.p ((dig n w.toNat w.toNat).map (PV.int .u8))] lv H else Is (.tup [.pv .nil, .pv (.int .i64 16)]) [] lv H else Is (.tup [.pv .nil, .pv (.int .i64 2)]) [] lv H) := by
  refine Sum.body hT Tryd.func9 rfl rfl Tryd.ntmps9 Tryd.results9 (by simp) ?_
  have ht := top_at w
  simp only [go_sem, Int.reduceEq, Int.reduceNe, Int.reduceLT, Int.reduceLE, Int.reduceNeg, Int.reduceToNat, Int.reduceAdd, Int.reduceSub, Int.reduceMul, Int.reducePow, Int.reduceDiv, Int.reduceMod, ite_eq_left_iff, ite_eq_right_iff, imp_false, Nat.reduceLT, Nat.reduceEqDiff, Nat.reduceAdd, Nat.reduceSub, Nat.reduceMul, Nat.reduceLeDiff, Nat.reduceBEq, reduceIte, *]
  (repeat' first | with_reducible refine RK.out ?_ | with_reducible refine RC.out ?_ | with_reducible refine RA.out ?_ | refine AWp.seqN ?_ | refine AWp.region hT rfl ?_ | refine AWp.block ?_ | refine AWp.calm hT hM rfl (by decide +kernel) ?_ | ((first | refine runOps_step rfl ?_ | refine runOps_nil ?_ | refine runOps_guardQ rfl rfl ?_ | refine runCalm_step rfl ?_ | refine runCalm_nil ?_ | refine runCalm_guardQ rfl rfl ?_ | refine AWp.cond ?_ | refine AWp.skip ?_ | refine AWp.ret ?_ | refine AWp.exit ?_ | refine BodyPost.retA ?_ | refine BodyPost.norA ?_ | with_reducible refine Keep.mk ?_) <;> (try simp only [go_sem, Int.reduceEq, Int.reduceNe, Int.reduceLT, Int.reduceLE, Int.reduceNeg, Int.reduceToNat, Int.reduceAdd, Int.reduceSub, Int.reduceMul, Int.reducePow, Int.reduceDiv, Int.reduceMod, ite_eq_left_iff, ite_eq_right_iff, imp_false, Nat.reduceLT, Nat.reduceEqDiff, Nat.reduceAdd, Nat.reduceSub, Nat.reduceMul, Nat.reduceLeDiff, Nat.reduceBEq, reduceIte, *])) | (simp (disch := omega) only [wrap_i64, wrap_i32, Int.toNat_natCast, Int.emod_eq_of_lt, Int.emod_emod, gd]; try simp only [go_sem, Int.reduceEq, Int.reduceNe, Int.reduceLT, Int.reduceLE, Int.reduceNeg, Int.reduceToNat, Int.reduceAdd, Int.reduceSub, Int.reduceMul, Int.reducePow, Int.reduceDiv, Int.reduceMod, ite_eq_left_iff, ite_eq_right_iff, imp_false, Nat.reduceLT, Nat.reduceEqDiff, Nat.reduceAdd, Nat.reduceSub, Nat.reduceMul, Nat.reduceLeDiff, Nat.reduceBEq, reduceIte, *]) | (apply ACall.gen; (case' eS => first | apply wide_sum); (case eA => first | (simp only [go_sem, Int.reduceEq, Int.reduceNe, Int.reduceLT, Int.reduceLE, Int.reduceNeg, Int.reduceToNat, Int.reduceAdd, Int.reduceSub, Int.reduceMul, Int.reducePow, Int.reduceDiv, Int.reduceMod, ite_eq_left_iff, ite_eq_right_iff, imp_false, Nat.reduceLT, Nat.reduceEqDiff, Nat.reduceAdd, Nat.reduceSub, Nat.reduceMul, Nat.reduceLeDiff, Nat.reduceBEq, reduceIte, *]; with_reducible exact rfl) | with_reducible exact rfl); (case eG => (simp only [go_sem, Int.reduceEq, Int.reduceNe, Int.reduceLT, Int.reduceLE, Int.reduceNeg, Int.reduceToNat, Int.reduceAdd, Int.reduceSub, Int.reduceMul, Int.reducePow, Int.reduceDiv, Int.reduceMod, ite_eq_left_iff, ite_eq_right_iff, imp_false, Nat.reduceLT, Nat.reduceEqDiff, Nat.reduceAdd, Nat.reduceSub, Nat.reduceMul, Nat.reduceLeDiff, Nat.reduceBEq, reduceIte, *]; first | with_reducible exact rfl | (repeat' first | with_reducible exact rfl | refine cons_eq ?_ ?_ | refine agg_eq ?_ | refine asl_eq ?_ ?_ | omega | (simp only [go_sem]; omega)))); all_goals (first | with_reducible refine Keep.mk ?_ | omega | assumption | decide | (simp; done) | (simp; omega))) | ((with_reducible refine And.intro (fun hg => ?_) (fun hg => ?_)) <;> ((try simp only [go_sem] at hg); (try ((have hT0 : True := hg); clear hT0 hg)); (try (revert hg; intro _)); (try (exfalso; omega)); (try simp only [go_sem, Int.reduceEq, Int.reduceNe, Int.reduceLT, Int.reduceLE, Int.reduceNeg, Int.reduceToNat, Int.reduceAdd, Int.reduceSub, Int.reduceMul, Int.reducePow, Int.reduceDiv, Int.reduceMod, ite_eq_left_iff, ite_eq_right_iff, imp_false, Nat.reduceLT, Nat.reduceEqDiff, Nat.reduceAdd, Nat.reduceSub, Nat.reduceMul, Nat.reduceLeDiff, Nat.reduceBEq, reduceIte, *]))) | (((with_reducible first | refine And.intro (fun H' hS => ?_) ?_ | intro _) <;> (try simp only [go_sem, Int.reduceEq, Int.reduceNe, Int.reduceLT, Int.reduceLE, Int.reduceNeg, Int.reduceToNat, Int.reduceAdd, Int.reduceSub, Int.reduceMul, Int.reducePow, Int.reduceDiv, Int.reduceMod, ite_eq_left_iff, ite_eq_right_iff, imp_false, Nat.reduceLT, Nat.reduceEqDiff, Nat.reduceAdd, Nat.reduceSub, Nat.reduceMul, Nat.reduceLeDiff, Nat.reduceBEq, reduceIte, *]))) | ((with_reducible refine And.intro (by omega) ?_); try simp only [go_sem, Int.reduceEq, Int.reduceNe, Int.reduceLT, Int.reduceLE, Int.reduceNeg, Int.reduceToNat, Int.reduceAdd, Int.reduceSub, Int.reduceMul, Int.reducePow, Int.reduceDiv, Int.reduceMod, ite_eq_left_iff, ite_eq_right_iff, imp_false, Nat.reduceLT, Nat.reduceEqDiff, Nat.reduceAdd, Nat.reduceSub, Nat.reduceMul, Nat.reduceLeDiff, Nat.reduceBEq, reduceIte, *]) | fail)
  · have : wide w = 2 := by unfold wide; split <;> omega
    rw [this]
  · rw [if_neg (by omega)]
    trivial
  · obtain ⟨m, rfl⟩ := Int.eq_ofNat_of_zero_le (show 0 ≤ w by omega)
    refine AWp.loopN [0, 1, 7, 21, 22] [0] (fun k : Nat => ⟨38, [(0, .pv (.int .u64 n)), (1, .pv (.int .i64 m)), (7, .ref 0 0 m 1), (21, .pv (.int .i64 m)), (22, .pv (.int .i64 k))], [.p ((dig n m k).map (PV.int .u8))], []⟩) (fun k => k ≤ m) (fun k => m - k) 0 rfl ⟨by omega, ?_⟩ ?_
    · rw [dig_zero]
      simp only [go_sem, Int.reduceEq, Int.reduceNe, Int.reduceLT, Int.reduceLE, Int.reduceNeg, Int.reduceToNat, Int.reduceAdd, Int.reduceSub, Int.reduceMul, Int.reducePow, Int.reduceDiv, Int.reduceMod, ite_eq_left_iff, ite_eq_right_iff, imp_false, Nat.reduceLT, Nat.reduceEqDiff, Nat.reduceAdd, Nat.reduceSub, Nat.reduceMul, Nat.reduceLeDiff, Nat.reduceBEq, reduceIte, *]
    intro k hk
    (repeat' first | with_reducible refine RK.out ?_ | with_reducible refine RC.out ?_ | with_reducible refine RA.out ?_ | refine AWp.seqN ?_ | refine AWp.region hT rfl ?_ | refine AWp.block ?_ | refine AWp.calm hT hM rfl (by decide +kernel) ?_ | ((first | refine runOps_step rfl ?_ | refine runOps_nil ?_ | refine runOps_guardQ rfl rfl ?_ | refine runCalm_step rfl ?_ | refine runCalm_nil ?_ | refine runCalm_guardQ rfl rfl ?_ | refine AWp.cond ?_ | refine AWp.skip ?_ | refine AWp.ret ?_ | refine AWp.exit ?_ | refine BodyPost.retA ?_ | refine BodyPost.norA ?_ | with_reducible refine Keep.mk ?_) <;> (try simp only [go_sem, Int.reduceEq, Int.reduceNe, Int.reduceLT, Int.reduceLE, Int.reduceNeg, Int.reduceToNat, Int.reduceAdd, Int.reduceSub, Int.reduceMul, Int.reducePow, Int.reduceDiv, Int.reduceMod, ite_eq_left_iff, ite_eq_right_iff, imp_false, Nat.reduceLT, Nat.reduceEqDiff, Nat.reduceAdd, Nat.reduceSub, Nat.reduceMul, Nat.reduceLeDiff, Nat.reduceBEq, reduceIte, *])) | (simp (disch := omega) only [wrap_i64, wrap_i32, Int.toNat_natCast, Int.emod_eq_of_lt, Int.emod_emod, gd]; try simp only [go_sem, Int.reduceEq, Int.reduceNe, Int.reduceLT, Int.reduceLE, Int.reduceNeg, Int.reduceToNat, Int.reduceAdd, Int.reduceSub, Int.reduceMul, Int.reducePow, Int.reduceDiv, Int.reduceMod, ite_eq_left_iff, ite_eq_right_iff, imp_false, Nat.reduceLT, Nat.reduceEqDiff, Nat.reduceAdd, Nat.reduceSub, Nat.reduceMul, Nat.reduceLeDiff, Nat.reduceBEq, reduceIte, *]) | (apply ACall.gen; (case' eS => first | apply wide_sum); (case eA => first | (simp only [go_sem, Int.reduceEq, Int.reduceNe, Int.reduceLT, Int.reduceLE, Int.reduceNeg, Int.reduceToNat, Int.reduceAdd, Int.reduceSub, Int.reduceMul, Int.reducePow, Int.reduceDiv, Int.reduceMod, ite_eq_left_iff, ite_eq_right_iff, imp_false, Nat.reduceLT, Nat.reduceEqDiff, Nat.reduceAdd, Nat.reduceSub, Nat.reduceMul, Nat.reduceLeDiff, Nat.reduceBEq, reduceIte, *]; with_reducible exact rfl) | with_reducible exact rfl); (case eG => (simp only [go_sem, Int.reduceEq, Int.reduceNe, Int.reduceLT, Int.reduceLE, Int.reduceNeg, Int.reduceToNat, Int.reduceAdd, Int.reduceSub, Int.reduceMul, Int.reducePow, Int.reduceDiv, Int.reduceMod, ite_eq_left_iff, ite_eq_right_iff, imp_false, Nat.reduceLT, Nat.reduceEqDiff, Nat.reduceAdd, Nat.reduceSub, Nat.reduceMul, Nat.reduceLeDiff, Nat.reduceBEq, reduceIte, *]; first | with_reducible exact rfl | (repeat' first | with_reducible exact rfl | refine cons_eq ?_ ?_ | refine agg_eq ?_ | refine asl_eq ?_ ?_ | omega | (simp only [go_sem]; omega)))); all_goals (first | with_reducible refine Keep.mk ?_ | omega | assumption | decide | (simp; done) | (simp; omega))) | ((with_reducible refine And.intro (fun hg => ?_) (fun hg => ?_)) <;> ((try simp only [go_sem] at hg); (try ((have hT0 : True := hg); clear hT0 hg)); (try (revert hg; intro _)); (try (exfalso; omega)); (try simp only [go_sem, Int.reduceEq, Int.reduceNe, Int.reduceLT, Int.reduceLE, Int.reduceNeg, Int.reduceToNat, Int.reduceAdd, Int.reduceSub, Int.reduceMul, Int.reducePow, Int.reduceDiv, Int.reduceMod, ite_eq_left_iff, ite_eq_right_iff, imp_false, Nat.reduceLT, Nat.reduceEqDiff, Nat.reduceAdd, Nat.reduceSub, Nat.reduceMul, Nat.reduceLeDiff, Nat.reduceBEq, reduceIte, *]))) | (((with_reducible first | refine And.intro (fun H' hS => ?_) ?_ | intro _) <;> (try simp only [go_sem, Int.reduceEq, Int.reduceNe, Int.reduceLT, Int.reduceLE, Int.reduceNeg, Int.reduceToNat, Int.reduceAdd, Int.reduceSub, Int.reduceMul, Int.reducePow, Int.reduceDiv, Int.reduceMod, ite_eq_left_iff, ite_eq_right_iff, imp_false, Nat.reduceLT, Nat.reduceEqDiff, Nat.reduceAdd, Nat.reduceSub, Nat.reduceMul, Nat.reduceLeDiff, Nat.reduceBEq, reduceIte, *]))) | ((with_reducible refine And.intro (by omega) ?_); try simp only [go_sem, Int.reduceEq, Int.reduceNe, Int.reduceLT, Int.reduceLE, Int.reduceNeg, Int.reduceToNat, Int.reduceAdd, Int.reduceSub, Int.reduceMul, Int.reducePow, Int.reduceDiv, Int.reduceMod, ite_eq_left_iff, ite_eq_right_iff, imp_false, Nat.reduceLT, Nat.reduceEqDiff, Nat.reduceAdd, Nat.reduceSub, Nat.reduceMul, Nat.reduceLeDiff, Nat.reduceBEq, reduceIte, *]) | fail)
    · refine ⟨k + 1, by omega, by omega, ?_⟩
      have e : ((m : Int) - 1 - k).toNat = m - 1 - k := by omega
      rw [shr_byte n k (by omega), e, dig_step n m k (by omega)]
      rfl
    · have : k = m := by omega
      subst this
      rw [if_pos (by omega)]
/-- The bytes and the error of a number. -/
def numB (n w : Int) : List Int := if 1 ≤ w ∧ w < 9 ∧ n ≤ top w then dig n w.toNat w.toNat else []
def numE (n w : Int) : Int := if 1 ≤ w ∧ w < 9 then if n ≤ top w then 0 else 16 else 2
theorem number_sum (n w : Int) (h0 : 0 ≤ n) (h1 : n < 2^64) : Sum Tryd.prog G 9 [.int .u64 n, .int .i64 w]
    (Is (.tup [.pv (.asl false ((numB n w).map (PV.int .u8)) (numB n w).length), .pv (.int .i64 (numE n w))]) []) := by
  refine (number_ref n w h0 h1).uni fun lv H h => ?_
  split at h
  · split at h
    · obtain ⟨rfl, rfl⟩ := h
      have e1 : numB n w = dig n w.toNat w.toNat := if_pos (by omega)
      have e2 : numE n w = 0 := by unfold numE; rw [if_pos (by omega), if_pos (by omega)]
      rw [e1, e2]
      simp only [go_sem, Int.reduceEq, Int.reduceNe, Int.reduceLT, Int.reduceLE, Int.reduceNeg, Int.reduceToNat, Int.reduceAdd, Int.reduceSub, Int.reduceMul, Int.reducePow, Int.reduceDiv, Int.reduceMod, ite_eq_left_iff, ite_eq_right_iff, imp_false, Nat.reduceLT, Nat.reduceEqDiff, Nat.reduceAdd, Nat.reduceSub, Nat.reduceMul, Nat.reduceLeDiff, Nat.reduceBEq, reduceIte, *]
    · obtain ⟨rfl, rfl⟩ := h
      have e1 : numB n w = [] := if_neg (by omega)
      have e2 : numE n w = 16 := by unfold numE; rw [if_pos (by omega), if_neg (by omega)]
      rw [e1, e2]
      simp only [go_sem, Int.reduceEq, Int.reduceNe, Int.reduceLT, Int.reduceLE, Int.reduceNeg, Int.reduceToNat, Int.reduceAdd, Int.reduceSub, Int.reduceMul, Int.reducePow, Int.reduceDiv, Int.reduceMod, ite_eq_left_iff, ite_eq_right_iff, imp_false, Nat.reduceLT, Nat.reduceEqDiff, Nat.reduceAdd, Nat.reduceSub, Nat.reduceMul, Nat.reduceLeDiff, Nat.reduceBEq, reduceIte, *]
  · obtain ⟨rfl, rfl⟩ := h
    have e1 : numB n w = [] := if_neg (by omega)
    have e2 : numE n w = 2 := by unfold numE; rw [if_neg (by omega)]
    rw [e1, e2]
    simp only [go_sem, Int.reduceEq, Int.reduceNe, Int.reduceLT, Int.reduceLE, Int.reduceNeg, Int.reduceToNat, Int.reduceAdd, Int.reduceSub, Int.reduceMul, Int.reducePow, Int.reduceDiv, Int.reduceMod, ite_eq_left_iff, ite_eq_right_iff, imp_false, Nat.reduceLT, Nat.reduceEqDiff, Nat.reduceAdd, Nat.reduceSub, Nat.reduceMul, Nat.reduceLeDiff, Nat.reduceBEq, reduceIte, *]
end Go.Proofs.YtpafcjffkbihfaaDoor
