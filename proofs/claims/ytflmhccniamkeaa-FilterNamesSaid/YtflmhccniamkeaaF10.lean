/- The law FilterOnes: for every filter and every string of bytes the answer is true. -/
import Derived.Test.YtflmhccniamkeaaF9
set_option linter.unusedSimpArgs false
set_option linter.unusedVariables false
set_option maxHeartbeats 4000000
set_option maxRecDepth 100000
namespace Go.Proofs.Ytflmhccniamkeaa
open Go Hm Go.ChangeShapes Go.WideShapes Go.ChangeAt Go.RowKit
attribute [local go_sem] Int.reduceEq Int.reduceNe Int.reduceLT Int.reduceLE Int.reduceNeg Int.reduceToNat Int.reduceAdd Int.reduceSub Int.reduceMul Int.reducePow Int.reduceDiv Int.reduceMod ite_eq_left_iff ite_eq_right_iff imp_false Nat.reduceLT Nat.reduceEqDiff Nat.reduceAdd Nat.reduceSub Nat.reduceMul Nat.reduceLeDiff Nat.reduceBEq reduceIte
theorem long_sum (b : List Int) (hn : b.length ≤ maxLen) : Sum Try.prog G 9 [byt b] (Is (.pv (.bool (decide (300 < b.length ∧ b.length ≤ 10125 ∨ 10200 < b.length)))) []) := by
  unfold maxLen at hn
  (refine Sum.uniW (Sum.body hT Try.func9 rfl rfl Try.ntmps9 Try.results9 (by simp) ?_); simp only [go_sem, *])
  (repeat' first | with_reducible refine RK.out ?_ | with_reducible refine RC.out ?_ | with_reducible refine RA.out ?_ | refine AWp.seqN ?_ | refine AWp.region hT rfl ?_ | refine AWp.block ?_ | refine AWp.calm hT hM rfl (by decide +kernel) ?_ | ((first | (first | refine runOps_step rfl ?_ | refine runOps_nil ?_ | refine runOps_guardQ rfl rfl ?_ | refine runCalm_step rfl ?_ | refine runCalm_nil ?_ | refine runCalm_guardQ rfl rfl ?_ | refine AWp.cond ?_ | refine AWp.skip ?_ | refine AWp.ret ?_ | refine AWp.exit ?_ | refine BodyPost.retA ?_ | refine BodyPost.norA ?_ | with_reducible refine Keep.mk ?_) | simp (disch := omega) only [wrap_i64, wrap_i32, Int.toNat_natCast, Int.emod_eq_of_lt, Int.emod_emod, gd, gdS]) <;> (try simp only [go_sem, *])) | ((first | ((with_reducible refine And.intro (fun hg => ?_) (fun hg => ?_)) <;> ((try simp only [go_sem] at hg); (try ((have hT0 : True := hg); clear hT0 hg)); (try have hgN := Nat.not_lt.2 hg); (try have hgN := Int.not_lt.2 hg); (try (revert hg; intro _)); (try (exfalso; omega)))) | ((with_reducible refine And.intro (fun H' hS => ?_) ?_) <;> (try simp only [go_sem] at hS))) <;> (try simp only [go_sem, *])) | ((with_reducible refine opt_if (by omega) ?_); exact rfl) | ((with_reducible refine opt_opt_if (by omega) ?_); exact rfl) | ((first | (with_reducible refine And.intro (fun H' => ?_) ?_) | (with_reducible first | (intro H' hS; (try simp only [go_sem] at hS)) | intro _) | (with_reducible refine And.intro (by omega) ?_)) <;> (try simp only [go_sem, *])) | fail)
  all_goals first
    | (refine bool_iff ⟨fun h => ?_, fun h => ?_⟩ <;> omega)
    | (refine bool_yes ?_; omega)
    | (refine bool_no ?_; omega)
theorem fo_len (k n : Int) (b : List Int) : 2 * (fo k n b).length ≤ 3 * b.length := by
  unfold fo
  split
  · rw [dlt_len]; omega
  · split
    · rw [frs_len]; omega
    · exact cnt_len b
theorem fo_byt (k n : Int) {b : List Int} (h : Byt b) : Byt (fo k n b) := by
  unfold fo
  split
  · exact dlt_byt _ _
  · split
    · exact frs_byt h
    · exact cnt_byt h
theorem bk_len {k n : Int} {b : List Int} (h : flE k n = 0) (hK : bkK k b = true) : (bk k n b).length ≤ b.length ∨ (bk k n b).length ≤ 10125 := by
  rcases flE_cases h with ⟨rfl, m, rfl, _⟩ | ⟨rfl, _⟩ | ⟨rfl, _⟩
  · have e : bk 1 m b = sms m b := rfl
    rw [e, sms_len]; exact .inl (Nat.le_refl _)
  · have e : bk 2 n b = nms b := rfl
    rw [e, nms_len]; exact .inl (Nat.le_refl _)
  · have e : bk 3 n b = spl b := rfl
    have e2 : spK b = true := hK
    unfold spK at e2
    rw [decide_eq_true_eq] at e2
    rw [e]; exact .inr e2.1
theorem bk_byt (k n : Int) {b : List Int} (h : Byt b) : Byt (bk k n b) := by
  unfold bk
  split
  · exact sms_byt _ _
  · split
    · exact nms_byt h
    · exact spl_byt' h
theorem oneL_len {k n : Int} {b : List Int} : (oneL k n b).length ≤ 15188 := by
  unfold oneL
  split
  · rename_i h
    have : b.length ≤ 10125 := by
      unfold oneE at h
      split at h
      · split at h <;> omega
      · contradiction
    have := fo_len k n b
    omega
  · simp
theorem bckL_len {k n : Int} {b : List Int} : (bckL k n b).length ≤ 15188 := by
  unfold bckL
  split
  · rename_i h
    unfold bckE at h
    split at h
    · rename_i h0
      split at h
      · omega
      · split at h
        · rename_i h1 h2
          have := bk_len h0 h2
          omega
        · omega
    · contradiction
  · simp
theorem ones_law (k n : Int) (b : List Int) (hB : Byt b) (hn : b.length ≤ maxLen) : Sum Try.prog G 3 [.agg [.int .u8 k, .int .i64 n], byt b] (Is (.pv (.bool true)) []) := by
  have hlg := long_sum b hn
  by_cases h : 300 < b.length ∧ b.length ≤ 10125 ∨ 10200 < b.length
  · rw [decide_eq_true h] at hlg
    clear h
    (refine Sum.uniW (Sum.body hT Try.func3 rfl rfl Try.ntmps3 Try.results3 (by simp) ?_); simp only [go_sem, *])
    (repeat' first | with_reducible refine RK.out ?_ | with_reducible refine RC.out ?_ | with_reducible refine RA.out ?_ | refine AWp.seqN ?_ | refine AWp.region hT rfl ?_ | refine AWp.block ?_ | refine AWp.calm hT hM rfl (by decide +kernel) ?_ | ((first | (first | refine AWp.drawnA (id := 8) (.line [0, 2, 1, 3, 4, 5, 6, 7, 8, 9, 10, 11, 12, 13, 14, 15, 16, 17, 18, 19, 20, 21, 22, 23, 24, 25, 26, 27, 28, 29, 30] .done) [] [] hT hM rfl (by decide +kernel) ?_ ?_ | refine runOps_step rfl ?_ | refine runOps_nil ?_ | refine runOps_guardQ rfl rfl ?_ | refine runCalm_step rfl ?_ | refine runCalm_nil ?_ | refine runCalm_guardQ rfl rfl ?_ | refine runAuto_nil ?_ | refine runAuto_calm rfl rfl ?_ | refine runAuto_eff rfl rfl ?_ | refine runAuto_calmGQ rfl rfl rfl ?_ | refine runAuto_effGQ rfl rfl rfl ?_ | refine RT.line ?_ | refine RT.alts ?_ ?_ | refine RT.done ?_ | apply RT.none | refine AWp.cond ?_ | refine AWp.skip ?_ | refine AWp.ret ?_ | refine AWp.exit ?_ | refine BodyPost.retA ?_ | refine BodyPost.norA ?_ | with_reducible refine Keep.mk ?_) | simp (disch := omega) only [wrap_i64, wrap_i32, Int.toNat_natCast, Int.emod_eq_of_lt, Int.emod_emod, gd, gdS]) <;> (try simp only [go_sem, *])) | (apply ACall.genB; (case' eS => apply hlg); (case eG => (simp only [go_sem, *]; first | with_reducible exact rfl | (repeat' first | with_reducible exact rfl | refine cons_eq ?_ ?_ | refine agg_eq ?_ | refine asl_eq ?_ ?_ | omega | (simp only [go_sem]; done) | (simp only [go_sem]; omega)))); all_goals (first | with_reducible refine Keep.mk ?_ | omega | assumption | decide | (simp; done) | (simp; omega))) | (apply ACall.genB; (case' eS => first | apply long_sum | apply one_sum | apply rone_sum | apply bck_sum | apply rbck_sum | apply check_sum | apply rcheck_sum | apply sameBytes_sum); (case eG => (simp only [go_sem, *]; first | with_reducible exact rfl | (repeat' first | with_reducible exact rfl | refine cons_eq ?_ ?_ | refine agg_eq ?_ | refine asl_eq ?_ ?_ | omega | (simp only [go_sem]; done) | (simp only [go_sem]; omega)))); all_goals (first | with_reducible refine Keep.mk ?_ | omega | assumption | decide | (simp; done) | (simp; omega))) | ((first | ((with_reducible refine And.intro (fun hg => ?_) (fun hg => ?_)) <;> ((try simp only [go_sem] at hg); (try ((have hT0 : True := hg); clear hT0 hg)); (try have hgN := Nat.not_lt.2 hg); (try have hgN := Int.not_lt.2 hg); (try (revert hg; intro _)); (try (exfalso; omega)))) | ((with_reducible refine And.intro (fun H' hS => ?_) ?_) <;> (try simp only [go_sem] at hS))) <;> (try simp only [go_sem, *])) | ((with_reducible refine opt_if (by omega) ?_); exact rfl) | ((with_reducible refine opt_opt_if (by omega) ?_); exact rfl) | ((first | (with_reducible refine And.intro (fun H' => ?_) ?_) | (with_reducible first | (intro H' hS; (try simp only [go_sem] at hS)) | intro _) | (with_reducible refine And.intro (by omega) ?_)) <;> (try simp only [go_sem, *])) | fail)
  · rw [decide_eq_false h] at hlg
    have hb : b.length ≤ 10200 := by omega
    have h1 := one_sum k n b hB hn
    have h2 := rone_sum k n b hB hn
    have h3 := bck_sum k n b hB hn
    have h4 := rbck_sum k n b hB hn
    have l1 := oneL_len (k := k) (n := n) (b := b)
    have l2 := bckL_len (k := k) (n := n) (b := b)
    have s1 := sameBytes_sum (oneL k n b) (oneL k n b) (by unfold maxLen; omega) (by unfold maxLen; omega)
    have s2 := sameBytes_sum (bckL k n b) (bckL k n b) (by unfold maxLen; omega) (by unfold maxLen; omega)
    have s3 := sameBytes_sum b b hn hn
    simp only [decide_true] at s1 s2 s3
    clear h
    generalize oneL k n b = x at *
    generalize bckL k n b = y at *
    generalize oneE k n b = p at *
    generalize bckE k n b = q at *
    (refine Sum.uniW (Sum.body hT Try.func3 rfl rfl Try.ntmps3 Try.results3 (by simp) ?_); simp only [go_sem, *])
    (repeat' first | with_reducible refine RK.out ?_ | with_reducible refine RC.out ?_ | with_reducible refine RA.out ?_ | refine AWp.seqN ?_ | refine AWp.region hT rfl ?_ | refine AWp.block ?_ | refine AWp.calm hT hM rfl (by decide +kernel) ?_ | ((first | (first | refine AWp.drawnA (id := 8) (.line [0, 2, 1, 3, 4, 5, 6, 7, 8, 9, 10, 11, 12, 13, 14, 15, 16, 17, 18, 19, 20, 21, 22, 23, 24, 25, 26, 27, 28, 29, 30] .done) [] [] hT hM rfl (by decide +kernel) ?_ ?_ | refine runOps_step rfl ?_ | refine runOps_nil ?_ | refine runOps_guardQ rfl rfl ?_ | refine runCalm_step rfl ?_ | refine runCalm_nil ?_ | refine runCalm_guardQ rfl rfl ?_ | refine runAuto_nil ?_ | refine runAuto_calm rfl rfl ?_ | refine runAuto_eff rfl rfl ?_ | refine runAuto_calmGQ rfl rfl rfl ?_ | refine runAuto_effGQ rfl rfl rfl ?_ | refine RT.line ?_ | refine RT.alts ?_ ?_ | refine RT.done ?_ | apply RT.none | refine AWp.cond ?_ | refine AWp.skip ?_ | refine AWp.ret ?_ | refine AWp.exit ?_ | refine BodyPost.retA ?_ | refine BodyPost.norA ?_ | with_reducible refine Keep.mk ?_) | simp (disch := omega) only [wrap_i64, wrap_i32, Int.toNat_natCast, Int.emod_eq_of_lt, Int.emod_emod, gd, gdS]) <;> (try simp only [go_sem, *])) | (apply ACall.genB; (case' eS => apply hlg); (case eG => (simp only [go_sem, *]; first | with_reducible exact rfl | (repeat' first | with_reducible exact rfl | refine cons_eq ?_ ?_ | refine agg_eq ?_ | refine asl_eq ?_ ?_ | omega | (simp only [go_sem]; done) | (simp only [go_sem]; omega)))); all_goals (first | with_reducible refine Keep.mk ?_ | omega | assumption | decide | (simp; done) | (simp; omega))) | (apply ACall.genB; (case' eS => apply h1); (case eG => (simp only [go_sem, *]; first | with_reducible exact rfl | (repeat' first | with_reducible exact rfl | refine cons_eq ?_ ?_ | refine agg_eq ?_ | refine asl_eq ?_ ?_ | omega | (simp only [go_sem]; done) | (simp only [go_sem]; omega)))); all_goals (first | with_reducible refine Keep.mk ?_ | omega | assumption | decide | (simp; done) | (simp; omega))) | (apply ACall.genB; (case' eS => apply h2); (case eG => (simp only [go_sem, *]; first | with_reducible exact rfl | (repeat' first | with_reducible exact rfl | refine cons_eq ?_ ?_ | refine agg_eq ?_ | refine asl_eq ?_ ?_ | omega | (simp only [go_sem]; done) | (simp only [go_sem]; omega)))); all_goals (first | with_reducible refine Keep.mk ?_ | omega | assumption | decide | (simp; done) | (simp; omega))) | (apply ACall.genB; (case' eS => apply h3); (case eG => (simp only [go_sem, *]; first | with_reducible exact rfl | (repeat' first | with_reducible exact rfl | refine cons_eq ?_ ?_ | refine agg_eq ?_ | refine asl_eq ?_ ?_ | omega | (simp only [go_sem]; done) | (simp only [go_sem]; omega)))); all_goals (first | with_reducible refine Keep.mk ?_ | omega | assumption | decide | (simp; done) | (simp; omega))) | (apply ACall.genB; (case' eS => apply h4); (case eG => (simp only [go_sem, *]; first | with_reducible exact rfl | (repeat' first | with_reducible exact rfl | refine cons_eq ?_ ?_ | refine agg_eq ?_ | refine asl_eq ?_ ?_ | omega | (simp only [go_sem]; done) | (simp only [go_sem]; omega)))); all_goals (first | with_reducible refine Keep.mk ?_ | omega | assumption | decide | (simp; done) | (simp; omega))) | (apply ACall.genB; (case' eS => apply s1); (case eG => (simp only [go_sem, *]; first | with_reducible exact rfl | (repeat' first | with_reducible exact rfl | refine cons_eq ?_ ?_ | refine agg_eq ?_ | refine asl_eq ?_ ?_ | omega | (simp only [go_sem]; done) | (simp only [go_sem]; omega)))); all_goals (first | with_reducible refine Keep.mk ?_ | omega | assumption | decide | (simp; done) | (simp; omega))) | (apply ACall.genB; (case' eS => apply s2); (case eG => (simp only [go_sem, *]; first | with_reducible exact rfl | (repeat' first | with_reducible exact rfl | refine cons_eq ?_ ?_ | refine agg_eq ?_ | refine asl_eq ?_ ?_ | omega | (simp only [go_sem]; done) | (simp only [go_sem]; omega)))); all_goals (first | with_reducible refine Keep.mk ?_ | omega | assumption | decide | (simp; done) | (simp; omega))) | (apply ACall.genB; (case' eS => apply s3); (case eG => (simp only [go_sem, *]; first | with_reducible exact rfl | (repeat' first | with_reducible exact rfl | refine cons_eq ?_ ?_ | refine agg_eq ?_ | refine asl_eq ?_ ?_ | omega | (simp only [go_sem]; done) | (simp only [go_sem]; omega)))); all_goals (first | with_reducible refine Keep.mk ?_ | omega | assumption | decide | (simp; done) | (simp; omega))) | (apply ACall.genB; (case' eS => first | apply long_sum | apply one_sum | apply rone_sum | apply bck_sum | apply rbck_sum | apply check_sum | apply rcheck_sum | apply sameBytes_sum); (case eG => (simp only [go_sem, *]; first | with_reducible exact rfl | (repeat' first | with_reducible exact rfl | refine cons_eq ?_ ?_ | refine agg_eq ?_ | refine asl_eq ?_ ?_ | omega | (simp only [go_sem]; done) | (simp only [go_sem]; omega)))); all_goals (first | with_reducible refine Keep.mk ?_ | omega | assumption | decide | (simp; done) | (simp; omega))) | ((first | ((with_reducible refine And.intro (fun hg => ?_) (fun hg => ?_)) <;> ((try simp only [go_sem] at hg); (try ((have hT0 : True := hg); clear hT0 hg)); (try have hgN := Nat.not_lt.2 hg); (try have hgN := Int.not_lt.2 hg); (try (revert hg; intro _)); (try (exfalso; omega)))) | ((with_reducible refine And.intro (fun H' hS => ?_) ?_) <;> (try simp only [go_sem] at hS))) <;> (try simp only [go_sem, *])) | ((with_reducible refine opt_if (by omega) ?_); exact rfl) | ((with_reducible refine opt_opt_if (by omega) ?_); exact rfl) | ((first | (with_reducible refine And.intro (fun H' => ?_) ?_) | (with_reducible first | (intro H' hS; (try simp only [go_sem] at hS)) | intro _) | (with_reducible refine And.intro (by omega) ?_)) <;> (try simp only [go_sem, *])) | fail)
end Go.Proofs.Ytflmhccniamkeaa
