/- The law MemberReads. -/
import Derived.Test.YtkbmkgcenehenaaDoorM22
import Derived.Test.YtkbmkgcenehenaaDoorM24
import Derived.Test.YtkbmkgcenehenaaDoorM26
set_option linter.unusedSimpArgs false
set_option linter.unusedVariables false
set_option maxHeartbeats 4000000
set_option maxRecDepth 100000
namespace Go.Proofs.YtkbmkgcenehenaaDoor
open Go Hm Go.ChangeShapes Go.WideShapes Go.ChangeAt Go.RowKit
attribute [local go_sem] Int.reduceEq Int.reduceNe Int.reduceLT Int.reduceLE Int.reduceNeg Int.reduceToNat Int.reduceAdd Int.reduceSub Int.reduceMul Int.reducePow Int.reduceDiv Int.reduceMod ite_eq_left_iff ite_eq_right_iff imp_false Nat.reduceLT Nat.reduceEqDiff Nat.reduceAdd Nat.reduceSub Nat.reduceMul Nat.reduceLeDiff Nat.reduceBEq reduceIte
theorem reads_law (b : List Int) (hB : Byt b) (hl : b.length ≤ 140737488351232) (n : Int) : Sum Tryd.prog (GE) 6 [.asl true (b.map (PV.int .u8)) b.length, .int .i64 n] (Is (.pv (.bool true)) []) := by
  have hm : ((bs b).data.toList.map fun x => PV.int .u8 x.toNat) = b.map (PV.int .u8) := by
    have h0 : ((bs b).data.toList.map fun x => PV.int .u8 x.toNat) = (sb (bs b)).map (PV.int .u8) := by simp [sb]
    rw [h0, sb_bs hB]
  have hsz : (bs b).size = b.length := by rw [← sb_length, sb_bs hB]
  by_cases c1 : 1500 < b.length ∧ b.length ≤ 50000
  · obtain ⟨c2, c3⟩ := c1
    (refine Sum.uniW (Sum.body hT Tryd.func6 rfl rfl Tryd.ntmps6 Tryd.results6 (by simp) ?_); simp only [go_sem, *])
    (repeat' first | with_reducible refine RK.out ?_ | with_reducible refine RC.out ?_ | with_reducible refine RA.out ?_ | refine AWp.seqN ?_ | refine AWp.region hT rfl ?_ | refine AWp.block ?_ | refine AWp.calm hT hM rfl (by decide +kernel) ?_ | ((first | (first | refine runOps_step rfl ?_ | refine runOps_nil ?_ | refine runOps_guardQ rfl rfl ?_ | refine runCalm_step rfl ?_ | refine runCalm_nil ?_ | refine runCalm_guardQ rfl rfl ?_ | refine AWp.cond ?_ | refine AWp.skip ?_ | refine AWp.ret ?_ | refine AWp.exit ?_ | refine BodyPost.retA ?_ | refine BodyPost.norA ?_ | with_reducible refine Keep.mk ?_) | simp (disch := omega) only [wrap_i64, wrap_i32, Int.toNat_natCast, Int.emod_eq_of_lt, Int.emod_emod, gd, gdS]) <;> (try simp only [go_sem, *])) | (apply ACall.genB; (case' eS => first | apply same_sum | apply read_sum | apply rread_sum); (case eG => (simp only [go_sem, *]; first | with_reducible exact rfl | (repeat' first | with_reducible exact rfl | refine cons_eq ?_ ?_ | refine agg_eq ?_ | refine asl_eq ?_ ?_ | omega | (simp only [go_sem]; done) | (simp only [go_sem]; omega)))); all_goals (first | with_reducible refine Keep.mk ?_ | omega | assumption | decide | (simp; done) | (simp; omega))) | ((first | ((with_reducible refine And.intro (fun hg => ?_) (fun hg => ?_)) <;> ((try simp only [go_sem] at hg); (try ((have hT0 : True := hg); clear hT0 hg)); (try have hgN := Nat.not_lt.2 hg); (try have hgN := Int.not_lt.2 hg); (try (revert hg; intro _)); (try (exfalso; omega)))) | ((with_reducible refine And.intro (fun H' hS => ?_) ?_) <;> (try simp only [go_sem] at hS))) <;> (try simp only [go_sem, *])) | ((with_reducible refine opt_if (by omega) ?_); exact rfl) | ((with_reducible refine opt_opt_if (by omega) ?_); exact rfl) | ((first | (with_reducible refine And.intro (fun H' => ?_) ?_) | (with_reducible first | (intro H' hS; (try simp only [go_sem] at hS)) | intro _) | (with_reducible refine And.intro (by omega) ?_)) <;> (try simp only [go_sem, *])) | fail)
  have h1 : Sum Tryd.prog (GE) 28 [.asl true (b.map (PV.int .u8)) b.length, .int .i64 n] (Is (.tup [.pv (.asl false ((rdL b n).flatMap Rec.c) (rdL b n).length), .pv (.int .i64 (rdA b n)), .pv (.int .i64 (rdE b n))]) []) := by
    by_cases c2 : b.length ≤ 1000000
    · exact read_sum b hB c2 n
    · exact readB_ref b (by omega) (by omega) n
  have h2 : Sum Tryd.prog (GE) 29 [.asl true (b.map (PV.int .u8)) b.length, .int .i64 n] (Is (.tup [.pv (.asl false ((rdL b n).flatMap Rec.c) (rdL b n).length), .pv (.int .i64 (rdA b n)), .pv (.int .i64 (rdE b n))]) []) := by
    by_cases c2 : b.length ≤ 1000000
    · exact rread_sum b hB c2 n
    · exact rreadB_ref b (by omega) (by omega) n
  have hLl : (rdL b n).length ≤ maxLen := by
    unfold maxLen
    by_cases h0 : rdE b n = 0
    · have hn : ¬ (n < 0 ∨ 16 < n) := fun h => by
        unfold rdE at h0
        rw [if_pos h] at h0
        cases h0
      unfold rdL
      rw [if_pos h0]
      cases hx : rdN b n.toNat with
      | none => simp
      | some x =>
        have := (rdN_ok hB (i := n.toNat) (L := x.1) (at' := x.2) hx).len
        simp only
        omega
    · have e : rdL b n = [] := if_neg h0
      rw [e]
      simp
  have h3 : Sum Tryd.prog (GE) 15 [.asl true ((rdL b n).flatMap Rec.c) (rdL b n).length, .asl true ((rdL b n).flatMap Rec.c) (rdL b n).length] (Is (.pv (.bool true)) []) := by
    have := sum_up (same_sum (rdL b n) (rdL b n) hLl hLl) ge_up
    rwa [decide_eq_true rfl] at this
  clear hLl
  generalize rdL b n = R at *
  generalize rdA b n = A at *
  generalize rdE b n = E at *
  by_cases c2 : 1500 < b.length
  · have c3 : ¬ (b.length : Int) ≤ 50000 := by omega
    clear c1
    (refine Sum.uniW (Sum.body hT Tryd.func6 rfl rfl Tryd.ntmps6 Tryd.results6 (by simp) ?_); simp only [go_sem, *])
    (repeat' first | with_reducible refine RK.out ?_ | with_reducible refine RC.out ?_ | with_reducible refine RA.out ?_ | refine AWp.seqN ?_ | refine AWp.region hT rfl ?_ | refine AWp.block ?_ | refine AWp.calm hT hM rfl (by decide +kernel) ?_ | ((first | (first | refine runOps_step rfl ?_ | refine runOps_nil ?_ | refine runOps_guardQ rfl rfl ?_ | refine runCalm_step rfl ?_ | refine runCalm_nil ?_ | refine runCalm_guardQ rfl rfl ?_ | refine AWp.cond ?_ | refine AWp.skip ?_ | refine AWp.ret ?_ | refine AWp.exit ?_ | refine BodyPost.retA ?_ | refine BodyPost.norA ?_ | with_reducible refine Keep.mk ?_) | simp (disch := omega) only [wrap_i64, wrap_i32, Int.toNat_natCast, Int.emod_eq_of_lt, Int.emod_emod, gd, gdS]) <;> (try simp only [go_sem, *])) | (apply ACall.genB; (case' eS => apply h1); (case eG => (simp only [go_sem, *]; first | with_reducible exact rfl | (repeat' first | with_reducible exact rfl | refine cons_eq ?_ ?_ | refine agg_eq ?_ | refine asl_eq ?_ ?_ | omega | (simp only [go_sem]; done) | (simp only [go_sem]; omega)))); all_goals (first | with_reducible refine Keep.mk ?_ | omega | assumption | decide | (simp; done) | (simp; omega))) | (apply ACall.genB; (case' eS => apply h2); (case eG => (simp only [go_sem, *]; first | with_reducible exact rfl | (repeat' first | with_reducible exact rfl | refine cons_eq ?_ ?_ | refine agg_eq ?_ | refine asl_eq ?_ ?_ | omega | (simp only [go_sem]; done) | (simp only [go_sem]; omega)))); all_goals (first | with_reducible refine Keep.mk ?_ | omega | assumption | decide | (simp; done) | (simp; omega))) | (apply ACall.genB; (case' eS => apply h3); (case eG => (simp only [go_sem, *]; first | with_reducible exact rfl | (repeat' first | with_reducible exact rfl | refine cons_eq ?_ ?_ | refine agg_eq ?_ | refine asl_eq ?_ ?_ | omega | (simp only [go_sem]; done) | (simp only [go_sem]; omega)))); all_goals (first | with_reducible refine Keep.mk ?_ | omega | assumption | decide | (simp; done) | (simp; omega))) | (apply ACall.genB; (case' eS => first | apply same_sum | apply read_sum | apply rread_sum); (case eG => (simp only [go_sem, *]; first | with_reducible exact rfl | (repeat' first | with_reducible exact rfl | refine cons_eq ?_ ?_ | refine agg_eq ?_ | refine asl_eq ?_ ?_ | omega | (simp only [go_sem]; done) | (simp only [go_sem]; omega)))); all_goals (first | with_reducible refine Keep.mk ?_ | omega | assumption | decide | (simp; done) | (simp; omega))) | ((first | ((with_reducible refine And.intro (fun hg => ?_) (fun hg => ?_)) <;> ((try simp only [go_sem] at hg); (try ((have hT0 : True := hg); clear hT0 hg)); (try have hgN := Nat.not_lt.2 hg); (try have hgN := Int.not_lt.2 hg); (try (revert hg; intro _)); (try (exfalso; omega)))) | ((with_reducible refine And.intro (fun H' hS => ?_) ?_) <;> (try simp only [go_sem] at hS))) <;> (try simp only [go_sem, *])) | ((with_reducible refine opt_if (by omega) ?_); exact rfl) | ((with_reducible refine opt_opt_if (by omega) ?_); exact rfl) | ((first | (with_reducible refine And.intro (fun H' => ?_) ?_) | (with_reducible first | (intro H' hS; (try simp only [go_sem] at hS)) | intro _) | (with_reducible refine And.intro (by omega) ?_)) <;> (try simp only [go_sem, *])) | fail)
  · clear c1
    (refine Sum.uniW (Sum.body hT Tryd.func6 rfl rfl Tryd.ntmps6 Tryd.results6 (by simp) ?_); simp only [go_sem, *])
    (repeat' first | with_reducible refine RK.out ?_ | with_reducible refine RC.out ?_ | with_reducible refine RA.out ?_ | refine AWp.seqN ?_ | refine AWp.region hT rfl ?_ | refine AWp.block ?_ | refine AWp.calm hT hM rfl (by decide +kernel) ?_ | ((first | (first | refine runOps_step rfl ?_ | refine runOps_nil ?_ | refine runOps_guardQ rfl rfl ?_ | refine runCalm_step rfl ?_ | refine runCalm_nil ?_ | refine runCalm_guardQ rfl rfl ?_ | refine AWp.cond ?_ | refine AWp.skip ?_ | refine AWp.ret ?_ | refine AWp.exit ?_ | refine BodyPost.retA ?_ | refine BodyPost.norA ?_ | with_reducible refine Keep.mk ?_) | simp (disch := omega) only [wrap_i64, wrap_i32, Int.toNat_natCast, Int.emod_eq_of_lt, Int.emod_emod, gd, gdS]) <;> (try simp only [go_sem, *])) | (apply ACall.genB; (case' eS => apply h1); (case eG => (simp only [go_sem, *]; first | with_reducible exact rfl | (repeat' first | with_reducible exact rfl | refine cons_eq ?_ ?_ | refine agg_eq ?_ | refine asl_eq ?_ ?_ | omega | (simp only [go_sem]; done) | (simp only [go_sem]; omega)))); all_goals (first | with_reducible refine Keep.mk ?_ | omega | assumption | decide | (simp; done) | (simp; omega))) | (apply ACall.genB; (case' eS => apply h2); (case eG => (simp only [go_sem, *]; first | with_reducible exact rfl | (repeat' first | with_reducible exact rfl | refine cons_eq ?_ ?_ | refine agg_eq ?_ | refine asl_eq ?_ ?_ | omega | (simp only [go_sem]; done) | (simp only [go_sem]; omega)))); all_goals (first | with_reducible refine Keep.mk ?_ | omega | assumption | decide | (simp; done) | (simp; omega))) | (apply ACall.genB; (case' eS => apply h3); (case eG => (simp only [go_sem, *]; first | with_reducible exact rfl | (repeat' first | with_reducible exact rfl | refine cons_eq ?_ ?_ | refine agg_eq ?_ | refine asl_eq ?_ ?_ | omega | (simp only [go_sem]; done) | (simp only [go_sem]; omega)))); all_goals (first | with_reducible refine Keep.mk ?_ | omega | assumption | decide | (simp; done) | (simp; omega))) | (apply ACall.genB; (case' eS => first | apply same_sum | apply read_sum | apply rread_sum); (case eG => (simp only [go_sem, *]; first | with_reducible exact rfl | (repeat' first | with_reducible exact rfl | refine cons_eq ?_ ?_ | refine agg_eq ?_ | refine asl_eq ?_ ?_ | omega | (simp only [go_sem]; done) | (simp only [go_sem]; omega)))); all_goals (first | with_reducible refine Keep.mk ?_ | omega | assumption | decide | (simp; done) | (simp; omega))) | ((first | ((with_reducible refine And.intro (fun hg => ?_) (fun hg => ?_)) <;> ((try simp only [go_sem] at hg); (try ((have hT0 : True := hg); clear hT0 hg)); (try have hgN := Nat.not_lt.2 hg); (try have hgN := Int.not_lt.2 hg); (try (revert hg; intro _)); (try (exfalso; omega)))) | ((with_reducible refine And.intro (fun H' hS => ?_) ?_) <;> (try simp only [go_sem] at hS))) <;> (try simp only [go_sem, *])) | ((with_reducible refine opt_if (by omega) ?_); exact rfl) | ((with_reducible refine opt_opt_if (by omega) ?_); exact rfl) | ((first | (with_reducible refine And.intro (fun H' => ?_) ?_) | (with_reducible first | (intro H' hS; (try simp only [go_sem] at hS)) | intro _) | (with_reducible refine And.intro (by omega) ?_)) <;> (try simp only [go_sem, *])) | fail)
end Go.Proofs.YtkbmkgcenehenaaDoor
