/- The digest, as the program makes it. -/
import Derived.Test.YtkbmkgcenehenaaDoorM7
set_option linter.unusedSimpArgs false
set_option linter.unusedVariables false
set_option maxHeartbeats 4000000
set_option maxRecDepth 100000
namespace Go.Proofs.YtkbmkgcenehenaaDoor
open Go Hm Go.ChangeShapes Go.WideShapes Go.ChangeAt Go.RowKit
attribute [local go_sem] Int.reduceEq Int.reduceNe Int.reduceLT Int.reduceLE Int.reduceNeg Int.reduceToNat Int.reduceAdd Int.reduceSub Int.reduceMul Int.reducePow Int.reduceDiv Int.reduceMod ite_eq_left_iff ite_eq_right_iff imp_false Nat.reduceLT Nat.reduceEqDiff Nat.reduceAdd Nat.reduceSub Nat.reduceMul Nat.reduceLeDiff Nat.reduceBEq reduceIte
attribute [local go_sem] Vw.cs
def digC (v : Vw) (k : Nat) : List PV := (digK v k ++ List.replicate (20 - k) 0).map (PV.int .u8)
theorem digC_len (v : Vw) (k : Nat) (h : k ≤ 20) : (digC v k).length = 20 := by simp [digC, digK_len]; omega
theorem digC_zero (v : Vw) : digC v 0 = List.replicate 20 (.int .u8 0) := by simp [digC, digK]
theorem digC_all (v : Vw) : digC v 20 = (digK v 20).map (PV.int .u8) := by simp [digC]
theorem digC_set (v : Vw) (k : Nat) (h : k < 20) (y : Int) (hy : y = (((v.l.getD (k / 4) 0).toNat / 2 ^ (24 - 8 * (k % 4)) % 256 : Nat) : Int)) : (digC v k).set k (.int .u8 y) = digC v (k + 1) := by
  subst hy
  unfold digC
  rw [show 20 - k = (20 - (k + 1)) + 1 by omega, List.replicate_succ, digK_succ]
  have e : (digK v k).length = k := digK_len v k
  rw [List.map_append, List.set_append_right _ _ (by simp [e])]
  simp [e]
theorem putA_whole (cs new : List PV) (h : new.length = cs.length) : putA cs 0 new = new := by rw [putA_eq (by omega)]; simp [h]
@[go_sem] theorem wks_u8 : ∀ l : List Int, PV.wks (l.map (PV.int .u8)) (l.map (PV.int .u8))
  | [] => trivial
  | _ :: r => ⟨rfl, wks_u8 r⟩
theorem byte_of (x : BitVec 32) (n : Nat) : (wi x).fdiv (2 ^ n) % 256 = ((x.toNat / 2 ^ n % 256 : Nat) : Int) := by
  unfold wi
  rw [fdivN]
  exact (Int.natCast_emod _ _).symm
theorem sha_sum (b : List Int) (hB : Byt b) (hl : b.length ≤ 20000) : Sum Tryd.prog G 27 [.asl true (b.map (PV.int .u8)) b.length] (Is (.tup [.pv (.agg ((shaL b).map (PV.int .u8))), .pv (.int .i64 0)]) []) := by
  have hz : zerosN b.length < 64 := by unfold zerosN; omega
  have hpl := padL_len b.length
  obtain ⟨A, hA⟩ : ∃ A, b ++ padL b.length = A := ⟨_, rfl⟩
  obtain ⟨m, hm⟩ : ∃ m, (b.length + 9 + zerosN b.length) / 64 = m := ⟨_, rfl⟩
  have hal : A.length = 64 * m := by rw [← hA, ← hm]; exact allL_len b
  have hle : b.length + (9 + zerosN b.length) = 64 * m := by
    have := padL_all b.length
    omega
  have hm6 : 64 * m ≤ 21000 := by omega
  have hsh : shaL b = digK (hsL A m) 20 := by rw [← hA, ← hm]; rfl
  have hBa : Byt A := by rw [← hA]; exact hB.app (padL_byt _)
  rw [hsh]
  clear hsh hm
  have ia : wi (hsL A 0).a = 1732584193 := rfl
  have ib : wi (hsL A 0).b = 4023233417 := rfl
  have ic : wi (hsL A 0).c = 2562383102 := rfl
  have id' : wi (hsL A 0).d = 271733878 := rfl
  have ie : wi (hsL A 0).e = 3285377520 := rfl
  (refine Sum.uniW (Sum.body hT Tryd.func27 rfl rfl Tryd.ntmps27 Tryd.results27 (by simp) ?_); simp only [go_sem, *])
  (repeat' first | with_reducible refine RK.out ?_ | with_reducible refine RC.out ?_ | with_reducible refine RA.out ?_ | refine AWp.seqN ?_ | refine AWp.region hT rfl ?_ | refine AWp.block ?_ | refine AWp.calm hT hM rfl (by decide +kernel) ?_ | ((first | (first | refine runOps_step rfl ?_ | refine runOps_nil ?_ | refine runOps_guardQ rfl rfl ?_ | refine runCalm_step rfl ?_ | refine runCalm_nil ?_ | refine runCalm_guardQ rfl rfl ?_ | refine AWp.cond ?_ | refine AWp.skip ?_ | refine AWp.ret ?_ | refine AWp.exit ?_ | refine BodyPost.retA ?_ | refine BodyPost.norA ?_ | with_reducible refine Keep.mk ?_) | simp (disch := omega) only [wrap_i64, wrap_i32, Int.toNat_natCast, Int.emod_eq_of_lt, Int.emod_emod, gd, gdS]) <;> (try simp only [go_sem, *])) | (apply ACall.genB; (case' eS => first | apply concat_sum | apply pad_sum | apply do_sum); (case eG => (simp only [go_sem, *]; first | with_reducible exact rfl | (repeat' first | with_reducible exact rfl | refine cons_eq ?_ ?_ | refine agg_eq ?_ | refine asl_eq ?_ ?_ | omega | (simp only [go_sem]; done) | (simp only [go_sem]; omega)))); all_goals (first | with_reducible refine Keep.mk ?_ | omega | assumption | decide | (simp; done) | (simp; omega))) | ((first | ((with_reducible refine And.intro (fun hg => ?_) (fun hg => ?_)) <;> ((try simp only [go_sem] at hg); (try ((have hT0 : True := hg); clear hT0 hg)); (try have hgN := Nat.not_lt.2 hg); (try have hgN := Int.not_lt.2 hg); (try (revert hg; intro _)); (try (exfalso; omega)))) | ((with_reducible refine And.intro (fun H' hS => ?_) ?_) <;> (try simp only [go_sem] at hS))) <;> (try simp only [go_sem, *])) | ((with_reducible refine opt_if (by omega) ?_); exact rfl) | ((with_reducible refine opt_opt_if (by omega) ?_); exact rfl) | ((first | (with_reducible refine And.intro (fun H' => ?_) ?_) | (with_reducible first | (intro H' hS; (try simp only [go_sem] at hS)) | intro _) | (with_reducible refine And.intro (by omega) ?_)) <;> (try simp only [go_sem, *])) | fail)
  (focus (refine AWp.loopA [2, 4, 5] (fun k : Nat => k ≤ m) (fun k => m - k) (fun k => [(5, .pv (.asl false ((A.drop (64 * k)).map (PV.int .u8)) (A.length - 64 * k)))]) (fun k => [(1, .p (Vw.cs (hsL A k)))]) (0) ?_; simp only [go_sem, *]; apply HeadA.mk; (case' hE => ((try simp only [go_sem, *]); (repeat' first | with_reducible rfl | omega | with_reducible refine St_eq ?_ ?_ | with_reducible refine fr_eq ?_ ?_ | with_reducible refine hb_eq ?_ ?_ | with_reducible refine pv_eq ?_ | with_reducible refine ref_eq ?_ ?_ ?_ ?_ | with_reducible refine nref_eq ?_ ?_ ?_ | with_reducible refine blkp_eq ?_ | with_reducible refine blkn_eq ?_ | with_reducible refine int_eq ?_ | with_reducible refine cons_eq ?_ ?_ | with_reducible refine agg_eq ?_ | with_reducible refine asl_eq ?_ ?_); all_goals (try rfl))); (case' hJ => (try (first | omega | (simp; done) | (simp; omega) | exact ⟨by omega, fun i h => by omega⟩ | exact fun i h => by omega | (refine ⟨?_, ?_⟩ <;> first | omega | (simp; done)) | (refine ⟨?_, ?_, ?_⟩ <;> first | omega | (simp; done)))))))
  intro k hk
  clear ia ib ic id' ie hA hB hpl hz hle
  by_cases hk' : k < m
  · have hD : (A.drop (64 * k)).length = 64 * m - 64 * k := by rw [List.length_drop, hal]
    have hBD : Byt (A.drop (64 * k)) := hBa.drop _
    have hn : (A.drop (64 * k)).drop 64 = A.drop (64 * (k + 1)) := by rw [List.drop_drop]; congr 1
    have hs : doB ⟨(hsL A k).a, (hsL A k).b, (hsL A k).c, (hsL A k).d, (hsL A k).e⟩ (A.drop (64 * k)) = hsL A (k + 1) := rfl
    have hp : 0 < 64 * m - 64 * k := by omega
    have hp2 : 64 ≤ 64 * m - 64 * k := by omega
    have ht : (A.drop (64 * (k + 1))).length ≤ 64 * m - 64 * k - 64 := by rw [List.length_drop, hal]; omega
    have hn2 : 64 * m - 64 * k - 64 = 64 * m - 64 * (k + 1) := by omega
    generalize A.drop (64 * k) = D at *
    (repeat' first | with_reducible refine RK.out ?_ | with_reducible refine RC.out ?_ | with_reducible refine RA.out ?_ | refine AWp.seqN ?_ | refine AWp.region hT rfl ?_ | refine AWp.block ?_ | refine AWp.calm hT hM rfl (by decide +kernel) ?_ | ((first | (first | refine runOps_step rfl ?_ | refine runOps_nil ?_ | refine runOps_guardQ rfl rfl ?_ | refine runCalm_step rfl ?_ | refine runCalm_nil ?_ | refine runCalm_guardQ rfl rfl ?_ | refine AWp.cond ?_ | refine AWp.skip ?_ | refine AWp.ret ?_ | refine AWp.exit ?_ | refine BodyPost.retA ?_ | refine BodyPost.norA ?_ | with_reducible refine Keep.mk ?_) | simp (disch := omega) only [wrap_i64, wrap_i32, Int.toNat_natCast, Int.emod_eq_of_lt, Int.emod_emod, gd, gdS]) <;> (try simp only [go_sem, *])) | (apply ACall.genB; (case' eS => first | apply concat_sum | apply pad_sum | apply do_sum); (case eG => (simp only [go_sem, *]; first | with_reducible exact rfl | (repeat' first | with_reducible exact rfl | refine cons_eq ?_ ?_ | refine agg_eq ?_ | refine asl_eq ?_ ?_ | omega | (simp only [go_sem]; done) | (simp only [go_sem]; omega)))); all_goals (first | with_reducible refine Keep.mk ?_ | omega | assumption | decide | (simp; done) | (simp; omega))) | ((first | ((with_reducible refine And.intro (fun hg => ?_) (fun hg => ?_)) <;> ((try simp only [go_sem] at hg); (try ((have hT0 : True := hg); clear hT0 hg)); (try have hgN := Nat.not_lt.2 hg); (try have hgN := Int.not_lt.2 hg); (try (revert hg; intro _)); (try (exfalso; omega)))) | ((with_reducible refine And.intro (fun H' hS => ?_) ?_) <;> (try simp only [go_sem] at hS))) <;> (try simp only [go_sem, *])) | ((with_reducible refine opt_if (by omega) ?_); exact rfl) | ((with_reducible refine opt_opt_if (by omega) ?_); exact rfl) | ((first | (with_reducible refine And.intro (fun H' => ?_) ?_) | (with_reducible first | (intro H' hS; (try simp only [go_sem] at hS)) | intro _) | (with_reducible refine And.intro (by omega) ?_)) <;> (try simp only [go_sem, *])) | fail)
    (focus (apply RoundA.mk (k + 1); (case' hE => (first | (simp only [go_sem, *]; (repeat' first | with_reducible rfl | omega | with_reducible refine St_eq ?_ ?_ | with_reducible refine fr_eq ?_ ?_ | with_reducible refine hb_eq ?_ ?_ | with_reducible refine pv_eq ?_ | with_reducible refine ref_eq ?_ ?_ ?_ ?_ | with_reducible refine nref_eq ?_ ?_ ?_ | with_reducible refine blkp_eq ?_ | with_reducible refine blkn_eq ?_ | with_reducible refine int_eq ?_ | with_reducible refine cons_eq ?_ ?_ | with_reducible refine agg_eq ?_ | with_reducible refine asl_eq ?_ ?_)) | skip)); (case' hM => (first | omega | (simp only; omega) | skip)); (case' hJ => (try (first | omega | (simp only; omega) | (simp; done) | (simp; omega) | (simp [*]; done) | (simp [*]; omega))))))
  · obtain rfl : k = m := by omega
    have e0 : 64 * k - 64 * k = 0 := by omega
    clear hBa hal
    generalize hsL A k = v
    have hz := digC_zero v
    (repeat' first | with_reducible refine RK.out ?_ | with_reducible refine RC.out ?_ | with_reducible refine RA.out ?_ | refine AWp.seqN ?_ | refine AWp.region hT rfl ?_ | refine AWp.block ?_ | refine AWp.calm hT hM rfl (by decide +kernel) ?_ | ((first | (first | refine runOps_step rfl ?_ | refine runOps_nil ?_ | refine runOps_guardQ rfl rfl ?_ | refine runCalm_step rfl ?_ | refine runCalm_nil ?_ | refine runCalm_guardQ rfl rfl ?_ | refine AWp.cond ?_ | refine AWp.skip ?_ | refine AWp.ret ?_ | refine AWp.exit ?_ | refine BodyPost.retA ?_ | refine BodyPost.norA ?_ | with_reducible refine Keep.mk ?_) | simp (disch := omega) only [wrap_i64, wrap_i32, Int.toNat_natCast, Int.emod_eq_of_lt, Int.emod_emod, gd, gdS]) <;> (try simp only [go_sem, *])) | (apply ACall.genB; (case' eS => first | apply concat_sum | apply pad_sum | apply do_sum); (case eG => (simp only [go_sem, *]; first | with_reducible exact rfl | (repeat' first | with_reducible exact rfl | refine cons_eq ?_ ?_ | refine agg_eq ?_ | refine asl_eq ?_ ?_ | omega | (simp only [go_sem]; done) | (simp only [go_sem]; omega)))); all_goals (first | with_reducible refine Keep.mk ?_ | omega | assumption | decide | (simp; done) | (simp; omega))) | ((first | ((with_reducible refine And.intro (fun hg => ?_) (fun hg => ?_)) <;> ((try simp only [go_sem] at hg); (try ((have hT0 : True := hg); clear hT0 hg)); (try have hgN := Nat.not_lt.2 hg); (try have hgN := Int.not_lt.2 hg); (try (revert hg; intro _)); (try (exfalso; omega)))) | ((with_reducible refine And.intro (fun H' hS => ?_) ?_) <;> (try simp only [go_sem] at hS))) <;> (try simp only [go_sem, *])) | ((with_reducible refine opt_if (by omega) ?_); exact rfl) | ((with_reducible refine opt_opt_if (by omega) ?_); exact rfl) | ((first | (with_reducible refine And.intro (fun H' => ?_) ?_) | (with_reducible first | (intro H' hS; (try simp only [go_sem] at hS)) | intro _) | (with_reducible refine And.intro (by omega) ?_)) <;> (try simp only [go_sem, *])) | fail)
    (focus (refine AWp.loopA [2, 27, 28] (fun i : Nat => i ≤ 5) (fun i => 5 - i) (fun i => [(28, .pv (.int .i64 i))]) (fun i => [(0, .p (digC v (4 * i)))]) (0) ?_; simp only [go_sem, *]; apply HeadA.mk; (case' hE => ((try simp only [go_sem, *]); (repeat' first | with_reducible rfl | omega | with_reducible refine St_eq ?_ ?_ | with_reducible refine fr_eq ?_ ?_ | with_reducible refine hb_eq ?_ ?_ | with_reducible refine pv_eq ?_ | with_reducible refine ref_eq ?_ ?_ ?_ ?_ | with_reducible refine nref_eq ?_ ?_ ?_ | with_reducible refine blkp_eq ?_ | with_reducible refine blkn_eq ?_ | with_reducible refine int_eq ?_ | with_reducible refine cons_eq ?_ ?_ | with_reducible refine agg_eq ?_ | with_reducible refine asl_eq ?_ ?_); all_goals (try rfl))); (case' hJ => (try (first | omega | (simp; done) | (simp; omega) | exact ⟨by omega, fun i h => by omega⟩ | exact fun i h => by omega | (refine ⟨?_, ?_⟩ <;> first | omega | (simp; done)) | (refine ⟨?_, ?_, ?_⟩ <;> first | omega | (simp; done)))))))
    intro i hi
    by_cases hi' : i < 5
    · have g1 : [PV.int .u32 (wi v.a), PV.int .u32 (wi v.b), PV.int .u32 (wi v.c), PV.int .u32 (wi v.d), PV.int .u32 (wi v.e)][i]? = some (.int .u32 (wi (v.l.getD i 0))) := wcs_get v.l i hi'
      have g2 := digC_set v (4 * i) (by omega) ((wi (v.l.getD i 0)).fdiv 16777216 % 256) (by rw [show (4 * i) / 4 = i by omega, show (4 * i) % 4 = 0 by omega]; exact byte_of _ 24)
      have g3 := digC_set v (4 * i + 1) (by omega) ((wi (v.l.getD i 0)).fdiv 65536 % 256) (by rw [show (4 * i + 1) / 4 = i by omega, show (4 * i + 1) % 4 = 1 by omega]; exact byte_of _ 16)
      have g4 := digC_set v (4 * i + 2) (by omega) ((wi (v.l.getD i 0)).fdiv 256 % 256) (by rw [show (4 * i + 2) / 4 = i by omega, show (4 * i + 2) % 4 = 2 by omega]; exact byte_of _ 8)
      have g5 := digC_set v (4 * i + 3) (by omega) (wi (v.l.getD i 0) % 256) (by
        rw [show (4 * i + 3) / 4 = i by omega, show (4 * i + 3) % 4 = 3 by omega]
        have := byte_of (v.l.getD i 0) 0
        rwa [show (2 : Int) ^ 0 = 1 from rfl, Int.fdiv_one] at this)
      have l0 := digC_len v (4 * i) (by omega)
      have l1 := digC_len v (4 * i + 1) (by omega)
      have l2 := digC_len v (4 * i + 2) (by omega)
      have l3 := digC_len v (4 * i + 3) (by omega)
      have m1 : min 24 32 = 24 := rfl
      have m2 : min 16 32 = 16 := rfl
      have m3 : min 8 32 = 8 := rfl
      have t0 : (4 * (i : Int)).toNat = 4 * i := by omega
      have t1 : (4 * (i : Int) + 1).toNat = 4 * i + 1 := by omega
      have t2 : (4 * (i : Int) + 2).toNat = 4 * i + 2 := by omega
      have t3 : (4 * (i : Int) + 3).toNat = 4 * i + 3 := by omega
      have t4 : 4 * i + 3 + 1 = 4 * (i + 1) := by omega
      (repeat' first | with_reducible refine RK.out ?_ | with_reducible refine RC.out ?_ | with_reducible refine RA.out ?_ | refine AWp.seqN ?_ | refine AWp.region hT rfl ?_ | refine AWp.block ?_ | refine AWp.calm hT hM rfl (by decide +kernel) ?_ | ((first | (first | refine runOps_step rfl ?_ | refine runOps_nil ?_ | refine runOps_guardQ rfl rfl ?_ | refine runCalm_step rfl ?_ | refine runCalm_nil ?_ | refine runCalm_guardQ rfl rfl ?_ | refine AWp.cond ?_ | refine AWp.skip ?_ | refine AWp.ret ?_ | refine AWp.exit ?_ | refine BodyPost.retA ?_ | refine BodyPost.norA ?_ | with_reducible refine Keep.mk ?_) | simp (disch := omega) only [wrap_i64, wrap_i32, Int.toNat_natCast, Int.emod_eq_of_lt, Int.emod_emod, gd, gdS]) <;> (try simp only [go_sem, *])) | (apply ACall.genB; (case' eS => first | apply concat_sum | apply pad_sum | apply do_sum); (case eG => (simp only [go_sem, *]; first | with_reducible exact rfl | (repeat' first | with_reducible exact rfl | refine cons_eq ?_ ?_ | refine agg_eq ?_ | refine asl_eq ?_ ?_ | omega | (simp only [go_sem]; done) | (simp only [go_sem]; omega)))); all_goals (first | with_reducible refine Keep.mk ?_ | omega | assumption | decide | (simp; done) | (simp; omega))) | ((first | ((with_reducible refine And.intro (fun hg => ?_) (fun hg => ?_)) <;> ((try simp only [go_sem] at hg); (try ((have hT0 : True := hg); clear hT0 hg)); (try have hgN := Nat.not_lt.2 hg); (try have hgN := Int.not_lt.2 hg); (try (revert hg; intro _)); (try (exfalso; omega)))) | ((with_reducible refine And.intro (fun H' hS => ?_) ?_) <;> (try simp only [go_sem] at hS))) <;> (try simp only [go_sem, *])) | ((with_reducible refine opt_if (by omega) ?_); exact rfl) | ((with_reducible refine opt_opt_if (by omega) ?_); exact rfl) | ((first | (with_reducible refine And.intro (fun H' => ?_) ?_) | (with_reducible first | (intro H' hS; (try simp only [go_sem] at hS)) | intro _) | (with_reducible refine And.intro (by omega) ?_)) <;> (try simp only [go_sem, *])) | fail)
      (focus (apply RoundA.mk (i + 1); (case' hE => (first | (simp only [go_sem, *]; (repeat' first | with_reducible rfl | omega | with_reducible refine St_eq ?_ ?_ | with_reducible refine fr_eq ?_ ?_ | with_reducible refine hb_eq ?_ ?_ | with_reducible refine pv_eq ?_ | with_reducible refine ref_eq ?_ ?_ ?_ ?_ | with_reducible refine nref_eq ?_ ?_ ?_ | with_reducible refine blkp_eq ?_ | with_reducible refine blkn_eq ?_ | with_reducible refine int_eq ?_ | with_reducible refine cons_eq ?_ ?_ | with_reducible refine agg_eq ?_ | with_reducible refine asl_eq ?_ ?_)) | skip)); (case' hM => (first | omega | (simp only; omega) | skip)); (case' hJ => (try (first | omega | (simp only; omega) | (simp; done) | (simp; omega) | (simp [*]; done) | (simp [*]; omega))))))
    · obtain rfl : i = 5 := by omega
      have ha := digC_all v
      have hd := digK_len v 20
      have hq := putA_whole ((digK v 20).map (PV.int .u8)) _ rfl
      have ht := List.take_of_length_le (i := 20) (l := digK v 20) (by omega)
      (repeat' first | with_reducible refine RK.out ?_ | with_reducible refine RC.out ?_ | with_reducible refine RA.out ?_ | refine AWp.seqN ?_ | refine AWp.region hT rfl ?_ | refine AWp.block ?_ | refine AWp.calm hT hM rfl (by decide +kernel) ?_ | ((first | (first | refine runOps_step rfl ?_ | refine runOps_nil ?_ | refine runOps_guardQ rfl rfl ?_ | refine runCalm_step rfl ?_ | refine runCalm_nil ?_ | refine runCalm_guardQ rfl rfl ?_ | refine AWp.cond ?_ | refine AWp.skip ?_ | refine AWp.ret ?_ | refine AWp.exit ?_ | refine BodyPost.retA ?_ | refine BodyPost.norA ?_ | with_reducible refine Keep.mk ?_) | simp (disch := omega) only [wrap_i64, wrap_i32, Int.toNat_natCast, Int.emod_eq_of_lt, Int.emod_emod, gd, gdS]) <;> (try simp only [go_sem, *])) | (apply ACall.genB; (case' eS => first | apply concat_sum | apply pad_sum | apply do_sum); (case eG => (simp only [go_sem, *]; first | with_reducible exact rfl | (repeat' first | with_reducible exact rfl | refine cons_eq ?_ ?_ | refine agg_eq ?_ | refine asl_eq ?_ ?_ | omega | (simp only [go_sem]; done) | (simp only [go_sem]; omega)))); all_goals (first | with_reducible refine Keep.mk ?_ | omega | assumption | decide | (simp; done) | (simp; omega))) | ((first | ((with_reducible refine And.intro (fun hg => ?_) (fun hg => ?_)) <;> ((try simp only [go_sem] at hg); (try ((have hT0 : True := hg); clear hT0 hg)); (try have hgN := Nat.not_lt.2 hg); (try have hgN := Int.not_lt.2 hg); (try (revert hg; intro _)); (try (exfalso; omega)))) | ((with_reducible refine And.intro (fun H' hS => ?_) ?_) <;> (try simp only [go_sem] at hS))) <;> (try simp only [go_sem, *])) | ((with_reducible refine opt_if (by omega) ?_); exact rfl) | ((with_reducible refine opt_opt_if (by omega) ?_); exact rfl) | ((first | (with_reducible refine And.intro (fun H' => ?_) ?_) | (with_reducible first | (intro H' hS; (try simp only [go_sem] at hS)) | intro _) | (with_reducible refine And.intro (by omega) ?_)) <;> (try simp only [go_sem, *])) | fail)
end Go.Proofs.YtkbmkgcenehenaaDoor
