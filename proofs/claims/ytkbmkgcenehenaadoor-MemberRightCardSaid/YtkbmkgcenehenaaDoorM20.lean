/- The law MemberRight. -/
import Derived.Test.YtkbmkgcenehenaaDoorM17
import Derived.Test.YtkbmkgcenehenaaDoorM19
set_option linter.unusedSimpArgs false
set_option linter.unusedVariables false
set_option maxHeartbeats 4000000
set_option maxRecDepth 100000
namespace Go.Proofs.YtkbmkgcenehenaaDoor
open Go Hm Go.ChangeShapes Go.WideShapes Go.ChangeAt Go.RowKit
attribute [local go_sem] Int.reduceEq Int.reduceNe Int.reduceLT Int.reduceLE Int.reduceNeg Int.reduceToNat Int.reduceAdd Int.reduceSub Int.reduceMul Int.reducePow Int.reduceDiv Int.reduceMod ite_eq_left_iff ite_eq_right_iff imp_false Nat.reduceLT Nat.reduceEqDiff Nat.reduceAdd Nat.reduceSub Nat.reduceMul Nat.reduceLeDiff Nat.reduceBEq reduceIte
def xS : ByteArray := ⟨#[120]⟩
theorem sumD_ge {l : List Mem} {i : Nat} (h : i < l.length) : ((l.getD i default).data.length : Int) ≤ sumD l := by
  induction l generalizing i with
  | nil => simp at h
  | cons a t ih =>
    have hn : ∀ t : List Mem, 0 ≤ sumD t := fun t => by
      unfold sumD
      induction t with
      | nil => simp
      | cons a t ih => simp; omega
    have e : sumD (a :: t) = a.data.length + sumD t := by simp [sumD]
    cases i with
    | zero => have := hn t; simp only [List.getD_cons_zero]; omega
    | succ i =>
      have := ih (i := i) (by simpa using h)
      simp only [List.getD_cons_succ]; omega
theorem chkM_ok {l : List Mem} (h : chkM l = 0) : l.length ≤ 16 ∧ sumD l ≤ 8192 ∧ (∀ i, i < l.length → NmP (l.getD i default).name) ∧ (names l).Nodup := by
  unfold chkM at h
  split at h
  · cases h
  · split at h
    · cases h
    · split at h
      · cases h
      · rename_i h1 h2 h3
        refine ⟨by omega, by omega, fun i hi => Classical.byContradiction fun h' => h2 ⟨i, hi, h'⟩, by simpa using h3⟩
theorem rec_getD (l : List Mem) (i : Nat) (h : i < l.length) : (l.map recM).getD i default = recM (l.getD i default) := by
  rw [getD_get _ _ (by simpa using h), getD_get _ _ h, List.getElem_map]
theorem good_rec {m : Mem} (h1 : NmP m.name) (h2 : m.data.length ≤ 8192) : ¬ badR (recM m) := by
  unfold badR
  rintro (h | h | h | ⟨h, h'⟩)
  · exact h h1
  · have : (0 : Int) ≤ m.data.length := Int.natCast_nonneg _
    exact absurd h (Int.not_lt.2 this)
  · have : ((m.data.length : Int)) ≤ 8192 := by omega
    exact absurd h (Int.not_lt.2 this)
  · apply h'
    have h0 : (m.data.length : Int) = 0 := h
    have : m.data = [] := List.eq_nil_of_length_eq_zero (by omega)
    show shaL m.data = shaL []
    rw [this]
theorem vld_rec {l : List Mem} (h : chkM l = 0) : vldR (l.map recM) = 0 := by
  obtain ⟨h1, h2, h3, h4⟩ := chkM_ok h
  have e1 : sumR (l.map recM) = sumD l := by simp only [sumR, sumD, List.map_map]; rfl
  have e2 : namesR (l.map recM) = names l := by simp only [namesR, names, List.map_map]; rfl
  unfold vldR
  rw [List.length_map, if_neg (by omega), if_neg, if_neg (by omega), if_neg (by rw [e2]; exact fun h => h h4)]
  rintro ⟨i, hi, hb⟩
  rw [List.length_map] at hi
  rw [rec_getD l i hi] at hb
  have := sumD_ge hi
  exact good_rec (h3 i hi) (by omega) hb
theorem vld_rec1 {m : Mem} (h1 : NmP m.name) (h2 : m.data.length ≤ 8192) : vldR [recM m] = 0 := by
  have h0 : chkM [m] = 0 := by
    unfold chkM
    rw [if_neg (by simp [sumD]; omega), if_neg (fun ⟨i, h, h'⟩ => h' (by rw [getD1 _ _ h]; exact h1)), if_neg (fun h => h (by simp [names]))]
  exact vld_rec h0
theorem rec_sum_at (l : List Rec) (k : Nat) (h : k < l.length) : ((l.flatMap Rec.c).drop (k * 22 + 2)).take 20 = (l.getD k default).sum.1.map (PV.int .u8) := by
  rw [flat_sub Rec.c_len l default k 2 20 h (by decide)]
  generalize l.getD k default = r
  have hr := r.sum.2
  show (r.sum.1.map (PV.int .u8)).take 20 = _
  exact List.take_of_length_le (by rw [List.length_map]; omega)
theorem right_law (l : List Mem) (hll : l.length ≤ maxLen) (ka : ∀ x ∈ l, x.ok) : Sum Tryd.prog G 5 [.asl true (l.flatMap Mem.c) l.length] (Is (.pv (.bool true)) []) := by
  have ha := alive_sum
  by_cases h2 : GreatP l
  · (refine Sum.uniW (Sum.body hT Tryd.func5 rfl rfl Tryd.ntmps5 Tryd.results5 (by simp) ?_); simp only [go_sem, *])
    (repeat' first | with_reducible refine RK.out ?_ | with_reducible refine RC.out ?_ | with_reducible refine RA.out ?_ | refine AWp.seqN ?_ | refine AWp.region hT rfl ?_ | refine AWp.block ?_ | refine AWp.calm hT hM rfl (by decide +kernel) ?_ | ((first | (first | refine AWp.drawnA (id := 11) (.line [0, 1, 2, 3, 4, 5, 6, 7, 8, 9, 10, 11, 12, 13] .done) [] [] hT hM rfl (by decide +kernel) ?_ ?_ | refine AWp.drawnA (id := 15) (.line [0, 1, 2, 3, 4, 5, 6, 7, 8, 9, 10, 11, 12, 13, 14, 15, 16, 17, 18, 19, 20, 21] .done) [] [] hT hM rfl (by decide +kernel) ?_ ?_ | refine runOps_step rfl ?_ | refine runOps_nil ?_ | refine runOps_guardQ rfl rfl ?_ | refine runCalm_step rfl ?_ | refine runCalm_nil ?_ | refine runCalm_guardQ rfl rfl ?_ | refine runAuto_nil ?_ | refine runAuto_calm rfl rfl ?_ | refine runAuto_eff rfl rfl ?_ | refine runAuto_calmGQ rfl rfl rfl ?_ | refine runAuto_effGQ rfl rfl rfl ?_ | refine RT.line ?_ | refine RT.alts ?_ ?_ | refine RT.done ?_ | apply RT.none | refine AWp.cond ?_ | refine AWp.skip ?_ | refine AWp.ret ?_ | refine AWp.exit ?_ | refine BodyPost.retA ?_ | refine BodyPost.norA ?_ | with_reducible refine Keep.mk ?_) | simp (disch := omega) only [wrap_i64, wrap_i32, Int.toNat_natCast, Int.emod_eq_of_lt, Int.emod_emod, gd, gdS]) <;> (try simp only [go_sem, *])) | (apply ACall.genB; (case' eS => apply ha); (case eG => (simp only [go_sem, *]; first | with_reducible exact rfl | (repeat' first | with_reducible exact rfl | refine cons_eq ?_ ?_ | refine agg_eq ?_ | refine asl_eq ?_ ?_ | omega | (simp only [go_sem]; done) | (simp only [go_sem]; omega)))); all_goals (first | with_reducible refine Keep.mk ?_ | omega | assumption | decide | (simp; done) | (simp; omega))) | (apply ACall.genB; (case' eS => first | apply great_sum | apply ofm_sum | apply rcheck_sum | apply find_sum | apply valid_sum | apply rvalid_sum | apply right_sum | apply alive_sum | apply sha_sum); (case eG => (simp only [go_sem, *]; first | with_reducible exact rfl | (repeat' first | with_reducible exact rfl | refine cons_eq ?_ ?_ | refine agg_eq ?_ | refine asl_eq ?_ ?_ | omega | (simp only [go_sem]; done) | (simp only [go_sem]; omega)))); all_goals (first | with_reducible refine Keep.mk ?_ | omega | assumption | decide | (simp; done) | (simp; omega))) | ((first | ((with_reducible refine And.intro (fun hg => ?_) (fun hg => ?_)) <;> ((try simp only [go_sem] at hg); (try ((have hT0 : True := hg); clear hT0 hg)); (try have hgN := Nat.not_lt.2 hg); (try have hgN := Int.not_lt.2 hg); (try (revert hg; intro _)); (try (exfalso; omega)))) | ((with_reducible refine And.intro (fun H' hS => ?_) ?_) <;> (try simp only [go_sem] at hS))) <;> (try simp only [go_sem, *])) | ((with_reducible refine opt_if (by omega) ?_); exact rfl) | ((with_reducible refine opt_opt_if (by omega) ?_); exact rfl) | ((first | (with_reducible refine And.intro (fun H' => ?_) ?_) | (with_reducible first | (intro H' hS; (try simp only [go_sem] at hS)) | intro _) | (with_reducible refine And.intro (by omega) ?_)) <;> (try simp only [go_sem, *])) | fail)
  have hs := small_of h2
  have hl := hs.len
  by_cases h0 : chkM l = 0
  · obtain ⟨h16, hsum, hnm, hnd⟩ := chkM_ok h0
    have hv := vld_rec h0
    have eR : ofL l = l.map recM := if_pos h0
    obtain ⟨R, hR⟩ : ∃ R, l.map recM = R := ⟨_, rfl⟩
    have hRl : R.length = l.length := by rw [← hR, List.length_map]
    have hsR : SmallR R := ⟨by omega, fun i hi => by
      rw [← hR, rec_getD l i (by omega)]
      exact (hs.sz i (by omega)).2⟩
    have hfd := find_sum R hsR
    rw [hR] at hv eR
    have hg := fun i (h : i < l.length) => rec_getD l i h
    rw [hR] at hg
    (refine Sum.uniW (Sum.body hT Tryd.func5 rfl rfl Tryd.ntmps5 Tryd.results5 (by simp) ?_); simp only [go_sem, *])
    (repeat' first | with_reducible refine RK.out ?_ | with_reducible refine RC.out ?_ | with_reducible refine RA.out ?_ | refine AWp.seqN ?_ | refine AWp.region hT rfl ?_ | refine AWp.block ?_ | refine AWp.calm hT hM rfl (by decide +kernel) ?_ | ((first | (first | refine AWp.drawnA (id := 11) (.line [0, 1, 2, 3, 4, 5, 6, 7, 8, 9, 10, 11, 12, 13] .done) [] [] hT hM rfl (by decide +kernel) ?_ ?_ | refine AWp.drawnA (id := 15) (.line [0, 1, 2, 3, 4, 5, 6, 7, 8, 9, 10, 11, 12, 13, 14, 15, 16, 17, 18, 19, 20, 21] .done) [] [] hT hM rfl (by decide +kernel) ?_ ?_ | refine runOps_step rfl ?_ | refine runOps_nil ?_ | refine runOps_guardQ rfl rfl ?_ | refine runCalm_step rfl ?_ | refine runCalm_nil ?_ | refine runCalm_guardQ rfl rfl ?_ | refine runAuto_nil ?_ | refine runAuto_calm rfl rfl ?_ | refine runAuto_eff rfl rfl ?_ | refine runAuto_calmGQ rfl rfl rfl ?_ | refine runAuto_effGQ rfl rfl rfl ?_ | refine RT.line ?_ | refine RT.alts ?_ ?_ | refine RT.done ?_ | apply RT.none | refine AWp.cond ?_ | refine AWp.skip ?_ | refine AWp.ret ?_ | refine AWp.exit ?_ | refine BodyPost.retA ?_ | refine BodyPost.norA ?_ | with_reducible refine Keep.mk ?_) | simp (disch := omega) only [wrap_i64, wrap_i32, Int.toNat_natCast, Int.emod_eq_of_lt, Int.emod_emod, gd, gdS]) <;> (try simp only [go_sem, *])) | (apply ACall.genB; (case' eS => apply ha); (case eG => (simp only [go_sem, *]; first | with_reducible exact rfl | (repeat' first | with_reducible exact rfl | refine cons_eq ?_ ?_ | refine agg_eq ?_ | refine asl_eq ?_ ?_ | omega | (simp only [go_sem]; done) | (simp only [go_sem]; omega)))); all_goals (first | with_reducible refine Keep.mk ?_ | omega | assumption | decide | (simp; done) | (simp; omega))) | (apply ACall.genB; (case' eS => first | apply great_sum | apply ofm_sum | apply rcheck_sum | apply find_sum | apply valid_sum | apply rvalid_sum | apply right_sum | apply alive_sum | apply sha_sum); (case eG => (simp only [go_sem, *]; first | with_reducible exact rfl | (repeat' first | with_reducible exact rfl | refine cons_eq ?_ ?_ | refine agg_eq ?_ | refine asl_eq ?_ ?_ | omega | (simp only [go_sem]; done) | (simp only [go_sem]; omega)))); all_goals (first | with_reducible refine Keep.mk ?_ | omega | assumption | decide | (simp; done) | (simp; omega))) | ((first | ((with_reducible refine And.intro (fun hg => ?_) (fun hg => ?_)) <;> ((try simp only [go_sem] at hg); (try ((have hT0 : True := hg); clear hT0 hg)); (try have hgN := Nat.not_lt.2 hg); (try have hgN := Int.not_lt.2 hg); (try (revert hg; intro _)); (try (exfalso; omega)))) | ((with_reducible refine And.intro (fun H' hS => ?_) ?_) <;> (try simp only [go_sem] at hS))) <;> (try simp only [go_sem, *])) | ((with_reducible refine opt_if (by omega) ?_); exact rfl) | ((with_reducible refine opt_opt_if (by omega) ?_); exact rfl) | ((first | (with_reducible refine And.intro (fun H' => ?_) ?_) | (with_reducible first | (intro H' hS; (try simp only [go_sem] at hS)) | intro _) | (with_reducible refine And.intro (by omega) ?_)) <;> (try simp only [go_sem, *])) | fail)
    (focus (refine AWp.loopA [0, 3, 4, 6] (fun k : Nat => k ≤ l.length) (fun k => l.length - k) (fun k => [(6, .pv (.int .i64 k))]) (fun _ => []) (0) ?_; simp only [go_sem, *]; apply HeadA.mk; (case' hE => ((try simp only [go_sem, *]); (repeat' first | with_reducible rfl | omega | with_reducible refine St_eq ?_ ?_ | with_reducible refine fr_eq ?_ ?_ | with_reducible refine hb_eq ?_ ?_ | with_reducible refine pv_eq ?_ | with_reducible refine ref_eq ?_ ?_ ?_ ?_ | with_reducible refine nref_eq ?_ ?_ ?_ | with_reducible refine blkp_eq ?_ | with_reducible refine blkn_eq ?_ | with_reducible refine int_eq ?_ | with_reducible refine cons_eq ?_ ?_ | with_reducible refine agg_eq ?_ | with_reducible refine asl_eq ?_ ?_); all_goals (try rfl))); (case' hJ => (try (first | omega | (simp; done) | (simp; omega) | exact ⟨by omega, fun i h => by omega⟩ | exact fun i h => by omega | (refine ⟨?_, ?_⟩ <;> first | omega | (simp; done)) | (refine ⟨?_, ?_, ?_⟩ <;> first | omega | (simp; done)))))))
    intro k hk
    by_cases hk' : k < l.length
    · have hm := hs.sz k hk'
      have hB := (okD default ka hk').2.2
      have hd8 : (l.getD k default).data.length ≤ 8192 := by have := sumD_ge hk'; omega
      have hv1 := vld_rec1 (hnm k hk') hd8
      have hgk := hg k hk'
      have hc1 := right_sum (recM (l.getD k default)) hm.2 (l.getD k default) hB (by omega)
      have hc2 := right_sum (recM (l.getD k default)) hm.2 ⟨(l.getD k default).name ++ xS, (l.getD k default).data⟩ hB (by show (l.getD k default).data.length ≤ 20000; omega)
      have r1 : rgtB (recM (l.getD k default)) (l.getD k default) = true := by unfold rgtB; rw [if_pos hv1]; simp
      have r2 : rgtB (recM (l.getD k default)) ⟨(l.getD k default).name ++ xS, (l.getD k default).data⟩ = false := by
        unfold rgtB
        rw [if_pos hv1]
        refine decide_eq_false fun h => ?_
        have h3 : (l.getD k default).name ++ xS = (l.getD k default).name := congrArg Rec.name h
        have h4 := congrArg ByteArray.size h3
        rw [ByteArray.size_append] at h4
        have : xS.size = 1 := rfl
        omega
      have ec : (recM (l.getD k default)).c = .str (l.getD k default).name :: .int .i64 (l.getD k default).data.length :: (shaL (l.getD k default).data).map (PV.int .u8) := rfl
      rw [r1, hv1, ec] at hc1
      rw [r2, hv1, ec] at hc2
      have f1 : (R.getD k default).name = (l.getD k default).name := by rw [hgk]; rfl
      have f2 : (R.getD k default).size = (l.getD k default).data.length := by rw [hgk]; rfl
      have f3 : (R.getD k default).sum.1 = shaL (l.getD k default).data := by rw [hgk]; rfl
      have f4 := fI_hit (s := (l.getD k default).name) (l := R) (k := k) (by omega) (fun i hi => by
        rw [hg i (by omega)]
        show (l.getD i default).name ≠ (l.getD k default).name
        exact (names_nodup l).1 hnd k hk' i hi) f1
      have hat := rec_sum_at R k (by omega)
      rw [f3] at hat
      have hfk := hfd (l.getD k default).name
      have fa : fndA R (l.getD k default).name = k := by unfold fndA; rw [if_pos hv, f4]
      have fe : fndE R (l.getD k default).name = 0 := by unfold fndE; rw [if_pos hv, f4]
      rw [fa, fe] at hfk
      have hq := shaL_len (l.getD k default).data
      have he := eqL_sum (shaL (l.getD k default).data) (shaL (l.getD k default).data) hq hq
      have hx : ((l.getD k default).name ++ xS).size = (l.getD k default).name.size + 1 := ByteArray.size_append
      have hsh := sha_sum (l.getD k default).data hB (by omega)
      have hq2 : (shaL (l.getD k default).data).take 20 = shaL (l.getD k default).data := List.take_of_length_le (by omega)
      have hp := putA_whole z20 ((shaL (l.getD k default).data).map (PV.int .u8)) (by rw [List.length_map, hq]; rfl)
      unfold z20 at hp
      unfold xS at hc2 hx
      dsimp only at hc2
      have hb1 : (⟨#[120]⟩ : ByteArray).size = 1 := rfl
      have hb2 : ¬ (IntKind.i64.max < (((l.getD k default).name.size + 1 : Nat) : Int)) := by
        have : IntKind.i64.max = 9223372036854775807 := rfl
        omega
      clear hg hgk hnm hnd hv1 r1 r2 ec f4 fa fe hfd hsR hB
      (repeat' first | with_reducible refine RK.out ?_ | with_reducible refine RC.out ?_ | with_reducible refine RA.out ?_ | refine AWp.seqN ?_ | refine AWp.region hT rfl ?_ | refine AWp.block ?_ | refine AWp.calm hT hM rfl (by decide +kernel) ?_ | ((first | (first | refine AWp.drawnA (id := 11) (.line [0, 1, 2, 3, 4, 5, 6, 7, 8, 9, 10, 11, 12, 13] .done) [] [] hT hM rfl (by decide +kernel) ?_ ?_ | refine AWp.drawnA (id := 15) (.line [0, 1, 2, 3, 4, 5, 6, 7, 8, 9, 10, 11, 12, 13, 14, 15, 16, 17, 18, 19, 20, 21] .done) [] [] hT hM rfl (by decide +kernel) ?_ ?_ | refine runOps_step rfl ?_ | refine runOps_nil ?_ | refine runOps_guardQ rfl rfl ?_ | refine runCalm_step rfl ?_ | refine runCalm_nil ?_ | refine runCalm_guardQ rfl rfl ?_ | refine runAuto_nil ?_ | refine runAuto_calm rfl rfl ?_ | refine runAuto_eff rfl rfl ?_ | refine runAuto_calmGQ rfl rfl rfl ?_ | refine runAuto_effGQ rfl rfl rfl ?_ | refine RT.line ?_ | refine RT.alts ?_ ?_ | refine RT.done ?_ | apply RT.none | refine AWp.cond ?_ | refine AWp.skip ?_ | refine AWp.ret ?_ | refine AWp.exit ?_ | refine BodyPost.retA ?_ | refine BodyPost.norA ?_ | with_reducible refine Keep.mk ?_) | simp (disch := omega) only [wrap_i64, wrap_i32, Int.toNat_natCast, Int.emod_eq_of_lt, Int.emod_emod, gd, gdS]) <;> (try simp only [go_sem, *])) | (apply ACall.genB; (case' eS => apply hsh); (case eG => (simp only [go_sem, *]; first | with_reducible exact rfl | (repeat' first | with_reducible exact rfl | refine cons_eq ?_ ?_ | refine agg_eq ?_ | refine asl_eq ?_ ?_ | omega | (simp only [go_sem]; done) | (simp only [go_sem]; omega)))); all_goals (first | with_reducible refine Keep.mk ?_ | omega | assumption | decide | (simp; done) | (simp; omega))) | (apply ACall.genB; (case' eS => apply hc1); (case eG => (simp only [go_sem, *]; first | with_reducible exact rfl | (repeat' first | with_reducible exact rfl | refine cons_eq ?_ ?_ | refine agg_eq ?_ | refine asl_eq ?_ ?_ | omega | (simp only [go_sem]; done) | (simp only [go_sem]; omega)))); all_goals (first | with_reducible refine Keep.mk ?_ | omega | assumption | decide | (simp; done) | (simp; omega))) | (apply ACall.genB; (case' eS => apply hc2); (case eG => (simp only [go_sem, *]; first | with_reducible exact rfl | (repeat' first | with_reducible exact rfl | refine cons_eq ?_ ?_ | refine agg_eq ?_ | refine asl_eq ?_ ?_ | omega | (simp only [go_sem]; done) | (simp only [go_sem]; omega)))); all_goals (first | with_reducible refine Keep.mk ?_ | omega | assumption | decide | (simp; done) | (simp; omega))) | (apply ACall.genB; (case' eS => apply hfk); (case eG => (simp only [go_sem, *]; first | with_reducible exact rfl | (repeat' first | with_reducible exact rfl | refine cons_eq ?_ ?_ | refine agg_eq ?_ | refine asl_eq ?_ ?_ | omega | (simp only [go_sem]; done) | (simp only [go_sem]; omega)))); all_goals (first | with_reducible refine Keep.mk ?_ | omega | assumption | decide | (simp; done) | (simp; omega))) | (apply ACall.genB; (case' eS => first | apply great_sum | apply ofm_sum | apply rcheck_sum | apply find_sum | apply valid_sum | apply rvalid_sum | apply right_sum | apply alive_sum | apply sha_sum); (case eG => (simp only [go_sem, *]; first | with_reducible exact rfl | (repeat' first | with_reducible exact rfl | refine cons_eq ?_ ?_ | refine agg_eq ?_ | refine asl_eq ?_ ?_ | omega | (simp only [go_sem]; done) | (simp only [go_sem]; omega)))); all_goals (first | with_reducible refine Keep.mk ?_ | omega | assumption | decide | (simp; done) | (simp; omega))) | ((first | ((with_reducible refine And.intro (fun hg => ?_) (fun hg => ?_)) <;> ((try simp only [go_sem] at hg); (try ((have hT0 : True := hg); clear hT0 hg)); (try have hgN := Nat.not_lt.2 hg); (try have hgN := Int.not_lt.2 hg); (try (revert hg; intro _)); (try (exfalso; omega)))) | ((with_reducible refine And.intro (fun H' hS => ?_) ?_) <;> (try simp only [go_sem] at hS))) <;> (try simp only [go_sem, *])) | ((with_reducible refine opt_if (by omega) ?_); exact rfl) | ((with_reducible refine opt_opt_if (by omega) ?_); exact rfl) | ((first | (with_reducible refine And.intro (fun H' => ?_) ?_) | (with_reducible first | (intro H' hS; (try simp only [go_sem] at hS)) | intro _) | (with_reducible refine And.intro (by omega) ?_)) <;> (try simp only [go_sem, *])) | fail)
      (focus (apply RoundA.mk (k + 1); (case' hE => (first | (simp only [go_sem, *]; (repeat' first | with_reducible rfl | omega | with_reducible refine St_eq ?_ ?_ | with_reducible refine fr_eq ?_ ?_ | with_reducible refine hb_eq ?_ ?_ | with_reducible refine pv_eq ?_ | with_reducible refine ref_eq ?_ ?_ ?_ ?_ | with_reducible refine nref_eq ?_ ?_ ?_ | with_reducible refine blkp_eq ?_ | with_reducible refine blkn_eq ?_ | with_reducible refine int_eq ?_ | with_reducible refine cons_eq ?_ ?_ | with_reducible refine agg_eq ?_ | with_reducible refine asl_eq ?_ ?_)) | skip)); (case' hM => (first | omega | (simp only; omega) | skip)); (case' hJ => (try (first | omega | (simp only; omega) | (simp; done) | (simp; omega) | (simp [*]; done) | (simp [*]; omega))))))
    · obtain rfl : k = l.length := by omega
      (repeat' first | with_reducible refine RK.out ?_ | with_reducible refine RC.out ?_ | with_reducible refine RA.out ?_ | refine AWp.seqN ?_ | refine AWp.region hT rfl ?_ | refine AWp.block ?_ | refine AWp.calm hT hM rfl (by decide +kernel) ?_ | ((first | (first | refine AWp.drawnA (id := 11) (.line [0, 1, 2, 3, 4, 5, 6, 7, 8, 9, 10, 11, 12, 13] .done) [] [] hT hM rfl (by decide +kernel) ?_ ?_ | refine AWp.drawnA (id := 15) (.line [0, 1, 2, 3, 4, 5, 6, 7, 8, 9, 10, 11, 12, 13, 14, 15, 16, 17, 18, 19, 20, 21] .done) [] [] hT hM rfl (by decide +kernel) ?_ ?_ | refine runOps_step rfl ?_ | refine runOps_nil ?_ | refine runOps_guardQ rfl rfl ?_ | refine runCalm_step rfl ?_ | refine runCalm_nil ?_ | refine runCalm_guardQ rfl rfl ?_ | refine runAuto_nil ?_ | refine runAuto_calm rfl rfl ?_ | refine runAuto_eff rfl rfl ?_ | refine runAuto_calmGQ rfl rfl rfl ?_ | refine runAuto_effGQ rfl rfl rfl ?_ | refine RT.line ?_ | refine RT.alts ?_ ?_ | refine RT.done ?_ | apply RT.none | refine AWp.cond ?_ | refine AWp.skip ?_ | refine AWp.ret ?_ | refine AWp.exit ?_ | refine BodyPost.retA ?_ | refine BodyPost.norA ?_ | with_reducible refine Keep.mk ?_) | simp (disch := omega) only [wrap_i64, wrap_i32, Int.toNat_natCast, Int.emod_eq_of_lt, Int.emod_emod, gd, gdS]) <;> (try simp only [go_sem, *])) | (apply ACall.genB; (case' eS => first | apply great_sum | apply ofm_sum | apply rcheck_sum | apply find_sum | apply valid_sum | apply rvalid_sum | apply right_sum | apply alive_sum | apply sha_sum); (case eG => (simp only [go_sem, *]; first | with_reducible exact rfl | (repeat' first | with_reducible exact rfl | refine cons_eq ?_ ?_ | refine agg_eq ?_ | refine asl_eq ?_ ?_ | omega | (simp only [go_sem]; done) | (simp only [go_sem]; omega)))); all_goals (first | with_reducible refine Keep.mk ?_ | omega | assumption | decide | (simp; done) | (simp; omega))) | ((first | ((with_reducible refine And.intro (fun hg => ?_) (fun hg => ?_)) <;> ((try simp only [go_sem] at hg); (try ((have hT0 : True := hg); clear hT0 hg)); (try have hgN := Nat.not_lt.2 hg); (try have hgN := Int.not_lt.2 hg); (try (revert hg; intro _)); (try (exfalso; omega)))) | ((with_reducible refine And.intro (fun H' hS => ?_) ?_) <;> (try simp only [go_sem] at hS))) <;> (try simp only [go_sem, *])) | ((with_reducible refine opt_if (by omega) ?_); exact rfl) | ((with_reducible refine opt_opt_if (by omega) ?_); exact rfl) | ((first | (with_reducible refine And.intro (fun H' => ?_) ?_) | (with_reducible first | (intro H' hS; (try simp only [go_sem] at hS)) | intro _) | (with_reducible refine And.intro (by omega) ?_)) <;> (try simp only [go_sem, *])) | fail)
  · (refine Sum.uniW (Sum.body hT Tryd.func5 rfl rfl Tryd.ntmps5 Tryd.results5 (by simp) ?_); simp only [go_sem, *])
    (repeat' first | with_reducible refine RK.out ?_ | with_reducible refine RC.out ?_ | with_reducible refine RA.out ?_ | refine AWp.seqN ?_ | refine AWp.region hT rfl ?_ | refine AWp.block ?_ | refine AWp.calm hT hM rfl (by decide +kernel) ?_ | ((first | (first | refine AWp.drawnA (id := 11) (.line [0, 1, 2, 3, 4, 5, 6, 7, 8, 9, 10, 11, 12, 13] .done) [] [] hT hM rfl (by decide +kernel) ?_ ?_ | refine AWp.drawnA (id := 15) (.line [0, 1, 2, 3, 4, 5, 6, 7, 8, 9, 10, 11, 12, 13, 14, 15, 16, 17, 18, 19, 20, 21] .done) [] [] hT hM rfl (by decide +kernel) ?_ ?_ | refine runOps_step rfl ?_ | refine runOps_nil ?_ | refine runOps_guardQ rfl rfl ?_ | refine runCalm_step rfl ?_ | refine runCalm_nil ?_ | refine runCalm_guardQ rfl rfl ?_ | refine runAuto_nil ?_ | refine runAuto_calm rfl rfl ?_ | refine runAuto_eff rfl rfl ?_ | refine runAuto_calmGQ rfl rfl rfl ?_ | refine runAuto_effGQ rfl rfl rfl ?_ | refine RT.line ?_ | refine RT.alts ?_ ?_ | refine RT.done ?_ | apply RT.none | refine AWp.cond ?_ | refine AWp.skip ?_ | refine AWp.ret ?_ | refine AWp.exit ?_ | refine BodyPost.retA ?_ | refine BodyPost.norA ?_ | with_reducible refine Keep.mk ?_) | simp (disch := omega) only [wrap_i64, wrap_i32, Int.toNat_natCast, Int.emod_eq_of_lt, Int.emod_emod, gd, gdS]) <;> (try simp only [go_sem, *])) | (apply ACall.genB; (case' eS => apply ha); (case eG => (simp only [go_sem, *]; first | with_reducible exact rfl | (repeat' first | with_reducible exact rfl | refine cons_eq ?_ ?_ | refine agg_eq ?_ | refine asl_eq ?_ ?_ | omega | (simp only [go_sem]; done) | (simp only [go_sem]; omega)))); all_goals (first | with_reducible refine Keep.mk ?_ | omega | assumption | decide | (simp; done) | (simp; omega))) | (apply ACall.genB; (case' eS => first | apply great_sum | apply ofm_sum | apply rcheck_sum | apply find_sum | apply valid_sum | apply rvalid_sum | apply right_sum | apply alive_sum | apply sha_sum); (case eG => (simp only [go_sem, *]; first | with_reducible exact rfl | (repeat' first | with_reducible exact rfl | refine cons_eq ?_ ?_ | refine agg_eq ?_ | refine asl_eq ?_ ?_ | omega | (simp only [go_sem]; done) | (simp only [go_sem]; omega)))); all_goals (first | with_reducible refine Keep.mk ?_ | omega | assumption | decide | (simp; done) | (simp; omega))) | ((first | ((with_reducible refine And.intro (fun hg => ?_) (fun hg => ?_)) <;> ((try simp only [go_sem] at hg); (try ((have hT0 : True := hg); clear hT0 hg)); (try have hgN := Nat.not_lt.2 hg); (try have hgN := Int.not_lt.2 hg); (try (revert hg; intro _)); (try (exfalso; omega)))) | ((with_reducible refine And.intro (fun H' hS => ?_) ?_) <;> (try simp only [go_sem] at hS))) <;> (try simp only [go_sem, *])) | ((with_reducible refine opt_if (by omega) ?_); exact rfl) | ((with_reducible refine opt_opt_if (by omega) ?_); exact rfl) | ((first | (with_reducible refine And.intro (fun H' => ?_) ?_) | (with_reducible first | (intro H' hS; (try simp only [go_sem] at hS)) | intro _) | (with_reducible refine And.intro (by omega) ?_)) <;> (try simp only [go_sem, *])) | fail)
end Go.Proofs.YtkbmkgcenehenaaDoor
