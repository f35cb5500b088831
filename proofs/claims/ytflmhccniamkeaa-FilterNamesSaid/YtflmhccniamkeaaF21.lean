/- FilterNames: what its inner calls answer, and plain facts. -/
import Derived.Test.YtflmhccniamkeaaF11
import Derived.Test.YtflmhccniamkeaaF18
set_option linter.unusedSimpArgs false
set_option linter.unusedVariables false
set_option maxHeartbeats 4000000
set_option maxRecDepth 100000
namespace Go.Proofs.Ytflmhccniamkeaa
open Go Hm Go.ChangeShapes Go.WideShapes Go.ChangeAt Go.RowKit
attribute [local go_sem] Int.reduceEq Int.reduceNe Int.reduceLT Int.reduceLE Int.reduceNeg Int.reduceToNat Int.reduceAdd Int.reduceSub Int.reduceMul Int.reducePow Int.reduceDiv Int.reduceMod ite_eq_left_iff ite_eq_right_iff imp_false Nat.reduceLT Nat.reduceEqDiff Nat.reduceAdd Nat.reduceSub Nat.reduceMul Nat.reduceLeDiff Nat.reduceBEq reduceIte
theorem rep_one (k : Nat) (x : Int) : List.replicate (k + 1) x = List.replicate k x ++ [x] := List.replicate_succ'
theorem same_sum (x : Int) (n : Nat) (hn : n ≤ 300) : Sum Try.prog G 23 [.int .u8 x, .int .i64 n] (Is (.pv (.asl false ((List.replicate n x).map (PV.int .u8)) n)) []) := by
  have hr : ∀ k, (List.replicate k x).length = k := fun k => List.length_replicate
  have h0 : List.replicate 0 x = [] := rfl
  (refine Sum.uniW (Sum.body hT Try.func23 rfl rfl Try.ntmps23 Try.results23 (by simp) ?_); simp only [go_sem, *])
  (repeat' first | with_reducible refine RK.out ?_ | with_reducible refine RC.out ?_ | with_reducible refine RA.out ?_ | refine AWp.seqN ?_ | refine AWp.region hT rfl ?_ | refine AWp.block ?_ | refine AWp.calm hT hM rfl (by decide +kernel) ?_ | ((first | (first | refine runOps_step rfl ?_ | refine runOps_nil ?_ | refine runOps_guardQ rfl rfl ?_ | refine runCalm_step rfl ?_ | refine runCalm_nil ?_ | refine runCalm_guardQ rfl rfl ?_ | refine AWp.cond ?_ | refine AWp.skip ?_ | refine AWp.ret ?_ | refine AWp.exit ?_ | refine BodyPost.retA ?_ | refine BodyPost.norA ?_ | with_reducible refine Keep.mk ?_) | simp (disch := omega) only [wrap_i64, wrap_i32, Int.toNat_natCast, Int.emod_eq_of_lt, Int.emod_emod, gd, gdS]) <;> (try simp only [go_sem, *])) | ((first | ((with_reducible refine And.intro (fun hg => ?_) (fun hg => ?_)) <;> ((try simp only [go_sem] at hg); (try ((have hT0 : True := hg); clear hT0 hg)); (try have hgN := Nat.not_lt.2 hg); (try have hgN := Int.not_lt.2 hg); (try (revert hg; intro _)); (try (exfalso; omega)))) | ((with_reducible refine And.intro (fun H' hS => ?_) ?_) <;> (try simp only [go_sem] at hS))) <;> (try simp only [go_sem, *])) | ((with_reducible refine opt_if (by omega) ?_); exact rfl) | ((with_reducible refine opt_opt_if (by omega) ?_); exact rfl) | ((first | (with_reducible refine And.intro (fun H' => ?_) ?_) | (with_reducible first | (intro H' hS; (try simp only [go_sem] at hS)) | intro _) | (with_reducible refine And.intro (by omega) ?_)) <;> (try simp only [go_sem, *])) | fail)
  (focus (refine AWp.weak (St.nilRef_weak (t := 5) (esz := 1) (by first | rfl | simp only [go_sem])) ?_; simp only [go_sem, *]; refine AWp.loopA [0, 1, 5, 6] (fun k : Nat => k ≤ n) (fun k => n - k) (fun k => [(5, .nref 0 k 1), (6, .pv (.int .i64 k))]) (fun k => [(0, .n ((List.replicate k x).map (PV.int .u8)))]) (0) ?_; simp only [go_sem, *]; apply HeadA.mk; (case' hE => ((try simp only [go_sem, *]); (repeat' first | with_reducible rfl | omega | with_reducible refine St_eq ?_ ?_ | with_reducible refine fr_eq ?_ ?_ | with_reducible refine hb_eq ?_ ?_ | with_reducible refine pv_eq ?_ | with_reducible refine ref_eq ?_ ?_ ?_ ?_ | with_reducible refine nref_eq ?_ ?_ ?_ | with_reducible refine blkp_eq ?_ | with_reducible refine blkn_eq ?_ | with_reducible refine int_eq ?_ | with_reducible refine cons_eq ?_ ?_ | with_reducible refine agg_eq ?_ | with_reducible refine asl_eq ?_ ?_); all_goals (try rfl))); (case' hJ => (try (first | omega | (simp; done) | (simp; omega) | exact ⟨by omega, fun i h => by omega⟩ | exact fun i h => by omega | (refine ⟨?_, ?_⟩ <;> first | omega | (simp; done)) | (refine ⟨?_, ?_, ?_⟩ <;> first | omega | (simp; done)))))))
  intro k hk
  by_cases hk' : k < n
  · have h1 := rep_one k x
    have hk1 := hr k
    clear hr h0
    generalize List.replicate k x = y at *
    generalize List.replicate (k + 1) x = z at *
    subst h1
    (repeat' first | with_reducible refine RK.out ?_ | with_reducible refine RC.out ?_ | with_reducible refine RA.out ?_ | refine AWp.seqN ?_ | refine AWp.region hT rfl ?_ | refine AWp.block ?_ | refine AWp.calm hT hM rfl (by decide +kernel) ?_ | ((first | (first | refine runOps_step rfl ?_ | refine runOps_nil ?_ | refine runOps_guardQ rfl rfl ?_ | refine runCalm_step rfl ?_ | refine runCalm_nil ?_ | refine runCalm_guardQ rfl rfl ?_ | refine AWp.cond ?_ | refine AWp.skip ?_ | refine AWp.ret ?_ | refine AWp.exit ?_ | refine BodyPost.retA ?_ | refine BodyPost.norA ?_ | with_reducible refine Keep.mk ?_) | simp (disch := omega) only [wrap_i64, wrap_i32, Int.toNat_natCast, Int.emod_eq_of_lt, Int.emod_emod, gd, gdS]) <;> (try simp only [go_sem, *])) | ((first | ((with_reducible refine And.intro (fun hg => ?_) (fun hg => ?_)) <;> ((try simp only [go_sem] at hg); (try ((have hT0 : True := hg); clear hT0 hg)); (try have hgN := Nat.not_lt.2 hg); (try have hgN := Int.not_lt.2 hg); (try (revert hg; intro _)); (try (exfalso; omega)))) | ((with_reducible refine And.intro (fun H' hS => ?_) ?_) <;> (try simp only [go_sem] at hS))) <;> (try simp only [go_sem, *])) | ((with_reducible refine opt_if (by omega) ?_); exact rfl) | ((with_reducible refine opt_opt_if (by omega) ?_); exact rfl) | ((first | (with_reducible refine And.intro (fun H' => ?_) ?_) | (with_reducible first | (intro H' hS; (try simp only [go_sem] at hS)) | intro _) | (with_reducible refine And.intro (by omega) ?_)) <;> (try simp only [go_sem, *])) | fail)
    (focus (apply RoundA.mk (k + 1); (case' hE => (first | (simp only [go_sem, *]; (repeat' first | with_reducible rfl | omega | with_reducible refine St_eq ?_ ?_ | with_reducible refine fr_eq ?_ ?_ | with_reducible refine hb_eq ?_ ?_ | with_reducible refine pv_eq ?_ | with_reducible refine ref_eq ?_ ?_ ?_ ?_ | with_reducible refine nref_eq ?_ ?_ ?_ | with_reducible refine blkp_eq ?_ | with_reducible refine blkn_eq ?_ | with_reducible refine int_eq ?_ | with_reducible refine cons_eq ?_ ?_ | with_reducible refine agg_eq ?_ | with_reducible refine asl_eq ?_ ?_)) | skip)); (case' hM => (first | omega | (simp only; omega) | skip)); (case' hJ => (try (first | omega | (simp only; omega) | (simp; done) | (simp; omega) | (simp [*]; done) | (simp [*]; omega))))))
    all_goals exact List.replicate_succ'.symm
  · obtain rfl : k = n := by omega
    (repeat' first | with_reducible refine RK.out ?_ | with_reducible refine RC.out ?_ | with_reducible refine RA.out ?_ | refine AWp.seqN ?_ | refine AWp.region hT rfl ?_ | refine AWp.block ?_ | refine AWp.calm hT hM rfl (by decide +kernel) ?_ | ((first | (first | refine runOps_step rfl ?_ | refine runOps_nil ?_ | refine runOps_guardQ rfl rfl ?_ | refine runCalm_step rfl ?_ | refine runCalm_nil ?_ | refine runCalm_guardQ rfl rfl ?_ | refine AWp.cond ?_ | refine AWp.skip ?_ | refine AWp.ret ?_ | refine AWp.exit ?_ | refine BodyPost.retA ?_ | refine BodyPost.norA ?_ | with_reducible refine Keep.mk ?_) | simp (disch := omega) only [wrap_i64, wrap_i32, Int.toNat_natCast, Int.emod_eq_of_lt, Int.emod_emod, gd, gdS]) <;> (try simp only [go_sem, *])) | ((first | ((with_reducible refine And.intro (fun hg => ?_) (fun hg => ?_)) <;> ((try simp only [go_sem] at hg); (try ((have hT0 : True := hg); clear hT0 hg)); (try have hgN := Nat.not_lt.2 hg); (try have hgN := Int.not_lt.2 hg); (try (revert hg; intro _)); (try (exfalso; omega)))) | ((with_reducible refine And.intro (fun H' hS => ?_) ?_) <;> (try simp only [go_sem] at hS))) <;> (try simp only [go_sem, *])) | ((with_reducible refine opt_if (by omega) ?_); exact rfl) | ((with_reducible refine opt_opt_if (by omega) ?_); exact rfl) | ((first | (with_reducible refine And.intro (fun H' => ?_) ?_) | (with_reducible first | (intro H' hS; (try simp only [go_sem] at hS)) | intro _) | (with_reducible refine And.intro (by omega) ?_)) <;> (try simp only [go_sem, *])) | fail)
theorem mk_of {k n : Int} {b w : List Int} (h : flE k n = 0) (hB : Byt b) (hl : b.length ≤ 10125) (hw : w.length ≤ 10125) (e : fo k n b = w) : mkP k n b w := by
  have h1 := bk_fo h hB hl
  rw [e] at h1
  have e1 : oneE k n b = 0 := by unfold oneE; rw [if_pos h, if_neg (by omega)]
  have e2 : bckE k n w = 0 := by unfold bckE; rw [if_pos h, if_neg (by omega), if_pos h1.1]
  exact ⟨e1, by unfold oneL; rw [if_pos e1]; exact e, e2, by unfold bckL; rw [if_pos e2]; exact h1.2⟩
theorem rep_byt {x : Int} (h : 0 ≤ x ∧ x < 256) (n : Nat) : Byt (List.replicate n x) := fun y hy => by rw [List.eq_of_mem_replicate hy]; exact h
theorem ch_two {f : Fl} (h : flE f.kind f.n = 8) : chE [⟨3, 0⟩, f] = 8 := by
  rw [chE_bad (l := [⟨3, 0⟩, f]) (by simp) (i := 1) (by simp) (by show ¬ flE f.kind f.n = 0; rw [h]; decide)]
  exact h
theorem ch_one {f : Fl} (h : flE f.kind f.n = 8) : chE [f] = 8 := by
  rw [chE_bad (l := [f]) (by simp) (i := 0) (by simp) (by show ¬ flE f.kind f.n = 0; rw [h]; decide)]
  exact h
theorem ch_runs : chE [⟨3, 0⟩, ⟨3, 0⟩, ⟨3, 0⟩, ⟨3, 0⟩] = 0 := chE_of (by simp) (by simp [flE])
def wd (k : Nat) : List Int := (List.range k).flatMap fun (i : Nat) => [(i : Int), i, 255]
theorem wd_succ (k : Nat) : wd (k + 1) = wd k ++ [(k : Int), k, 255] := by simp [wd, List.range_succ]
theorem wd_len (k : Nat) : (wd k).length = 3 * k := by
  induction k with
  | zero => rfl
  | succ k ih => rw [wd_succ, List.length_append, ih]; simp; omega
theorem wide_len : ∀ l : List Int, (spl (l.flatMap fun x => [x, x, 255])).length = 257 * l.length
  | [] => by rw [List.flatMap_nil, spl_nil]; rfl
  | x :: r => by
    rw [List.flatMap_cons]
    show (spl (x :: x :: 255 :: r.flatMap _)).length = _
    rw [spl_run, List.length_append, wide_len r, List.length_replicate, List.length_cons]
    have : ((255 : Int) + 2).toNat = 257 := rfl
    omega
theorem wd_spl (k : Nat) : (spl (wd k)).length = 257 * k := by
  have h := wide_len ((List.range k).map fun (i : Nat) => (i : Int))
  rw [List.flatMap_map, List.length_map, List.length_range] at h
  exact h
theorem wd_byt {k : Nat} (h : k ≤ 256) : Byt (wd k) := fun x hx => by
  unfold wd at hx
  rw [List.mem_flatMap] at hx
  obtain ⟨i, hi, hx⟩ := hx
  rw [List.mem_range] at hi
  simp at hx
  omega
theorem wd_bad : bckE 3 0 (wd 40) = 12 ∧ bckL 3 0 (wd 40) = [] := by
  have h : ¬ bkK 3 (wd 40) = true := fun h => by
    have e2 : spK (wd 40) = true := h
    unfold spK at e2
    rw [decide_eq_true_eq, wd_spl] at e2
    omega
  have e : bckE 3 0 (wd 40) = 12 := by unfold bckE; rw [if_pos (show flE 3 0 = 0 from rfl), if_neg (by rw [wd_len]; omega), if_neg h]
  exact ⟨e, by unfold bckL; rw [if_neg (by rw [e]; decide)]⟩
theorem one_err {k n : Int} {b : List Int} {e : Int} (h : oneE k n b = e) (h0 : e ≠ 0) : oneL k n b = [] := by unfold oneL; rw [if_neg (by rw [h]; exact h0)]
theorem bck_err {k n : Int} {b : List Int} {e : Int} (h : bckE k n b = e) (h0 : e ≠ 0) : bckL k n b = [] := by unfold bckL; rw [if_neg (by rw [h]; exact h0)]
theorem ap_err {l : List Fl} {b : List Int} {e : Int} (h : apE l b = e) (h0 : e ≠ 0) : apL l b = [] := by unfold apL; rw [if_neg (by rw [h]; exact h0)]
theorem un_err {l : List Fl} {b : List Int} {e : Int} (h : unE l b = e) (h0 : e ≠ 0) : unL l b = [] := by unfold unL; rw [if_neg (by rw [h]; exact h0)]
def bads : List Fl := [⟨0, 0⟩, ⟨1, 0⟩, ⟨1, 9⟩, ⟨1, -1⟩, ⟨2, 1⟩, ⟨3, 1⟩, ⟨4, 0⟩, ⟨255, 0⟩]
theorem bads_bad : ∀ k, k < 8 → flE (bads.getD k default).kind (bads.getD k default).n = 8 := by decide
abbrev SM (x n : Int) (w : List Int) (l : Nat) : Prop := Sum Try.prog G 23 [.int .u8 x, .int .i64 n] (Is (.pv (.asl false (w.map (PV.int .u8)) l)) [])
abbrev MK (k n : Int) (b w : List Int) (lb lw : Nat) : Prop := Sum Try.prog G 22 [.agg [.int .u8 k, .int .i64 n], .asl true (b.map (PV.int .u8)) lb, .asl true (w.map (PV.int .u8)) lw] (Is (.pv (.bool true)) [])
abbrev NO (b : List Int) (lb : Nat) : Prop := Sum Try.prog G 24 [.asl true (b.map (PV.int .u8)) lb] (Is (.pv (.bool true)) [])
theorem mk_sum {k n : Int} {b w : List Int} (h : flE k n = 0) (hb : Byt b) (hw : Byt w) (lb : b.length ≤ 10125) (lw : w.length ≤ 10125) (e : fo k n b = w) : MK k n b w b.length w.length := by
  have := makes_sum k n b w hb hw lb lw
  rwa [decide_eq_true (mk_of h hb lb lw e)] at this
theorem no_sum {b : List Int} (hb : Byt b) (lb : b.length ≤ 10125) (h : noP b) : NO b b.length := by
  have := nothing_sum b hb lb
  rwa [decide_eq_true h] at this
theorem allB {l : List Int} (h : (l.all fun x => decide (0 ≤ x ∧ x < 256)) = true) : Byt l := fun x hx => by
  have := List.all_eq_true.1 h x hx
  simpa using this
theorem sm_ex {n : Nat} (hn : n ≤ 300) {w : List Int} {lw : Nat} (hw : Byt w) (hlw : w.length = lw) (h2 : lw ≤ 10125) (e : cnt (List.replicate n 3) = w) : ∃ b : List Int, SM 3 n b n ∧ MK 3 0 b w n lw := by
  subst hlw
  have hl : (List.replicate n (3 : Int)).length = n := List.length_replicate
  have h := mk_sum (k := 3) (n := 0) (b := List.replicate n 3) (w := w) rfl (rep_byt (by decide) n) hw (by rw [hl]; omega) h2 e
  rw [hl] at h
  exact ⟨_, same_sum 3 n hn, h⟩
theorem sm1 : ∃ b : List Int, SM 3 257 b 257 ∧ MK 3 0 b [3, 3, 255] 257 3 := sm_ex (n := 257) (by decide) (allB (by decide)) rfl (by decide) (by decide +kernel)
theorem sm2 : ∃ b : List Int, SM 3 258 b 258 ∧ MK 3 0 b [3, 3, 255, 3] 258 4 := sm_ex (n := 258) (by decide) (allB (by decide)) rfl (by decide) (by decide +kernel)
theorem sm3 : ∃ b : List Int, SM 3 259 b 259 ∧ MK 3 0 b [3, 3, 255, 3, 3, 0] 259 6 := sm_ex (n := 259) (by decide) (allB (by decide)) rfl (by decide) (by decide +kernel)
theorem sm4 : ∃ b : List Int, SM 3 256 b 256 ∧ MK 3 0 b [3, 3, 254] 256 3 := sm_ex (n := 256) (by decide) (allB (by decide)) rfl (by decide) (by decide +kernel)
theorem m5 : MK 3 0 [] [] 0 0 := mk_sum rfl Byt.nil Byt.nil (by decide) (by decide) (by decide +kernel)
theorem m6 : MK 3 0 [1, 1, 2, 2] [1, 1, 0, 2, 2, 0] 4 6 := mk_sum rfl (allB (by decide)) (allB (by decide)) (by decide) (by decide) (by decide +kernel)
theorem m7 : MK 1 8 [1, 0, 0, 0, 0, 0, 0, 0, 0, 255] [1, 0, 0, 0, 0, 0, 0, 0, 255, 255] 10 10 := mk_sum rfl (allB (by decide)) (allB (by decide)) (by decide) (by decide) (by decide +kernel)
theorem m8 : MK 2 0 [255, 0, 255, 255, 1] [255, 1, 1, 0, 2] 5 5 := mk_sum rfl (allB (by decide)) (allB (by decide)) (by decide) (by decide) (by decide +kernel)
theorem m9 : MK 1 2 [9] [9] 1 1 := mk_sum rfl (allB (by decide)) (allB (by decide)) (by decide) (by decide) (by decide +kernel)
theorem n1 : NO [3, 3, 254, 3] 4 := no_sum (allB (by decide)) (by decide) (by decide +kernel)
theorem n2 : NO [0, 0] 2 := no_sum (allB (by decide)) (by decide) (by decide +kernel)
theorem n3 : NO [1, 2, 2] 3 := no_sum (allB (by decide)) (by decide) (by decide +kernel)
theorem n4 : NO [7, 7, 1, 7, 7, 0] 6 := no_sum (allB (by decide)) (by decide) (by decide +kernel)
end Go.Proofs.Ytflmhccniamkeaa
