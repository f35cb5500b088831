/- A block, done by the program. -/
import Derived.Test.YtkbmkgcenehenaaDoorM4
set_option linter.unusedSimpArgs false
set_option linter.unusedVariables false
set_option maxHeartbeats 4000000
set_option maxRecDepth 100000
namespace Go.Proofs.YtkbmkgcenehenaaDoor
open Go Hm Go.ChangeShapes Go.WideShapes Go.ChangeAt Go.RowKit
attribute [local go_sem] Int.reduceEq Int.reduceNe Int.reduceLT Int.reduceLE Int.reduceNeg Int.reduceToNat Int.reduceAdd Int.reduceSub Int.reduceMul Int.reducePow Int.reduceDiv Int.reduceMod ite_eq_left_iff ite_eq_right_iff imp_false Nat.reduceLT Nat.reduceEqDiff Nat.reduceAdd Nat.reduceSub Nat.reduceMul Nat.reduceLeDiff Nat.reduceBEq reduceIte
attribute [local go_sem] and32 or32 xor32 not32 add32
def wcs (l : List (BitVec 32)) : List PV := l.map fun x => .int .u32 (wi x)
@[go_sem] theorem wcs_len (l : List (BitVec 32)) : (wcs l).length = l.length := by simp [wcs]
theorem wcs_get (l : List (BitVec 32)) (i : Nat) (h : i < l.length) : (wcs l)[i]? = some (.int .u32 (wi (l.getD i 0))) := by
  simp [wcs, h]
theorem wcs_set (l : List (BitVec 32)) (i : Nat) (x : BitVec 32) : (wcs l).set i (.int .u32 (wi x)) = wcs (l.set i x) := by simp [wcs]
theorem wcs_snoc (l : List (BitVec 32)) (x : BitVec 32) : wcs l ++ [.int .u32 (wi x)] = wcs (l ++ [x]) := by simp [wcs]
theorem wcs_nil : wcs [] = [] := rfl
@[go_sem] theorem wcs_olds (l : List (BitVec 32)) : PV.olds (wcs l) = wcs l := by rw [olds_eq, wcs, List.map_map]; rfl
/-- The words of a block, k of its bytes being read. -/
def wW (b : List Int) (k : Nat) : List (BitVec 32) := (List.range 16).map fun i => wb b (4 * i) (min (k - 4 * i) 4)
theorem wW_len (b : List Int) (k : Nat) : (wW b k).length = 16 := by simp [wW]
theorem wW_get (b : List Int) (k i : Nat) (h : i < 16) : (wW b k).getD i 0 = wb b (4 * i) (min (k - 4 * i) 4) := by
  rw [List.getD_eq_getElem?_getD]; simp [wW, h]
theorem wW_zero (b : List Int) : wcs (wW b 0) = List.replicate 16 (.int .u32 0) := by
  simp [wcs, wW, List.range_succ, List.replicate_succ, wb, wi]
theorem wW_all (b : List Int) : wW b 64 = ws16 b := by
  unfold wW ws16
  apply List.map_congr_left
  intro i hi
  have := List.mem_range.1 hi
  rw [show min (64 - 4 * i) 4 = 4 by omega]
theorem wW_set (b : List Int) (k : Nat) (h : k < 64) : (wW b k).set (k / 4) (wb b (4 * (k / 4)) (k % 4 + 1)) = wW b (k + 1) := by
  apply List.ext_getElem
  · simp [wW]
  · intro i h1 h2
    have hi : i < 16 := by simpa [wW] using h2
    rw [List.getElem_set]
    simp only [wW, List.getElem_map, List.getElem_range]
    split
    · rename_i e
      subst e
      rw [show min (k + 1 - 4 * (k / 4)) 4 = k % 4 + 1 by omega]
    · rename_i e
      by_cases e2 : i < k / 4
      · rw [show min (k + 1 - 4 * i) 4 = 4 by omega, show min (k - 4 * i) 4 = 4 by omega]
      · rw [show min (k + 1 - 4 * i) 4 = 0 by omega, show min (k - 4 * i) 4 = 0 by omega]
theorem tdivN (k m : Nat) : (k : Int).tdiv (m : Int) = (k / m : Nat) := (Int.ofNat_tdiv k m).symm
theorem tmodN (k m : Nat) : (k : Int).tmod (m : Int) = (k % m : Nat) := (Int.ofNat_tmod k m).symm
theorem qCells_at (q : Nat) (h : q < 4) : qCells[q]? = some (.int .u32 (wi (kq q))) := by
  have : q = 0 ∨ q = 1 ∨ q = 2 ∨ q = 3 := by omega
  rcases this with rfl | rfl | rfl | rfl <;> rfl
@[go_sem] theorem qCells_len : qCells.length = 4 := rfl
theorem rgw_congr {v w : List (BitVec 32)} (t : Nat) (h : ∀ i, i < t → v.getD i 0 = w.getD i 0) (ht : 16 ≤ t) : rgw v t = rgw w t := by
  unfold rgw
  apply List.map_congr_left
  intro i hi
  have := List.mem_range.1 hi
  exact h _ (by omega)
theorem rgw_all (b : List Int) : rgw (wds (ws16 b) 64) 16 = ws16 b := by
  have h : rgw (wds (ws16 b) 64) 16 = rgw (ws16 b) 16 := rgw_congr 16 (fun i hi => by rw [wds_pre (ws16 b) (k := 0) (m := 64) (by omega) i (by rw [ws16_len]; omega)]; rfl) (by omega)
  rw [h, rgw_start _ (ws16_len b)]
theorem do_sum (a b c d e : BitVec 32) (l : List Int) (hB : Byt l) (hl : 64 ≤ l.length) (hm : l.length ≤ 2000000) : Sum Tryd.prog G 40 [.agg [.int .u32 (wi a), .int .u32 (wi b), .int .u32 (wi c), .int .u32 (wi d), .int .u32 (wi e)], .asl true (l.map (PV.int .u8)) l.length] (Is (.pv (.agg [.int .u32 (wi (doB ⟨a, b, c, d, e⟩ l).a), .int .u32 (wi (doB ⟨a, b, c, d, e⟩ l).b), .int .u32 (wi (doB ⟨a, b, c, d, e⟩ l).c), .int .u32 (wi (doB ⟨a, b, c, d, e⟩ l).d), .int .u32 (wi (doB ⟨a, b, c, d, e⟩ l).e)])) []) := by
  (refine Sum.uniW (Sum.body hT Tryd.func40 rfl rfl Tryd.ntmps40 Tryd.results40 (by simp) ?_); simp only [go_sem, *])
  (repeat' first | with_reducible refine RK.out ?_ | with_reducible refine RC.out ?_ | with_reducible refine RA.out ?_ | refine AWp.seqN ?_ | refine AWp.region hT rfl ?_ | refine AWp.block ?_ | refine AWp.calm hT hM rfl (by decide +kernel) ?_ | ((first | (first | refine AWp.drawnA (id := 12) (.line [0, 1, 2, 3, 4, 5, 6, 7, 8, 9, 10, 11, 12, 13, 14, 15, 16, 17, 18, 19, 20, 21, 22, 23, 24, 25, 26] .done) [5] [] hT hM rfl (by decide +kernel) ?_ ?_ | refine AWp.drawnA (id := 13) (.line [0, 2, 3, 4, 5, 6, 9, 11, 12, 13, 14, 16, 17, 18, 19, 1, 7, 8, 10, 15, 20, 21] .done) [] [] hT hM rfl (by decide +kernel) ?_ ?_ | refine runOps_step rfl ?_ | refine runOps_nil ?_ | refine runOps_guardQ rfl rfl ?_ | refine runCalm_step rfl ?_ | refine runCalm_nil ?_ | refine runCalm_guardQ rfl rfl ?_ | refine runAuto_nil ?_ | refine runAuto_calm rfl rfl ?_ | refine runAuto_eff rfl rfl ?_ | refine runAuto_calmGQ rfl rfl rfl ?_ | refine runAuto_effGQ rfl rfl rfl ?_ | refine RT.line ?_ | refine RT.alts ?_ ?_ | refine RT.done ?_ | apply RT.none | refine AWp.cond ?_ | refine AWp.skip ?_ | refine AWp.ret ?_ | refine AWp.exit ?_ | refine BodyPost.retA ?_ | refine BodyPost.norA ?_ | with_reducible refine Keep.mk ?_) | simp (disch := omega) only [wrap_i64, wrap_i32, Int.toNat_natCast, Int.emod_eq_of_lt, Int.emod_emod, gd, gdS]) <;> (try simp only [go_sem, *])) | (apply ACall.genB; (case' eS => first | apply rotC | apply mix_sum); (case eG => (simp only [go_sem, *]; first | with_reducible exact rfl | (repeat' first | with_reducible exact rfl | refine cons_eq ?_ ?_ | refine agg_eq ?_ | refine asl_eq ?_ ?_ | omega | (simp only [go_sem]; done) | (simp only [go_sem]; omega)))); all_goals (first | with_reducible refine Keep.mk ?_ | omega | assumption | decide | (simp; done) | (simp; omega))) | ((first | ((with_reducible refine And.intro (fun hg => ?_) (fun hg => ?_)) <;> ((try simp only [go_sem] at hg); (try ((have hT0 : True := hg); clear hT0 hg)); (try have hgN := Nat.not_lt.2 hg); (try have hgN := Int.not_lt.2 hg); (try (revert hg; intro _)); (try (exfalso; omega)))) | ((with_reducible refine And.intro (fun H' hS => ?_) ?_) <;> (try simp only [go_sem] at hS))) <;> (try simp only [go_sem, *])) | ((with_reducible refine opt_if (by omega) ?_); exact rfl) | ((with_reducible refine opt_opt_if (by omega) ?_); exact rfl) | ((first | (with_reducible refine And.intro (fun H' => ?_) ?_) | (with_reducible first | (intro H' hS; (try simp only [go_sem] at hS)) | intro _) | (with_reducible refine And.intro (by omega) ?_)) <;> (try simp only [go_sem, *])) | fail)
  (focus (refine AWp.loopA [2, 4, 5, 16, 17, 18] (fun k : Nat => k ≤ 64) (fun k => 64 - k) (fun k => [(18, .pv (.int .i64 k))]) (fun k => [(2, .p (wcs (wW l k)))]) (0) ?_; simp only [go_sem, *]; apply HeadA.mk; (case' hE => ((try simp only [go_sem, *]); (repeat' first | with_reducible rfl | omega | with_reducible refine St_eq ?_ ?_ | with_reducible refine fr_eq ?_ ?_ | with_reducible refine hb_eq ?_ ?_ | with_reducible refine pv_eq ?_ | with_reducible refine ref_eq ?_ ?_ ?_ ?_ | with_reducible refine nref_eq ?_ ?_ ?_ | with_reducible refine blkp_eq ?_ | with_reducible refine blkn_eq ?_ | with_reducible refine int_eq ?_ | with_reducible refine cons_eq ?_ ?_ | with_reducible refine agg_eq ?_ | with_reducible refine asl_eq ?_ ?_); all_goals (try rfl))); (case' hJ => (try (first | omega | (simp; done) | (simp; omega) | exact ⟨by omega, fun i h => by omega⟩ | exact fun i h => by omega | (refine ⟨?_, ?_⟩ <;> first | omega | (simp; done)) | (refine ⟨?_, ?_, ?_⟩ <;> first | omega | (simp; done)))))))
  intro k hk
  have hW : (wW l k).length = 16 := wW_len l k
  by_cases hk' : k < 64
  · have h1 := hB.get (k := k) (by omega)
    have h2 : k < (l.take 64).length := by rw [List.length_take]; omega
    have h3 : (l.take 64).getD k 0 = l.getD k 0 := by
      rw [List.getD_eq_getElem?_getD, List.getD_eq_getElem?_getD, List.getElem?_take_of_lt hk']
    have e1 : (k : Int).tdiv 4 = (k / 4 : Nat) := tdivN k 4
    have e2 : (wcs (wW l k))[k / 4]? = some (.int .u32 (wi (wb l (4 * (k / 4)) (k % 4)))) := by
      rw [wcs_get _ _ (by omega), wW_get _ _ _ (by omega), show min (k - 4 * (k / 4)) 4 = k % 4 by omega]
    have e3 : l.getD k 0 % 4294967296 = wi (BitVec.ofNat 32 (l.getD k 0).toNat) := by
      unfold wi
      rw [BitVec.toNat_ofNat]
      omega
    have e4 : wi (wb l (4 * (k / 4)) (k % 4)) * (256 : Int) % (4294967296 : Int) = wi (wb l (4 * (k / 4)) (k % 4) <<< 8) := shl32 _ 8
    have e5 : (wb l (4 * (k / 4)) (k % 4) <<< 8) ||| BitVec.ofNat 32 (l.getD k 0).toNat = wb l (4 * (k / 4)) (k % 4 + 1) := by
      have h : 4 * (k / 4) + k % 4 = k := by omega
      have := wb_push l (4 * (k / 4)) (k % 4) (by rw [h]; exact h1)
      rwa [h] at this
    have e6 := wcs_set (wW l k) (k / 4) (wb l (4 * (k / 4)) (k % 4 + 1))
    rw [wW_set l k hk'] at e6
    have e7 : min 8 32 = 8 := rfl
    have e8 : k / 4 < 16 := by omega
    have e9 : ((k / 4 : Nat) : Int) < 16 := by omega
    have e10 : 0 ≤ ((k / 4 : Nat) : Int) := by omega
    (repeat' first | with_reducible refine RK.out ?_ | with_reducible refine RC.out ?_ | with_reducible refine RA.out ?_ | refine AWp.seqN ?_ | refine AWp.region hT rfl ?_ | refine AWp.block ?_ | refine AWp.calm hT hM rfl (by decide +kernel) ?_ | ((first | (first | refine AWp.drawnA (id := 12) (.line [0, 1, 2, 3, 4, 5, 6, 7, 8, 9, 10, 11, 12, 13, 14, 15, 16, 17, 18, 19, 20, 21, 22, 23, 24, 25, 26] .done) [5] [] hT hM rfl (by decide +kernel) ?_ ?_ | refine AWp.drawnA (id := 13) (.line [0, 2, 3, 4, 5, 6, 9, 11, 12, 13, 14, 16, 17, 18, 19, 1, 7, 8, 10, 15, 20, 21] .done) [] [] hT hM rfl (by decide +kernel) ?_ ?_ | refine runOps_step rfl ?_ | refine runOps_nil ?_ | refine runOps_guardQ rfl rfl ?_ | refine runCalm_step rfl ?_ | refine runCalm_nil ?_ | refine runCalm_guardQ rfl rfl ?_ | refine runAuto_nil ?_ | refine runAuto_calm rfl rfl ?_ | refine runAuto_eff rfl rfl ?_ | refine runAuto_calmGQ rfl rfl rfl ?_ | refine runAuto_effGQ rfl rfl rfl ?_ | refine RT.line ?_ | refine RT.alts ?_ ?_ | refine RT.done ?_ | apply RT.none | refine AWp.cond ?_ | refine AWp.skip ?_ | refine AWp.ret ?_ | refine AWp.exit ?_ | refine BodyPost.retA ?_ | refine BodyPost.norA ?_ | with_reducible refine Keep.mk ?_) | simp (disch := omega) only [wrap_i64, wrap_i32, Int.toNat_natCast, Int.emod_eq_of_lt, Int.emod_emod, gd, gdS]) <;> (try simp only [go_sem, *])) | (apply ACall.genB; (case' eS => first | apply rotC | apply mix_sum); (case eG => (simp only [go_sem, *]; first | with_reducible exact rfl | (repeat' first | with_reducible exact rfl | refine cons_eq ?_ ?_ | refine agg_eq ?_ | refine asl_eq ?_ ?_ | omega | (simp only [go_sem]; done) | (simp only [go_sem]; omega)))); all_goals (first | with_reducible refine Keep.mk ?_ | omega | assumption | decide | (simp; done) | (simp; omega))) | ((first | ((with_reducible refine And.intro (fun hg => ?_) (fun hg => ?_)) <;> ((try simp only [go_sem] at hg); (try ((have hT0 : True := hg); clear hT0 hg)); (try have hgN := Nat.not_lt.2 hg); (try have hgN := Int.not_lt.2 hg); (try (revert hg; intro _)); (try (exfalso; omega)))) | ((with_reducible refine And.intro (fun H' hS => ?_) ?_) <;> (try simp only [go_sem] at hS))) <;> (try simp only [go_sem, *])) | ((with_reducible refine opt_if (by omega) ?_); exact rfl) | ((with_reducible refine opt_opt_if (by omega) ?_); exact rfl) | ((first | (with_reducible refine And.intro (fun H' => ?_) ?_) | (with_reducible first | (intro H' hS; (try simp only [go_sem] at hS)) | intro _) | (with_reducible refine And.intro (by omega) ?_)) <;> (try simp only [go_sem, *])) | fail)
    (focus (apply RoundA.mk (k + 1); (case' hE => (first | (simp only [go_sem, *]; (repeat' first | with_reducible rfl | omega | with_reducible refine St_eq ?_ ?_ | with_reducible refine fr_eq ?_ ?_ | with_reducible refine hb_eq ?_ ?_ | with_reducible refine pv_eq ?_ | with_reducible refine ref_eq ?_ ?_ ?_ ?_ | with_reducible refine nref_eq ?_ ?_ ?_ | with_reducible refine blkp_eq ?_ | with_reducible refine blkn_eq ?_ | with_reducible refine int_eq ?_ | with_reducible refine cons_eq ?_ ?_ | with_reducible refine agg_eq ?_ | with_reducible refine asl_eq ?_ ?_)) | skip)); (case' hM => (first | omega | (simp only; omega) | skip)); (case' hJ => (try (first | omega | (simp only; omega) | (simp; done) | (simp; omega) | (simp [*]; done) | (simp [*]; omega))))))
  · obtain rfl : k = 64 := by omega
    rw [wW_all]
    have hr0 := rgw_all l
    have hWl : (wds (ws16 l) 64).length = 80 := by rw [wds_len, ws16_len]
    have hWn := fun t h1 h2 => wds_at (ws16 l) (ws16_len l) (n := 64) (t := t) h1 h2
    have e0 : doB ⟨a, b, c, d, e⟩ l = Vw.add ⟨a, b, c, d, e⟩ (rnds (wds (ws16 l) 64) ⟨a, b, c, d, e⟩ 80) := rfl
    rw [← hr0, e0]
    clear hW e0 hr0 hk hk' hB
    generalize wds (ws16 l) 64 = W at *
    have e1 : ∀ v w : Vw, (Vw.add v w).a = v.a + w.a ∧ (Vw.add v w).b = v.b + w.b ∧ (Vw.add v w).c = v.c + w.c ∧ (Vw.add v w).d = v.d + w.d ∧ (Vw.add v w).e = v.e + w.e := fun v w => ⟨rfl, rfl, rfl, rfl, rfl⟩
    obtain ⟨ea, eb, ec, ed, ee⟩ := e1 ⟨a, b, c, d, e⟩ (rnds W ⟨a, b, c, d, e⟩ 80)
    rw [ea, eb, ec, ed, ee]
    clear e1 ea eb ec ed ee
    (repeat' first | with_reducible refine RK.out ?_ | with_reducible refine RC.out ?_ | with_reducible refine RA.out ?_ | refine AWp.seqN ?_ | refine AWp.region hT rfl ?_ | refine AWp.block ?_ | refine AWp.calm hT hM rfl (by decide +kernel) ?_ | ((first | (first | refine AWp.drawnA (id := 12) (.line [0, 1, 2, 3, 4, 5, 6, 7, 8, 9, 10, 11, 12, 13, 14, 15, 16, 17, 18, 19, 20, 21, 22, 23, 24, 25, 26] .done) [5] [] hT hM rfl (by decide +kernel) ?_ ?_ | refine AWp.drawnA (id := 13) (.line [0, 2, 3, 4, 5, 6, 9, 11, 12, 13, 14, 16, 17, 18, 19, 1, 7, 8, 10, 15, 20, 21] .done) [] [] hT hM rfl (by decide +kernel) ?_ ?_ | refine runOps_step rfl ?_ | refine runOps_nil ?_ | refine runOps_guardQ rfl rfl ?_ | refine runCalm_step rfl ?_ | refine runCalm_nil ?_ | refine runCalm_guardQ rfl rfl ?_ | refine runAuto_nil ?_ | refine runAuto_calm rfl rfl ?_ | refine runAuto_eff rfl rfl ?_ | refine runAuto_calmGQ rfl rfl rfl ?_ | refine runAuto_effGQ rfl rfl rfl ?_ | refine RT.line ?_ | refine RT.alts ?_ ?_ | refine RT.done ?_ | apply RT.none | refine AWp.cond ?_ | refine AWp.skip ?_ | refine AWp.ret ?_ | refine AWp.exit ?_ | refine BodyPost.retA ?_ | refine BodyPost.norA ?_ | with_reducible refine Keep.mk ?_) | simp (disch := omega) only [wrap_i64, wrap_i32, Int.toNat_natCast, Int.emod_eq_of_lt, Int.emod_emod, gd, gdS]) <;> (try simp only [go_sem, *])) | (apply ACall.genB; (case' eS => first | apply rotC | apply mix_sum); (case eG => (simp only [go_sem, *]; first | with_reducible exact rfl | (repeat' first | with_reducible exact rfl | refine cons_eq ?_ ?_ | refine agg_eq ?_ | refine asl_eq ?_ ?_ | omega | (simp only [go_sem]; done) | (simp only [go_sem]; omega)))); all_goals (first | with_reducible refine Keep.mk ?_ | omega | assumption | decide | (simp; done) | (simp; omega))) | ((first | ((with_reducible refine And.intro (fun hg => ?_) (fun hg => ?_)) <;> ((try simp only [go_sem] at hg); (try ((have hT0 : True := hg); clear hT0 hg)); (try have hgN := Nat.not_lt.2 hg); (try have hgN := Int.not_lt.2 hg); (try (revert hg; intro _)); (try (exfalso; omega)))) | ((with_reducible refine And.intro (fun H' hS => ?_) ?_) <;> (try simp only [go_sem] at hS))) <;> (try simp only [go_sem, *])) | ((with_reducible refine opt_if (by omega) ?_); exact rfl) | ((with_reducible refine opt_opt_if (by omega) ?_); exact rfl) | ((first | (with_reducible refine And.intro (fun H' => ?_) ?_) | (with_reducible first | (intro H' hS; (try simp only [go_sem] at hS)) | intro _) | (with_reducible refine And.intro (by omega) ?_)) <;> (try simp only [go_sem, *])) | fail)
    (focus (refine AWp.loopA [2, 4, 5, 8, 9, 10, 11, 12, 45] (fun k : Nat => k ≤ 80) (fun k => 80 - k) (fun k => [(8, .pv (.int .u32 (wi (rnds W ⟨a, b, c, d, e⟩ k).a))), (9, .pv (.int .u32 (wi (rnds W ⟨a, b, c, d, e⟩ k).b))), (10, .pv (.int .u32 (wi (rnds W ⟨a, b, c, d, e⟩ k).c))), (11, .pv (.int .u32 (wi (rnds W ⟨a, b, c, d, e⟩ k).d))), (12, .pv (.int .u32 (wi (rnds W ⟨a, b, c, d, e⟩ k).e))), (45, .pv (.int .i64 k))]) (fun k => [(2, .p (wcs (rgw W (max k 16))))]) (0) ?_; simp only [go_sem, *]; apply HeadA.mk; (case' hE => ((try simp only [go_sem, *]); (repeat' first | with_reducible rfl | omega | with_reducible refine St_eq ?_ ?_ | with_reducible refine fr_eq ?_ ?_ | with_reducible refine hb_eq ?_ ?_ | with_reducible refine pv_eq ?_ | with_reducible refine ref_eq ?_ ?_ ?_ ?_ | with_reducible refine nref_eq ?_ ?_ ?_ | with_reducible refine blkp_eq ?_ | with_reducible refine blkn_eq ?_ | with_reducible refine int_eq ?_ | with_reducible refine cons_eq ?_ ?_ | with_reducible refine agg_eq ?_ | with_reducible refine asl_eq ?_ ?_); all_goals (try rfl))); (case' hJ => (try (first | omega | (simp; done) | (simp; omega) | exact ⟨by omega, fun i h => by omega⟩ | exact fun i h => by omega | (refine ⟨?_, ?_⟩ <;> first | omega | (simp; done)) | (refine ⟨?_, ?_, ?_⟩ <;> first | omega | (simp; done)))))))
    intro k hk
    by_cases hk' : k < 80
    · have hs := rnds_succ W ⟨a, b, c, d, e⟩ k
      generalize hv : rnds W ⟨a, b, c, d, e⟩ k = v at *
      have ta : (rnds W ⟨a, b, c, d, e⟩ (k + 1)).a = rot v.a 5 + fq (k / 20) v.b v.c v.d + v.e + kq (k / 20) + W.getD k 0 := by rw [hs]; rfl
      have tb : (rnds W ⟨a, b, c, d, e⟩ (k + 1)).b = v.a := by rw [hs]; rfl
      have tc : (rnds W ⟨a, b, c, d, e⟩ (k + 1)).c = rot v.b 30 := by rw [hs]; rfl
      have td : (rnds W ⟨a, b, c, d, e⟩ (k + 1)).d = v.c := by rw [hs]; rfl
      have te : (rnds W ⟨a, b, c, d, e⟩ (k + 1)).e = v.d := by rw [hs]; rfl
      clear hs
      have q1 : (k : Int).tdiv 20 = (k / 20 : Nat) := tdivN k 20
      have q2 : (k : Int).tmod 16 = (k % 16 : Nat) := tmodN k 16
      have q3 := qCells_at (k / 20) (by omega)
      have q4 : k / 20 < 4 := by omega
      have q5 : k % 16 < 16 := by omega
      have q6 : ((k / 20 : Nat) : Int) < 4 := by omega
      have q7 : ((k % 16 : Nat) : Int) < 16 := by omega
      have q8 : 0 ≤ ((k / 20 : Nat) : Int) := by omega
      have q9 : 0 ≤ ((k % 16 : Nat) : Int) := by omega
      by_cases h16 : 16 ≤ k
      · have g := hWn k h16 (by omega)
        have r0 : max k 16 = k := by omega
        have rb := rgw_back W k
        have r1 : ((k : Int) + 13).tmod 16 = ((k + 13) % 16 : Nat) := tmodN (k + 13) 16
        have r2 : ((k : Int) + 8).tmod 16 = ((k + 8) % 16 : Nat) := tmodN (k + 8) 16
        have r3 : ((k : Int) + 2).tmod 16 = ((k + 2) % 16 : Nat) := tmodN (k + 2) 16
        have rl : (rgw W k).length = 16 := by simp [rgw]
        have s1 : (wcs (rgw W k))[(k + 13) % 16]? = some (.int .u32 (wi (W.getD (k - 3) 0))) := by rw [wcs_get _ _ (by omega), ← rb 3 h16 (by omega)]
        have s2 : (wcs (rgw W k))[(k + 8) % 16]? = some (.int .u32 (wi (W.getD (k - 8) 0))) := by rw [wcs_get _ _ (by omega), ← rb 8 h16 (by omega)]
        have s3 : (wcs (rgw W k))[(k + 2) % 16]? = some (.int .u32 (wi (W.getD (k - 14) 0))) := by rw [wcs_get _ _ (by omega), ← rb 14 h16 (by omega)]
        have s4 : (wcs (rgw W k))[k % 16]? = some (.int .u32 (wi (W.getD (k - 16) 0))) := by rw [wcs_get _ _ (by omega), ← rb 16 h16 (by omega)]; rfl
        have s5 : (wcs (rgw W k)).set (k % 16) (.int .u32 (wi (W.getD k 0))) = wcs (rgw W (k + 1)) := by rw [wcs_set, rgw_set W k h16]
        have s6 : (wcs (rgw W (k + 1)))[k % 16]? = some (.int .u32 (wi (W.getD k 0))) := by
          have := rgw_back W (k + 1) 1 (by omega) (by omega)
          rw [show k + 1 + (16 - 1) = k + 16 by omega, Nat.add_mod_right] at this
          rw [wcs_get _ _ (by simp [rgw]; omega), this]; rfl
        have r4 : (k + 13) % 16 < 16 ∧ (k + 8) % 16 < 16 ∧ (k + 2) % 16 < 16 := by omega
        have r5 : (((k + 13) % 16 : Nat) : Int) < 16 ∧ (((k + 8) % 16 : Nat) : Int) < 16 ∧ (((k + 2) % 16 : Nat) : Int) < 16 := by omega
        have r6 : 0 ≤ (((k + 13) % 16 : Nat) : Int) ∧ 0 ≤ (((k + 8) % 16 : Nat) : Int) ∧ 0 ≤ (((k + 2) % 16 : Nat) : Int) := by omega
        have r7 : (16 : Int) ≤ k := by omega
        replace g := g.symm
        rw [r0]
        clear hWn rb hWl
        have r8 : max (k + 1) 16 = k + 1 := by omega
        (repeat' first | with_reducible refine RK.out ?_ | with_reducible refine RC.out ?_ | with_reducible refine RA.out ?_ | refine AWp.seqN ?_ | refine AWp.region hT rfl ?_ | refine AWp.block ?_ | refine AWp.calm hT hM rfl (by decide +kernel) ?_ | ((first | (first | refine AWp.drawnG (id := 12) [0, 1, 2, 3, 4, 5, 6, 7, 8, 9, 10, 11, 12, 13, 14, 15, 16, 17, 18, 19, 20, 21, 22, 23, 24, 25] 26 [] [] [] hT hM rfl rfl (by decide +kernel) ?_ ?_ | refine AWp.drawnA (id := 13) (.line [0, 2, 3, 4, 5, 6, 9, 11, 12, 13, 14, 16, 17, 18, 19, 1, 7, 8, 10, 15, 20, 21] .done) [] [] hT hM rfl (by decide +kernel) ?_ ?_ | refine runOps_step rfl ?_ | refine runOps_nil ?_ | refine runOps_guardQ rfl rfl ?_ | refine runCalm_step rfl ?_ | refine runCalm_nil ?_ | refine runCalm_guardQ rfl rfl ?_ | refine runAuto_nil ?_ | refine runAuto_calm rfl rfl ?_ | refine runAuto_eff rfl rfl ?_ | refine runAuto_calmGQ rfl rfl rfl ?_ | refine runAuto_effGQ rfl rfl rfl ?_ | refine RT.line ?_ | refine RT.alts ?_ ?_ | refine RT.done ?_ | apply RT.none | refine AWp.cond ?_ | refine AWp.skip ?_ | refine AWp.ret ?_ | refine AWp.exit ?_ | refine BodyPost.retA ?_ | refine BodyPost.norA ?_ | with_reducible refine Keep.mk ?_) | simp (disch := omega) only [wrap_i64, wrap_i32, Int.toNat_natCast, Int.emod_eq_of_lt, Int.emod_emod, gd, gdS]) <;> (try simp only [go_sem, *])) | (apply ACall.genB; (case' eS => first | apply rotC | apply mix_sum); (case eG => (simp only [go_sem, *]; first | with_reducible exact rfl | (repeat' first | with_reducible exact rfl | refine cons_eq ?_ ?_ | refine agg_eq ?_ | refine asl_eq ?_ ?_ | omega | (simp only [go_sem]; done) | (simp only [go_sem]; omega)))); all_goals (first | with_reducible refine Keep.mk ?_ | omega | assumption | decide | (simp; done) | (simp; omega))) | ((first | ((with_reducible refine And.intro (fun hg => ?_) (fun hg => ?_)) <;> ((try simp only [go_sem] at hg); (try ((have hT0 : True := hg); clear hT0 hg)); (try have hgN := Nat.not_lt.2 hg); (try have hgN := Int.not_lt.2 hg); (try (revert hg; intro _)); (try (exfalso; omega)))) | ((with_reducible refine And.intro (fun H' hS => ?_) ?_) <;> (try simp only [go_sem] at hS))) <;> (try simp only [go_sem, *])) | ((with_reducible refine opt_if (by omega) ?_); exact rfl) | ((with_reducible refine opt_opt_if (by omega) ?_); exact rfl) | ((first | (with_reducible refine And.intro (fun H' => ?_) ?_) | (with_reducible first | (intro H' hS; (try simp only [go_sem] at hS)) | intro _) | (with_reducible refine And.intro (by omega) ?_)) <;> (try simp only [go_sem, *])) | fail)
        (focus (apply RoundA.mk (k + 1); (case' hE => (first | (simp only [go_sem, *]; (repeat' first | with_reducible rfl | omega | with_reducible refine St_eq ?_ ?_ | with_reducible refine fr_eq ?_ ?_ | with_reducible refine hb_eq ?_ ?_ | with_reducible refine pv_eq ?_ | with_reducible refine ref_eq ?_ ?_ ?_ ?_ | with_reducible refine nref_eq ?_ ?_ ?_ | with_reducible refine blkp_eq ?_ | with_reducible refine blkn_eq ?_ | with_reducible refine int_eq ?_ | with_reducible refine cons_eq ?_ ?_ | with_reducible refine agg_eq ?_ | with_reducible refine asl_eq ?_ ?_)) | skip)); (case' hM => (first | omega | (simp only; omega) | skip)); (case' hJ => (try (first | omega | (simp only; omega) | (simp; done) | (simp; omega) | (simp [*]; done) | (simp [*]; omega))))))
      · have r0 : max k 16 = 16 := by omega
        have rl : (rgw W 16).length = 16 := by simp [rgw]
        have s6 : (wcs (rgw W 16))[k % 16]? = some (.int .u32 (wi (W.getD k 0))) := by
          rw [wcs_get _ _ (by omega), rgw_get _ _ _ (by omega)]
          rw [show 16 - 16 + (k % 16 + 16 - 16 % 16) % 16 = k by omega]
        have r7 : ¬ (16 : Int) ≤ k := by omega
        have r8 : max (k + 1) 16 = 16 := by omega
        rw [r0]
        clear hWn hWl
        (repeat' first | with_reducible refine RK.out ?_ | with_reducible refine RC.out ?_ | with_reducible refine RA.out ?_ | refine AWp.seqN ?_ | refine AWp.region hT rfl ?_ | refine AWp.block ?_ | refine AWp.calm hT hM rfl (by decide +kernel) ?_ | ((first | (first | refine AWp.drawnA (id := 12) (.line [0, 1, 2, 3, 4, 5, 6, 7, 8, 9, 10, 11, 12, 13, 14, 15, 16, 17, 18, 19, 20, 21, 22, 23, 24, 25, 26] .done) [5] [] hT hM rfl (by decide +kernel) ?_ ?_ | refine AWp.drawnA (id := 13) (.line [0, 2, 3, 4, 5, 6, 9, 11, 12, 13, 14, 16, 17, 18, 19, 1, 7, 8, 10, 15, 20, 21] .done) [] [] hT hM rfl (by decide +kernel) ?_ ?_ | refine runOps_step rfl ?_ | refine runOps_nil ?_ | refine runOps_guardQ rfl rfl ?_ | refine runCalm_step rfl ?_ | refine runCalm_nil ?_ | refine runCalm_guardQ rfl rfl ?_ | refine runAuto_nil ?_ | refine runAuto_calm rfl rfl ?_ | refine runAuto_eff rfl rfl ?_ | refine runAuto_calmGQ rfl rfl rfl ?_ | refine runAuto_effGQ rfl rfl rfl ?_ | refine RT.line ?_ | refine RT.alts ?_ ?_ | refine RT.done ?_ | apply RT.none | refine AWp.cond ?_ | refine AWp.skip ?_ | refine AWp.ret ?_ | refine AWp.exit ?_ | refine BodyPost.retA ?_ | refine BodyPost.norA ?_ | with_reducible refine Keep.mk ?_) | simp (disch := omega) only [wrap_i64, wrap_i32, Int.toNat_natCast, Int.emod_eq_of_lt, Int.emod_emod, gd, gdS]) <;> (try simp only [go_sem, *])) | (apply ACall.genB; (case' eS => first | apply rotC | apply mix_sum); (case eG => (simp only [go_sem, *]; first | with_reducible exact rfl | (repeat' first | with_reducible exact rfl | refine cons_eq ?_ ?_ | refine agg_eq ?_ | refine asl_eq ?_ ?_ | omega | (simp only [go_sem]; done) | (simp only [go_sem]; omega)))); all_goals (first | with_reducible refine Keep.mk ?_ | omega | assumption | decide | (simp; done) | (simp; omega))) | ((first | ((with_reducible refine And.intro (fun hg => ?_) (fun hg => ?_)) <;> ((try simp only [go_sem] at hg); (try ((have hT0 : True := hg); clear hT0 hg)); (try have hgN := Nat.not_lt.2 hg); (try have hgN := Int.not_lt.2 hg); (try (revert hg; intro _)); (try (exfalso; omega)))) | ((with_reducible refine And.intro (fun H' hS => ?_) ?_) <;> (try simp only [go_sem] at hS))) <;> (try simp only [go_sem, *])) | ((with_reducible refine opt_if (by omega) ?_); exact rfl) | ((with_reducible refine opt_opt_if (by omega) ?_); exact rfl) | ((first | (with_reducible refine And.intro (fun H' => ?_) ?_) | (with_reducible first | (intro H' hS; (try simp only [go_sem] at hS)) | intro _) | (with_reducible refine And.intro (by omega) ?_)) <;> (try simp only [go_sem, *])) | fail)
        (focus (apply RoundA.mk (k + 1); (case' hE => (first | (simp only [go_sem, *]; (repeat' first | with_reducible rfl | omega | with_reducible refine St_eq ?_ ?_ | with_reducible refine fr_eq ?_ ?_ | with_reducible refine hb_eq ?_ ?_ | with_reducible refine pv_eq ?_ | with_reducible refine ref_eq ?_ ?_ ?_ ?_ | with_reducible refine nref_eq ?_ ?_ ?_ | with_reducible refine blkp_eq ?_ | with_reducible refine blkn_eq ?_ | with_reducible refine int_eq ?_ | with_reducible refine cons_eq ?_ ?_ | with_reducible refine agg_eq ?_ | with_reducible refine asl_eq ?_ ?_)) | skip)); (case' hM => (first | omega | (simp only; omega) | skip)); (case' hJ => (try (first | omega | (simp only; omega) | (simp; done) | (simp; omega) | (simp [*]; done) | (simp [*]; omega))))))
    · obtain rfl : k = 80 := by omega
      (repeat' first | with_reducible refine RK.out ?_ | with_reducible refine RC.out ?_ | with_reducible refine RA.out ?_ | refine AWp.seqN ?_ | refine AWp.region hT rfl ?_ | refine AWp.block ?_ | refine AWp.calm hT hM rfl (by decide +kernel) ?_ | ((first | (first | refine AWp.drawnA (id := 12) (.line [0, 1, 2, 3, 4, 5, 6, 7, 8, 9, 10, 11, 12, 13, 14, 15, 16, 17, 18, 19, 20, 21, 22, 23, 24, 25, 26] .done) [5] [] hT hM rfl (by decide +kernel) ?_ ?_ | refine AWp.drawnA (id := 13) (.line [0, 2, 3, 4, 5, 6, 9, 11, 12, 13, 14, 16, 17, 18, 19, 1, 7, 8, 10, 15, 20, 21] .done) [] [] hT hM rfl (by decide +kernel) ?_ ?_ | refine runOps_step rfl ?_ | refine runOps_nil ?_ | refine runOps_guardQ rfl rfl ?_ | refine runCalm_step rfl ?_ | refine runCalm_nil ?_ | refine runCalm_guardQ rfl rfl ?_ | refine runAuto_nil ?_ | refine runAuto_calm rfl rfl ?_ | refine runAuto_eff rfl rfl ?_ | refine runAuto_calmGQ rfl rfl rfl ?_ | refine runAuto_effGQ rfl rfl rfl ?_ | refine RT.line ?_ | refine RT.alts ?_ ?_ | refine RT.done ?_ | apply RT.none | refine AWp.cond ?_ | refine AWp.skip ?_ | refine AWp.ret ?_ | refine AWp.exit ?_ | refine BodyPost.retA ?_ | refine BodyPost.norA ?_ | with_reducible refine Keep.mk ?_) | simp (disch := omega) only [wrap_i64, wrap_i32, Int.toNat_natCast, Int.emod_eq_of_lt, Int.emod_emod, gd, gdS]) <;> (try simp only [go_sem, *])) | (apply ACall.genB; (case' eS => first | apply rotC | apply mix_sum); (case eG => (simp only [go_sem, *]; first | with_reducible exact rfl | (repeat' first | with_reducible exact rfl | refine cons_eq ?_ ?_ | refine agg_eq ?_ | refine asl_eq ?_ ?_ | omega | (simp only [go_sem]; done) | (simp only [go_sem]; omega)))); all_goals (first | with_reducible refine Keep.mk ?_ | omega | assumption | decide | (simp; done) | (simp; omega))) | ((first | ((with_reducible refine And.intro (fun hg => ?_) (fun hg => ?_)) <;> ((try simp only [go_sem] at hg); (try ((have hT0 : True := hg); clear hT0 hg)); (try have hgN := Nat.not_lt.2 hg); (try have hgN := Int.not_lt.2 hg); (try (revert hg; intro _)); (try (exfalso; omega)))) | ((with_reducible refine And.intro (fun H' hS => ?_) ?_) <;> (try simp only [go_sem] at hS))) <;> (try simp only [go_sem, *])) | ((with_reducible refine opt_if (by omega) ?_); exact rfl) | ((with_reducible refine opt_opt_if (by omega) ?_); exact rfl) | ((first | (with_reducible refine And.intro (fun H' => ?_) ?_) | (with_reducible first | (intro H' hS; (try simp only [go_sem] at hS)) | intro _) | (with_reducible refine And.intro (by omega) ?_)) <;> (try simp only [go_sem, *])) | fail)
end Go.Proofs.YtkbmkgcenehenaaDoor
