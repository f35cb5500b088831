/- What is missing: what the functions of the program answer. -/
import Derived.Test.YthhjplnhmmhbbaaS4
set_option linter.unusedSimpArgs false
set_option linter.unusedVariables false
set_option maxHeartbeats 4000000
set_option maxRecDepth 100000
namespace Go.Proofs.Ythhjplnhmmhbbaa
open Go Hm Go.ChangeShapes Go.WideShapes Go.ChangeAt Go.RowKit
attribute [local go_sem] Int.reduceEq Int.reduceNe Int.reduceLT Int.reduceLE Int.reduceNeg Int.reduceToNat Int.reduceAdd Int.reduceSub Int.reduceMul Int.reducePow Int.reduceDiv Int.reduceMod ite_eq_left_iff ite_eq_right_iff imp_false Nat.reduceLT Nat.reduceEqDiff Nat.reduceAdd Nat.reduceSub Nat.reduceMul Nat.reduceLeDiff Nat.reduceBEq reduceIte
section
variable {P : Program} {G : Nat → Option (List PV)} {w0 w : World} {β : Nat → Nat} {s : St} {acts : List Act} {a : Act}
/-- A nil slice is a row without cells. -/
theorem sum_nilRef {f : FuncId} {args : List PV} {k : Nat} (h : Hm.Sum P G f args (Is (.pv .nil) [])) : Hm.Sum P G f args (Is (.nref 0 0 k) [.n []]) :=
  ⟨h.1, fun w vs a b c => (h.2 w vs a b c).mono fun e w' ⟨v, lv, H, β, h1, ⟨e1, e2⟩, hp, hl⟩ => by
    subst e1 e2
    cases hl with | pv hl =>
    cases hl
    have no : ∀ (i : Nat) (B : Blk), [Blk.n []][i]? = some B → B.live = true → False := fun i B h1 h2 => by
      match i, h1 with
      | 0, h1 => cases h1; cases h2
    exact ⟨_, .nref 0 0 k, [.n []], β, h1, ⟨rfl, rfl⟩, ⟨hp.below, fun i B h1 h2 => (no i B h1 h2).elim, fun i B h1 h2 => (no i B h1 h2).elim, fun i B h1 h2 => (no i B h1 h2).elim, fun i j B C h1 h2 => (no i B h1 h2).elim, fun i B h1 h2 => (no i B h1 h2).elim⟩, .nref0 _ _ _⟩⟩
theorem rel_dead (hr : Rel G w0 β s acts a w) {b : Nat} (hb : b < s.H.length) {D : Blk} (hD : D.live = false) : Rel G w0 β { s with H := s.H.set b D } acts a w := by
  have hok : ∀ f k, okOf w0 β s.H w f k → okOf w0 β (s.H.set b D) w f k := fun f k hk => ⟨hk.1, hk.2.1, fun i C hi hl => by
    rcases getElem?_set hb hi with ⟨rfl, rfl⟩ | ⟨_, h⟩
    · rw [hD] at hl; cases hl
    · exact hk.2.2 i C h hl⟩
  have hmono : ∀ lv v, LR β s.H.length w (okOf w0 β s.H w) lv v → LR β (s.H.set b D).length w (okOf w0 β (s.H.set b D) w) lv v := fun lv v h =>
    h.mono (by simp) (fun _ _ => rfl) (fun _ c _ fz h => ⟨c, fz, h, rfl⟩) (fun _ _ _ => rfl) hok
  refine hr.step (by simp) (fun _ _ => rfl) (Blw.refl _ _) (fun _ c _ fz h => ⟨c, fz, h, rfl⟩) (fun _ _ _ => rfl) hok ?_ ?_ ?_ ?_
  · intro i C hi hl
    rcases getElem?_set hb hi with ⟨rfl, rfl⟩ | ⟨_, h⟩
    · rw [hD] at hl; cases hl
    · exact hr.ge i C h hl
  · intro i C hi hl
    rcases getElem?_set hb hi with ⟨rfl, rfl⟩ | ⟨_, h⟩
    · rw [hD] at hl; cases hl
    · exact hr.lt i C h hl
  · intro i j C E hi hl hj hl' he
    rcases getElem?_set hb hi with ⟨rfl, rfl⟩ | ⟨_, h⟩
    · rw [hD] at hl; cases hl
    · rcases getElem?_set hb hj with ⟨rfl, rfl⟩ | ⟨_, h'⟩
      · rw [hD] at hl'; cases hl'
      · exact hr.inj i j C E h hl h' hl' he
  · intro i C hi hl
    rcases getElem?_set hb hi with ⟨rfl, rfl⟩ | ⟨_, h⟩
    · rw [hD] at hl; cases hl
    · exact (hr.blk i C h hl).trans rfl hmono
/-- Of a row's cells fewer are told. -/
theorem shrink_weak {b : Nat} {cs ds : List PV} (hb : s.H[b]? = some (.n (cs ++ ds))) : Weak G s { s with H := s.H.set b (.n cs) } := by
  intro w0 β acts a w hr
  have hlt : b < s.H.length := (List.getElem?_eq_some_iff.1 hb).1
  cases cs with
  | nil => exact ⟨β, rel_dead hr hlt rfl⟩
  | cons p r =>
    have h := hr.store (o := 0) (B' := .n (p :: r)) (vs := []) (lvs := []) hb rfl rfl rfl rfl (fun c E fz h => by
        obtain ⟨c2, E2, fz2, h6, _, h7, _⟩ := (hr.blk b _ hb rfl).row rfl
        rw [h6] at h
        simp only [Option.some.injEq, Obj.cells.injEq] at h
        obtain ⟨rfl, _, _⟩ := h
        refine Nat.le_trans ?_ h7
        show (p :: r).length ≤ (p :: r ++ ds).length
        rw [List.length_append]; omega) (fun i hi => by
        rw [if_neg (by simp)]
        show Option.map _ _ = Option.map _ _
        rw [List.getElem?_append_left hi]) (by simp) (by simp)
    exact ⟨β, h⟩
end
theorem outP_sum (L : List Int) (hl : L.length ≤ maxLen) (hL : ∀ i, i < L.length → 0 ≤ L.getD i 0 ∧ L.getD i 0 ≤ 8192) (p : Pc) : Sum Try.prog G 28 [.agg p.c, .ip true [.asl true (L.map (PV.int .i64)) L.length] 0] (Is (.pv (.bool (!decide (Win L p)))) []) := by
  have h := within_sum L hl hL p
  obtain ⟨m, o, r⟩ := p
  clear hL
  (refine Sum.uniW (Sum.body hT Try.func28 rfl rfl Try.ntmps28 Try.results28 (by simp) ?_); simp only [go_sem, *])
  (repeat' first | with_reducible refine RK.out ?_ | with_reducible refine RC.out ?_ | with_reducible refine RA.out ?_ | refine AWp.seqN ?_ | refine AWp.region hT rfl ?_ | refine AWp.block ?_ | refine AWp.calm hT hM rfl (by decide +kernel) ?_ | ((first | (first | refine runOps_step rfl ?_ | refine runOps_nil ?_ | refine runOps_guardQ rfl rfl ?_ | refine runCalm_step rfl ?_ | refine runCalm_nil ?_ | refine runCalm_guardQ rfl rfl ?_ | refine AWp.cond ?_ | refine AWp.skip ?_ | refine AWp.ret ?_ | refine AWp.exit ?_ | refine BodyPost.retA ?_ | refine BodyPost.norA ?_ | with_reducible refine Keep.mk ?_) | simp (disch := omega) only [wrap_i64, wrap_i32, Int.toNat_natCast, Int.emod_eq_of_lt, Int.emod_emod, gd, gdS]) <;> (try simp only [go_sem, *])) | (apply ACall.genB; (case' eS => apply h); (case eG => (simp only [go_sem, *]; first | with_reducible exact rfl | (repeat' first | with_reducible exact rfl | refine cons_eq ?_ ?_ | refine agg_eq ?_ | refine asl_eq ?_ ?_ | omega | (simp only [go_sem]; done) | (simp only [go_sem]; omega)))); all_goals (first | with_reducible refine Keep.mk ?_ | omega | assumption | decide | (simp; done) | (simp; omega))) | (apply ACall.genB; (case' eS => first | apply within_sum); (case eG => (simp only [go_sem, *]; first | with_reducible exact rfl | (repeat' first | with_reducible exact rfl | refine cons_eq ?_ ?_ | refine agg_eq ?_ | refine asl_eq ?_ ?_ | omega | (simp only [go_sem]; done) | (simp only [go_sem]; omega)))); all_goals (first | with_reducible refine Keep.mk ?_ | omega | assumption | decide | (simp; done) | (simp; omega))) | ((first | ((with_reducible refine And.intro (fun hg => ?_) (fun hg => ?_)) <;> ((try simp only [go_sem] at hg); (try ((have hT0 : True := hg); clear hT0 hg)); (try have hgN := Nat.not_lt.2 hg); (try have hgN := Int.not_lt.2 hg); (try (revert hg; intro _)); (try (exfalso; omega)))) | ((with_reducible refine And.intro (fun H' hS => ?_) ?_) <;> (try simp only [go_sem] at hS))) <;> (try simp only [go_sem, *])) | ((with_reducible refine opt_if (by omega) ?_); exact rfl) | ((with_reducible refine opt_opt_if (by omega) ?_); exact rfl) | ((first | (with_reducible refine And.intro (fun H' => ?_) ?_) | (with_reducible first | (intro H' hS; (try simp only [go_sem] at hS)) | intro _) | (with_reducible refine And.intro (by omega) ?_)) <;> (try simp only [go_sem, *])) | fail)
def outPs (L : List Int) (l : List Pc) : Prop := ∃ i, i < l.length ∧ ¬ Win L (l.getD i default)
noncomputable instance (L : List Int) (l : List Pc) : Decidable (outPs L l) := Classical.propDecidable _
noncomputable def outI (L : List Int) (l : List Pc) : Int := if l.findIdx (fun p => !decide (Win L p)) < l.length then l.findIdx (fun p => !decide (Win L p)) else -1
theorem outI_iff (L : List Int) (l : List Pc) : 0 ≤ outI L l ↔ outPs L l := by
  unfold outI outPs
  split
  · rename_i h
    refine ⟨fun _ => ⟨_, h, ?_⟩, fun _ => by omega⟩
    have := List.findIdx_getElem (w := h)
    rw [getD_get l _ h]
    simpa using this
  · rename_i h
    refine ⟨fun h => by omega, fun ⟨i, hi, hn⟩ => ?_⟩
    rw [getD_get l _ hi] at hn
    exact absurd (List.findIdx_lt_length_of_exists ⟨l[i], List.getElem_mem hi, by simpa using hn⟩) h
theorem indexOut_sum (L : List Int) (hL0 : L.length ≤ maxLen) (hL : ∀ i, i < L.length → 0 ≤ L.getD i 0 ∧ L.getD i 0 ≤ 8192) (l : List Pc) (hl : l.length ≤ 1000000) : Sum Try.prog G 36 [.asl true (l.flatMap Pc.c) l.length, .fn 28 [.ip true [.asl true (L.map (PV.int .i64)) L.length] 0]] (Is (.pv (.int .i64 (outI L l))) []) := by
  (refine Sum.uniW (Sum.body hT Try.func36 rfl rfl Try.ntmps36 Try.results36 (by simp) ?_); simp only [go_sem, *])
  (repeat' first | with_reducible refine RK.out ?_ | with_reducible refine RC.out ?_ | with_reducible refine RA.out ?_ | refine AWp.seqN ?_ | refine AWp.region hT rfl ?_ | refine AWp.block ?_ | refine AWp.calm hT hM rfl (by decide +kernel) ?_ | ((first | (first | refine runOps_step rfl ?_ | refine runOps_nil ?_ | refine runOps_guardQ rfl rfl ?_ | refine runCalm_step rfl ?_ | refine runCalm_nil ?_ | refine runCalm_guardQ rfl rfl ?_ | refine AWp.cond ?_ | refine AWp.skip ?_ | refine AWp.ret ?_ | refine AWp.exit ?_ | refine BodyPost.retA ?_ | refine BodyPost.norA ?_ | with_reducible refine Keep.mk ?_) | simp (disch := omega) only [wrap_i64, wrap_i32, Int.toNat_natCast, Int.emod_eq_of_lt, Int.emod_emod, gd, gdS]) <;> (try simp only [go_sem, *])) | ((first | ((with_reducible refine And.intro (fun hg => ?_) (fun hg => ?_)) <;> ((try simp only [go_sem] at hg); (try ((have hT0 : True := hg); clear hT0 hg)); (try have hgN := Nat.not_lt.2 hg); (try have hgN := Int.not_lt.2 hg); (try (revert hg; intro _)); (try (exfalso; omega)))) | ((with_reducible refine And.intro (fun H' hS => ?_) ?_) <;> (try simp only [go_sem] at hS))) <;> (try simp only [go_sem, *])) | ((with_reducible refine opt_if (by omega) ?_); exact rfl) | ((with_reducible refine opt_opt_if (by omega) ?_); exact rfl) | ((first | (with_reducible refine And.intro (fun H' => ?_) ?_) | (with_reducible first | (intro H' hS; (try simp only [go_sem] at hS)) | intro _) | (with_reducible refine And.intro (by omega) ?_)) <;> (try simp only [go_sem, *])) | fail)
  (focus (refine AWp.loopA [0, 1, 7, 8] (fun k : Nat => k ≤ l.length ∧ ∀ i, i < k → Win L (l.getD i default)) (fun k => l.length - k) (fun k => [(8, .pv (.int .i64 k))]) (fun _ => []) (0) ?_; simp only [go_sem, *]; apply HeadA.mk; (case' hE => ((try simp only [go_sem, *]); (repeat' first | with_reducible rfl | omega | with_reducible refine St_eq ?_ ?_ | with_reducible refine fr_eq ?_ ?_ | with_reducible refine hb_eq ?_ ?_ | with_reducible refine pv_eq ?_ | with_reducible refine ref_eq ?_ ?_ ?_ ?_ | with_reducible refine nref_eq ?_ ?_ ?_ | with_reducible refine blkp_eq ?_ | with_reducible refine blkn_eq ?_ | with_reducible refine int_eq ?_ | with_reducible refine cons_eq ?_ ?_ | with_reducible refine agg_eq ?_ | with_reducible refine asl_eq ?_ ?_); all_goals (try rfl))); (case' hJ => (try (first | omega | (simp; done) | (simp; omega) | exact ⟨by omega, fun i h => by omega⟩ | exact fun i h => by omega | (refine ⟨?_, ?_⟩ <;> first | omega | (simp; done)) | (refine ⟨?_, ?_, ?_⟩ <;> first | omega | (simp; done)))))))
  rintro k ⟨hk, hi⟩
  by_cases hk' : k < l.length
  · have ho := outP_sum L hL0 hL (l.getD k default)
    have ec : (l.getD k default).c = [.int .i64 (l.getD k default).mem, .int .i64 (l.getD k default).off, .int .i64 (l.getD k default).raw] := rfl
    rw [ec] at ho
    by_cases hw : Win L (l.getD k default)
    · rw [decide_eq_true hw, Bool.not_true] at ho
      clear hL ec
      (repeat' first | with_reducible refine RK.out ?_ | with_reducible refine RC.out ?_ | with_reducible refine RA.out ?_ | refine AWp.seqN ?_ | refine AWp.region hT rfl ?_ | refine AWp.block ?_ | refine AWp.calm hT hM rfl (by decide +kernel) ?_ | ((first | (first | refine runOps_step rfl ?_ | refine runOps_nil ?_ | refine runOps_guardQ rfl rfl ?_ | refine runCalm_step rfl ?_ | refine runCalm_nil ?_ | refine runCalm_guardQ rfl rfl ?_ | refine AWp.cond ?_ | refine AWp.skip ?_ | refine AWp.ret ?_ | refine AWp.exit ?_ | refine BodyPost.retA ?_ | refine BodyPost.norA ?_ | with_reducible refine Keep.mk ?_) | simp (disch := omega) only [wrap_i64, wrap_i32, Int.toNat_natCast, Int.emod_eq_of_lt, Int.emod_emod, gd, gdS]) <;> (try simp only [go_sem, *])) | (apply ACall.genB; (case' eS => apply ho); (case eG => (simp only [go_sem, *]; first | with_reducible exact rfl | (repeat' first | with_reducible exact rfl | refine cons_eq ?_ ?_ | refine agg_eq ?_ | refine asl_eq ?_ ?_ | omega | (simp only [go_sem]; done) | (simp only [go_sem]; omega)))); all_goals (first | with_reducible refine Keep.mk ?_ | omega | assumption | decide | (simp; done) | (simp; omega))) | ((first | ((with_reducible refine And.intro (fun hg => ?_) (fun hg => ?_)) <;> ((try simp only [go_sem] at hg); (try ((have hT0 : True := hg); clear hT0 hg)); (try have hgN := Nat.not_lt.2 hg); (try have hgN := Int.not_lt.2 hg); (try (revert hg; intro _)); (try (exfalso; omega)))) | ((with_reducible refine And.intro (fun H' hS => ?_) ?_) <;> (try simp only [go_sem] at hS))) <;> (try simp only [go_sem, *])) | ((with_reducible refine opt_if (by omega) ?_); exact rfl) | ((with_reducible refine opt_opt_if (by omega) ?_); exact rfl) | ((first | (with_reducible refine And.intro (fun H' => ?_) ?_) | (with_reducible first | (intro H' hS; (try simp only [go_sem] at hS)) | intro _) | (with_reducible refine And.intro (by omega) ?_)) <;> (try simp only [go_sem, *])) | fail)
      (focus (apply RoundA.mk (k + 1); (case' hE => (first | (simp only [go_sem, *]; (repeat' first | with_reducible rfl | omega | with_reducible refine St_eq ?_ ?_ | with_reducible refine fr_eq ?_ ?_ | with_reducible refine hb_eq ?_ ?_ | with_reducible refine pv_eq ?_ | with_reducible refine ref_eq ?_ ?_ ?_ ?_ | with_reducible refine nref_eq ?_ ?_ ?_ | with_reducible refine blkp_eq ?_ | with_reducible refine blkn_eq ?_ | with_reducible refine int_eq ?_ | with_reducible refine cons_eq ?_ ?_ | with_reducible refine agg_eq ?_ | with_reducible refine asl_eq ?_ ?_)) | skip)); (case' hM => (first | omega | (simp only; omega) | skip)); (case' hJ => (try (first | omega | (simp only; omega) | (simp; done) | (simp; omega) | (simp [*]; done) | (simp [*]; omega))))))
      exact ⟨by omega, all_succ hi hw⟩
    · rw [decide_eq_false hw, Bool.not_false] at ho
      have : l.findIdx (fun p => !decide (Win L p)) = k := by
        rw [List.findIdx_eq hk']
        refine ⟨?_, fun j hj => ?_⟩
        · rw [← getD_get l default hk']; simpa using hw
        · have := hi j hj
          rw [getD_get l default (by omega)] at this
          simpa using this
      have e : outI L l = k := by unfold outI; rw [this, if_pos hk']
      rw [e]
      clear hL ec this e hi
      (repeat' first | with_reducible refine RK.out ?_ | with_reducible refine RC.out ?_ | with_reducible refine RA.out ?_ | refine AWp.seqN ?_ | refine AWp.region hT rfl ?_ | refine AWp.block ?_ | refine AWp.calm hT hM rfl (by decide +kernel) ?_ | ((first | (first | refine runOps_step rfl ?_ | refine runOps_nil ?_ | refine runOps_guardQ rfl rfl ?_ | refine runCalm_step rfl ?_ | refine runCalm_nil ?_ | refine runCalm_guardQ rfl rfl ?_ | refine AWp.cond ?_ | refine AWp.skip ?_ | refine AWp.ret ?_ | refine AWp.exit ?_ | refine BodyPost.retA ?_ | refine BodyPost.norA ?_ | with_reducible refine Keep.mk ?_) | simp (disch := omega) only [wrap_i64, wrap_i32, Int.toNat_natCast, Int.emod_eq_of_lt, Int.emod_emod, gd, gdS]) <;> (try simp only [go_sem, *])) | (apply ACall.genB; (case' eS => apply ho); (case eG => (simp only [go_sem, *]; first | with_reducible exact rfl | (repeat' first | with_reducible exact rfl | refine cons_eq ?_ ?_ | refine agg_eq ?_ | refine asl_eq ?_ ?_ | omega | (simp only [go_sem]; done) | (simp only [go_sem]; omega)))); all_goals (first | with_reducible refine Keep.mk ?_ | omega | assumption | decide | (simp; done) | (simp; omega))) | ((first | ((with_reducible refine And.intro (fun hg => ?_) (fun hg => ?_)) <;> ((try simp only [go_sem] at hg); (try ((have hT0 : True := hg); clear hT0 hg)); (try have hgN := Nat.not_lt.2 hg); (try have hgN := Int.not_lt.2 hg); (try (revert hg; intro _)); (try (exfalso; omega)))) | ((with_reducible refine And.intro (fun H' hS => ?_) ?_) <;> (try simp only [go_sem] at hS))) <;> (try simp only [go_sem, *])) | ((with_reducible refine opt_if (by omega) ?_); exact rfl) | ((with_reducible refine opt_opt_if (by omega) ?_); exact rfl) | ((first | (with_reducible refine And.intro (fun H' => ?_) ?_) | (with_reducible first | (intro H' hS; (try simp only [go_sem] at hS)) | intro _) | (with_reducible refine And.intro (by omega) ?_)) <;> (try simp only [go_sem, *])) | fail)
  · obtain rfl : k = l.length := by omega
    have e : outI L l = -1 := by
      unfold outI
      rw [if_neg]
      intro h
      have h2 := List.findIdx_getElem (w := h)
      have h3 := hi _ h
      rw [getD_get l _ h] at h3
      simp at h2
      exact h2 h3
    rw [e]
    clear hL hi e
    (repeat' first | with_reducible refine RK.out ?_ | with_reducible refine RC.out ?_ | with_reducible refine RA.out ?_ | refine AWp.seqN ?_ | refine AWp.region hT rfl ?_ | refine AWp.block ?_ | refine AWp.calm hT hM rfl (by decide +kernel) ?_ | ((first | (first | refine runOps_step rfl ?_ | refine runOps_nil ?_ | refine runOps_guardQ rfl rfl ?_ | refine runCalm_step rfl ?_ | refine runCalm_nil ?_ | refine runCalm_guardQ rfl rfl ?_ | refine AWp.cond ?_ | refine AWp.skip ?_ | refine AWp.ret ?_ | refine AWp.exit ?_ | refine BodyPost.retA ?_ | refine BodyPost.norA ?_ | with_reducible refine Keep.mk ?_) | simp (disch := omega) only [wrap_i64, wrap_i32, Int.toNat_natCast, Int.emod_eq_of_lt, Int.emod_emod, gd, gdS]) <;> (try simp only [go_sem, *])) | ((first | ((with_reducible refine And.intro (fun hg => ?_) (fun hg => ?_)) <;> ((try simp only [go_sem] at hg); (try ((have hT0 : True := hg); clear hT0 hg)); (try have hgN := Nat.not_lt.2 hg); (try have hgN := Int.not_lt.2 hg); (try (revert hg; intro _)); (try (exfalso; omega)))) | ((with_reducible refine And.intro (fun H' hS => ?_) ?_) <;> (try simp only [go_sem] at hS))) <;> (try simp only [go_sem, *])) | ((with_reducible refine opt_if (by omega) ?_); exact rfl) | ((with_reducible refine opt_opt_if (by omega) ?_); exact rfl) | ((first | (with_reducible refine And.intro (fun H' => ?_) ?_) | (with_reducible first | (intro H' hS; (try simp only [go_sem] at hS)) | intro _) | (with_reducible refine And.intro (by omega) ?_)) <;> (try simp only [go_sem, *])) | fail)
theorem containsOut_sum (L : List Int) (hL0 : L.length ≤ maxLen) (hL : ∀ i, i < L.length → 0 ≤ L.getD i 0 ∧ L.getD i 0 ≤ 8192) (l : List Pc) (hl : l.length ≤ 1000000) : Sum Try.prog G 27 [.asl true (l.flatMap Pc.c) l.length, .fn 28 [.ip true [.asl true (L.map (PV.int .i64)) L.length] 0]] (Is (.pv (.bool (decide (outPs L l)))) []) := by
  have h := indexOut_sum L hL0 hL l hl
  clear hL
  (refine Sum.uniW (Sum.body hT Try.func27 rfl rfl Try.ntmps27 Try.results27 (by simp) ?_); simp only [go_sem, *])
  (repeat' first | with_reducible refine RK.out ?_ | with_reducible refine RC.out ?_ | with_reducible refine RA.out ?_ | refine AWp.seqN ?_ | refine AWp.region hT rfl ?_ | refine AWp.block ?_ | refine AWp.calm hT hM rfl (by decide +kernel) ?_ | ((first | (first | refine runOps_step rfl ?_ | refine runOps_nil ?_ | refine runOps_guardQ rfl rfl ?_ | refine runCalm_step rfl ?_ | refine runCalm_nil ?_ | refine runCalm_guardQ rfl rfl ?_ | refine AWp.cond ?_ | refine AWp.skip ?_ | refine AWp.ret ?_ | refine AWp.exit ?_ | refine BodyPost.retA ?_ | refine BodyPost.norA ?_ | with_reducible refine Keep.mk ?_) | simp (disch := omega) only [wrap_i64, wrap_i32, Int.toNat_natCast, Int.emod_eq_of_lt, Int.emod_emod, gd, gdS]) <;> (try simp only [go_sem, *])) | (apply ACall.genB; (case' eS => apply h); (case eG => (simp only [go_sem, *]; first | with_reducible exact rfl | (repeat' first | with_reducible exact rfl | refine cons_eq ?_ ?_ | refine agg_eq ?_ | refine asl_eq ?_ ?_ | omega | (simp only [go_sem]; done) | (simp only [go_sem]; omega)))); all_goals (first | with_reducible refine Keep.mk ?_ | omega | assumption | decide | (simp; done) | (simp; omega))) | (apply ACall.genB; (case' eS => first | apply indexOut_sum); (case eG => (simp only [go_sem, *]; first | with_reducible exact rfl | (repeat' first | with_reducible exact rfl | refine cons_eq ?_ ?_ | refine agg_eq ?_ | refine asl_eq ?_ ?_ | omega | (simp only [go_sem]; done) | (simp only [go_sem]; omega)))); all_goals (first | with_reducible refine Keep.mk ?_ | omega | assumption | decide | (simp; done) | (simp; omega))) | ((first | ((with_reducible refine And.intro (fun hg => ?_) (fun hg => ?_)) <;> ((try simp only [go_sem] at hg); (try ((have hT0 : True := hg); clear hT0 hg)); (try have hgN := Nat.not_lt.2 hg); (try have hgN := Int.not_lt.2 hg); (try (revert hg; intro _)); (try (exfalso; omega)))) | ((with_reducible refine And.intro (fun H' hS => ?_) ?_) <;> (try simp only [go_sem] at hS))) <;> (try simp only [go_sem, *])) | ((with_reducible refine opt_if (by omega) ?_); exact rfl) | ((with_reducible refine opt_opt_if (by omega) ?_); exact rfl) | ((first | (with_reducible refine And.intro (fun H' => ?_) ?_) | (with_reducible first | (intro H' hS; (try simp only [go_sem] at hS)) | intro _) | (with_reducible refine And.intro (by omega) ?_)) <;> (try simp only [go_sem, *])) | fail)
  exact bool_iff (outI_iff L l)
theorem cloneP_ref (l : List Pc) (hl : l.length ≤ 1000000) : Sum Try.prog G 37 [.asl true (l.flatMap Pc.c) l.length] (Is (.nref 0 l.length 3) [.n (l.flatMap Pc.c)]) := by
  refine Sum.asl [] (fun h0 => ?_) ?_
  · have : l = [] := List.eq_nil_of_length_eq_zero h0
    subst this
    refine sum_nilRef ?_
    refine Sum.body hT Try.func37 rfl rfl Try.ntmps37 Try.results37 (by simp) ?_
    simp only [go_sem, *]
    (repeat' first | with_reducible refine RK.out ?_ | with_reducible refine RC.out ?_ | with_reducible refine RA.out ?_ | refine AWp.seqN ?_ | refine AWp.region hT rfl ?_ | refine AWp.block ?_ | refine AWp.calm hT hM rfl (by decide +kernel) ?_ | ((first | (first | refine runOps_step rfl ?_ | refine runOps_nil ?_ | refine runOps_guardQ rfl rfl ?_ | refine runCalm_step rfl ?_ | refine runCalm_nil ?_ | refine runCalm_guardQ rfl rfl ?_ | refine AWp.cond ?_ | refine AWp.skip ?_ | refine AWp.ret ?_ | refine AWp.exit ?_ | refine BodyPost.retA ?_ | refine BodyPost.norA ?_ | with_reducible refine Keep.mk ?_) | simp (disch := omega) only [wrap_i64, wrap_i32, Int.toNat_natCast, Int.emod_eq_of_lt, Int.emod_emod, gd, gdS]) <;> (try simp only [go_sem, *])) | ((first | ((with_reducible refine And.intro (fun hg => ?_) (fun hg => ?_)) <;> ((try simp only [go_sem] at hg); (try ((have hT0 : True := hg); clear hT0 hg)); (try have hgN := Nat.not_lt.2 hg); (try have hgN := Int.not_lt.2 hg); (try (revert hg; intro _)); (try (exfalso; omega)))) | ((with_reducible refine And.intro (fun H' hS => ?_) ?_) <;> (try simp only [go_sem] at hS))) <;> (try simp only [go_sem, *])) | ((with_reducible refine opt_if (by omega) ?_); exact rfl) | ((with_reducible refine opt_opt_if (by omega) ?_); exact rfl) | ((first | (with_reducible refine And.intro (fun H' => ?_) ?_) | (with_reducible first | (intro H' hS; (try simp only [go_sem] at hS)) | intro _) | (with_reducible refine And.intro (by omega) ?_)) <;> (try simp only [go_sem, *])) | fail)
  · refine Sum.body hT Try.func37 rfl rfl Try.ntmps37 Try.results37 (by simp) ?_
    simp only [go_sem, *]
    (repeat' first | with_reducible refine RK.out ?_ | with_reducible refine RC.out ?_ | with_reducible refine RA.out ?_ | refine AWp.seqN ?_ | refine AWp.region hT rfl ?_ | refine AWp.block ?_ | refine AWp.calm hT hM rfl (by decide +kernel) ?_ | ((first | (first | refine runOps_step rfl ?_ | refine runOps_nil ?_ | refine runOps_guardQ rfl rfl ?_ | refine runCalm_step rfl ?_ | refine runCalm_nil ?_ | refine runCalm_guardQ rfl rfl ?_ | refine AWp.cond ?_ | refine AWp.skip ?_ | refine AWp.ret ?_ | refine AWp.exit ?_ | refine BodyPost.retA ?_ | refine BodyPost.norA ?_ | with_reducible refine Keep.mk ?_) | simp (disch := omega) only [wrap_i64, wrap_i32, Int.toNat_natCast, Int.emod_eq_of_lt, Int.emod_emod, gd, gdS]) <;> (try simp only [go_sem, *])) | ((first | ((with_reducible refine And.intro (fun hg => ?_) (fun hg => ?_)) <;> ((try simp only [go_sem] at hg); (try ((have hT0 : True := hg); clear hT0 hg)); (try have hgN := Nat.not_lt.2 hg); (try have hgN := Int.not_lt.2 hg); (try (revert hg; intro _)); (try (exfalso; omega)))) | ((with_reducible refine And.intro (fun H' hS => ?_) ?_) <;> (try simp only [go_sem] at hS))) <;> (try simp only [go_sem, *])) | ((with_reducible refine opt_if (by omega) ?_); exact rfl) | ((with_reducible refine opt_opt_if (by omega) ?_); exact rfl) | ((first | (with_reducible refine And.intro (fun H' => ?_) ?_) | (with_reducible first | (intro H' hS; (try simp only [go_sem] at hS)) | intro _) | (with_reducible refine And.intro (by omega) ?_)) <;> (try simp only [go_sem, *])) | fail)
end Go.Proofs.Ythhjplnhmmhbbaa
