/- Filters: what counted, spelled of the reference and spell of the program answer. -/
import Derived.Test.YtflmhccniamkeaaF4
set_option linter.unusedSimpArgs false
set_option linter.unusedVariables false
set_option maxHeartbeats 4000000
set_option maxRecDepth 100000
namespace Go.Proofs.Ytflmhccniamkeaa
open Go Hm Go.ChangeShapes Go.WideShapes Go.ChangeAt Go.RowKit
attribute [local go_sem] Int.reduceEq Int.reduceNe Int.reduceLT Int.reduceLE Int.reduceNeg Int.reduceToNat Int.reduceAdd Int.reduceSub Int.reduceMul Int.reducePow Int.reduceDiv Int.reduceMod ite_eq_left_iff ite_eq_right_iff imp_false Nat.reduceLT Nat.reduceEqDiff Nat.reduceAdd Nat.reduceSub Nat.reduceMul Nat.reduceLeDiff Nat.reduceBEq reduceIte
theorem counted_sum (b : List Int) (hl : b.length ≤ 20000) : Sum Try.prog G 40 [byt b] (Is (.pv (.asl false ((cnt b).map (PV.int .u8)) (cnt b).length)) []) := by
  have hcl := cnt_len b
  (refine Sum.uniW (Sum.body hT Try.func40 rfl rfl Try.ntmps40 Try.results40 (by simp) ?_); simp only [go_sem, *])
  (repeat' first | with_reducible refine RK.out ?_ | with_reducible refine RC.out ?_ | with_reducible refine RA.out ?_ | refine AWp.seqN ?_ | refine AWp.region hT rfl ?_ | refine AWp.block ?_ | refine AWp.calm hT hM rfl (by decide +kernel) ?_ | ((first | (first | refine runOps_step rfl ?_ | refine runOps_nil ?_ | refine runOps_guardQ rfl rfl ?_ | refine runCalm_step rfl ?_ | refine runCalm_nil ?_ | refine runCalm_guardQ rfl rfl ?_ | refine AWp.cond ?_ | refine AWp.skip ?_ | refine AWp.ret ?_ | refine AWp.exit ?_ | refine BodyPost.retA ?_ | refine BodyPost.norA ?_ | with_reducible refine Keep.mk ?_) | simp (disch := omega) only [wrap_i64, wrap_i32, Int.toNat_natCast, Int.emod_eq_of_lt, Int.emod_emod, gd, gdS]) <;> (try simp only [go_sem, *])) | (apply ACall.genB; (case' eS => first | apply length_sum); (case eG => (simp only [go_sem, *]; first | with_reducible exact rfl | (repeat' first | with_reducible exact rfl | refine cons_eq ?_ ?_ | refine agg_eq ?_ | refine asl_eq ?_ ?_ | omega | (simp only [go_sem]; done) | (simp only [go_sem]; omega)))); all_goals (first | with_reducible refine Keep.mk ?_ | omega | assumption | decide | (simp; done) | (simp; omega))) | ((first | ((with_reducible refine And.intro (fun hg => ?_) (fun hg => ?_)) <;> ((try simp only [go_sem] at hg); (try ((have hT0 : True := hg); clear hT0 hg)); (try have hgN := Nat.not_lt.2 hg); (try have hgN := Int.not_lt.2 hg); (try (revert hg; intro _)); (try (exfalso; omega)))) | ((with_reducible refine And.intro (fun H' hS => ?_) ?_) <;> (try simp only [go_sem] at hS))) <;> (try simp only [go_sem, *])) | ((with_reducible refine opt_if (by omega) ?_); exact rfl) | ((with_reducible refine opt_opt_if (by omega) ?_); exact rfl) | ((first | (with_reducible refine And.intro (fun H' => ?_) ?_) | (with_reducible first | (intro H' hS; (try simp only [go_sem] at hS)) | intro _) | (with_reducible refine And.intro (by omega) ?_)) <;> (try simp only [go_sem, *])) | fail)
  (focus (refine AWp.weak (St.nilRef_weak (t := 3) (esz := 1) (by first | rfl | simp only [go_sem])) ?_; simp only [go_sem, *]; refine AWp.loopA [0, 3, 4] (fun x : Nat × List Int => x.1 ≤ b.length ∧ x.2 ++ cnt (b.drop x.1) = cnt b) (fun x => b.length - x.1) (fun x => [(3, .nref 0 x.2.length 1), (4, .pv (.int .i64 x.1))]) (fun x => [(0, .n (x.2.map (PV.int .u8)))]) ((0, [])) ?_; simp only [go_sem, *]; apply HeadA.mk; (case' hE => ((try simp only [go_sem, *]); (repeat' first | with_reducible rfl | omega | with_reducible refine St_eq ?_ ?_ | with_reducible refine fr_eq ?_ ?_ | with_reducible refine hb_eq ?_ ?_ | with_reducible refine pv_eq ?_ | with_reducible refine ref_eq ?_ ?_ ?_ ?_ | with_reducible refine nref_eq ?_ ?_ ?_ | with_reducible refine blkp_eq ?_ | with_reducible refine blkn_eq ?_ | with_reducible refine int_eq ?_ | with_reducible refine cons_eq ?_ ?_ | with_reducible refine agg_eq ?_ | with_reducible refine asl_eq ?_ ?_); all_goals (try rfl))); (case' hJ => (try (first | omega | (simp; done) | (simp; omega) | exact ⟨by omega, fun i h => by omega⟩ | exact fun i h => by omega | (refine ⟨?_, ?_⟩ <;> first | omega | (simp; done)) | (refine ⟨?_, ?_, ?_⟩ <;> first | omega | (simp; done)))))))
  rintro ⟨p, acc⟩ ⟨hc, he⟩
  simp only at hc he
  by_cases h0 : p < b.length
  · obtain ⟨N, hN⟩ := run_ex b p h0
    have hcn := hN.cnt
    have hln := length_sum b (by omega) p N hN
    obtain ⟨n1, n2, n3, n4, n5⟩ := hN
    have hal : acc.length ≤ 30000 := by
      have := congrArg List.length he
      rw [List.length_append] at this
      omega
    have hadd : acc ++ enc (b.getD p 0) N ++ cnt (b.drop (p + N)) = cnt b := by rw [List.append_assoc, ← hcn]; exact he
    by_cases h3 : N = 1
    · subst h3
      rw [enc_one] at hadd
      (repeat' first | with_reducible refine RK.out ?_ | with_reducible refine RC.out ?_ | with_reducible refine RA.out ?_ | refine AWp.seqN ?_ | refine AWp.region hT rfl ?_ | refine AWp.block ?_ | refine AWp.calm hT hM rfl (by decide +kernel) ?_ | ((first | (first | refine runOps_step rfl ?_ | refine runOps_nil ?_ | refine runOps_guardQ rfl rfl ?_ | refine runCalm_step rfl ?_ | refine runCalm_nil ?_ | refine runCalm_guardQ rfl rfl ?_ | refine AWp.cond ?_ | refine AWp.skip ?_ | refine AWp.ret ?_ | refine AWp.exit ?_ | refine BodyPost.retA ?_ | refine BodyPost.norA ?_ | with_reducible refine Keep.mk ?_) | simp (disch := omega) only [wrap_i64, wrap_i32, Int.toNat_natCast, Int.emod_eq_of_lt, Int.emod_emod, gd, gdS]) <;> (try simp only [go_sem, *])) | (apply ACall.genB; (case' eS => apply hln); (case eG => (simp only [go_sem, *]; first | with_reducible exact rfl | (repeat' first | with_reducible exact rfl | refine cons_eq ?_ ?_ | refine agg_eq ?_ | refine asl_eq ?_ ?_ | omega | (simp only [go_sem]; done) | (simp only [go_sem]; omega)))); all_goals (first | with_reducible refine Keep.mk ?_ | omega | assumption | decide | (simp; done) | (simp; omega))) | (apply ACall.genB; (case' eS => first | apply length_sum); (case eG => (simp only [go_sem, *]; first | with_reducible exact rfl | (repeat' first | with_reducible exact rfl | refine cons_eq ?_ ?_ | refine agg_eq ?_ | refine asl_eq ?_ ?_ | omega | (simp only [go_sem]; done) | (simp only [go_sem]; omega)))); all_goals (first | with_reducible refine Keep.mk ?_ | omega | assumption | decide | (simp; done) | (simp; omega))) | ((first | ((with_reducible refine And.intro (fun hg => ?_) (fun hg => ?_)) <;> ((try simp only [go_sem] at hg); (try ((have hT0 : True := hg); clear hT0 hg)); (try have hgN := Nat.not_lt.2 hg); (try have hgN := Int.not_lt.2 hg); (try (revert hg; intro _)); (try (exfalso; omega)))) | ((with_reducible refine And.intro (fun H' hS => ?_) ?_) <;> (try simp only [go_sem] at hS))) <;> (try simp only [go_sem, *])) | ((with_reducible refine opt_if (by omega) ?_); exact rfl) | ((with_reducible refine opt_opt_if (by omega) ?_); exact rfl) | ((first | (with_reducible refine And.intro (fun H' => ?_) ?_) | (with_reducible first | (intro H' hS; (try simp only [go_sem] at hS)) | intro _) | (with_reducible refine And.intro (by omega) ?_)) <;> (try simp only [go_sem, *])) | fail)
      all_goals
        (focus (apply RoundA.mk ((p + 1, acc ++ [b.getD p 0])); (case' hE => (first | (simp only [go_sem, *]; (repeat' first | with_reducible rfl | omega | with_reducible refine St_eq ?_ ?_ | with_reducible refine fr_eq ?_ ?_ | with_reducible refine hb_eq ?_ ?_ | with_reducible refine pv_eq ?_ | with_reducible refine ref_eq ?_ ?_ ?_ ?_ | with_reducible refine nref_eq ?_ ?_ ?_ | with_reducible refine blkp_eq ?_ | with_reducible refine blkn_eq ?_ | with_reducible refine int_eq ?_ | with_reducible refine cons_eq ?_ ?_ | with_reducible refine agg_eq ?_ | with_reducible refine asl_eq ?_ ?_)) | skip)); (case' hM => (first | omega | (simp only; omega) | skip)); (case' hJ => (try (first | omega | (simp only; omega) | (simp; done) | (simp; omega) | (simp [*]; done) | (simp [*]; omega))))))
        all_goals first | (simp; done) | (simp; omega) | exact ⟨by omega, hadd⟩
    · rw [enc_more h3] at hadd
      (repeat' first | with_reducible refine RK.out ?_ | with_reducible refine RC.out ?_ | with_reducible refine RA.out ?_ | refine AWp.seqN ?_ | refine AWp.region hT rfl ?_ | refine AWp.block ?_ | refine AWp.calm hT hM rfl (by decide +kernel) ?_ | ((first | (first | refine runOps_step rfl ?_ | refine runOps_nil ?_ | refine runOps_guardQ rfl rfl ?_ | refine runCalm_step rfl ?_ | refine runCalm_nil ?_ | refine runCalm_guardQ rfl rfl ?_ | refine AWp.cond ?_ | refine AWp.skip ?_ | refine AWp.ret ?_ | refine AWp.exit ?_ | refine BodyPost.retA ?_ | refine BodyPost.norA ?_ | with_reducible refine Keep.mk ?_) | simp (disch := omega) only [wrap_i64, wrap_i32, Int.toNat_natCast, Int.emod_eq_of_lt, Int.emod_emod, gd, gdS]) <;> (try simp only [go_sem, *])) | (apply ACall.genB; (case' eS => apply hln); (case eG => (simp only [go_sem, *]; first | with_reducible exact rfl | (repeat' first | with_reducible exact rfl | refine cons_eq ?_ ?_ | refine agg_eq ?_ | refine asl_eq ?_ ?_ | omega | (simp only [go_sem]; done) | (simp only [go_sem]; omega)))); all_goals (first | with_reducible refine Keep.mk ?_ | omega | assumption | decide | (simp; done) | (simp; omega))) | (apply ACall.genB; (case' eS => first | apply length_sum); (case eG => (simp only [go_sem, *]; first | with_reducible exact rfl | (repeat' first | with_reducible exact rfl | refine cons_eq ?_ ?_ | refine agg_eq ?_ | refine asl_eq ?_ ?_ | omega | (simp only [go_sem]; done) | (simp only [go_sem]; omega)))); all_goals (first | with_reducible refine Keep.mk ?_ | omega | assumption | decide | (simp; done) | (simp; omega))) | ((first | ((with_reducible refine And.intro (fun hg => ?_) (fun hg => ?_)) <;> ((try simp only [go_sem] at hg); (try ((have hT0 : True := hg); clear hT0 hg)); (try have hgN := Nat.not_lt.2 hg); (try have hgN := Int.not_lt.2 hg); (try (revert hg; intro _)); (try (exfalso; omega)))) | ((with_reducible refine And.intro (fun H' hS => ?_) ?_) <;> (try simp only [go_sem] at hS))) <;> (try simp only [go_sem, *])) | ((with_reducible refine opt_if (by omega) ?_); exact rfl) | ((with_reducible refine opt_opt_if (by omega) ?_); exact rfl) | ((first | (with_reducible refine And.intro (fun H' => ?_) ?_) | (with_reducible first | (intro H' hS; (try simp only [go_sem] at hS)) | intro _) | (with_reducible refine And.intro (by omega) ?_)) <;> (try simp only [go_sem, *])) | fail)
      all_goals
        (focus (apply RoundA.mk ((p + N, acc ++ [b.getD p 0, b.getD p 0, (N : Int) - 2])); (case' hE => (first | (simp only [go_sem, *]; (repeat' first | with_reducible rfl | omega | with_reducible refine St_eq ?_ ?_ | with_reducible refine fr_eq ?_ ?_ | with_reducible refine hb_eq ?_ ?_ | with_reducible refine pv_eq ?_ | with_reducible refine ref_eq ?_ ?_ ?_ ?_ | with_reducible refine nref_eq ?_ ?_ ?_ | with_reducible refine blkp_eq ?_ | with_reducible refine blkn_eq ?_ | with_reducible refine int_eq ?_ | with_reducible refine cons_eq ?_ ?_ | with_reducible refine agg_eq ?_ | with_reducible refine asl_eq ?_ ?_)) | skip)); (case' hM => (first | omega | (simp only; omega) | skip)); (case' hJ => (try (first | omega | (simp only; omega) | (simp; done) | (simp; omega) | (simp [*]; done) | (simp [*]; omega))))))
        all_goals first | (simp; done) | (simp; omega) | exact ⟨by omega, hadd⟩
  · have hd : b.drop p = [] := List.drop_eq_nil_of_le (by omega)
    rw [hd] at he
    have e : acc = cnt b := by simpa [cnt] using he
    (repeat' first | with_reducible refine RK.out ?_ | with_reducible refine RC.out ?_ | with_reducible refine RA.out ?_ | refine AWp.seqN ?_ | refine AWp.region hT rfl ?_ | refine AWp.block ?_ | refine AWp.calm hT hM rfl (by decide +kernel) ?_ | ((first | (first | refine runOps_step rfl ?_ | refine runOps_nil ?_ | refine runOps_guardQ rfl rfl ?_ | refine runCalm_step rfl ?_ | refine runCalm_nil ?_ | refine runCalm_guardQ rfl rfl ?_ | refine AWp.cond ?_ | refine AWp.skip ?_ | refine AWp.ret ?_ | refine AWp.exit ?_ | refine BodyPost.retA ?_ | refine BodyPost.norA ?_ | with_reducible refine Keep.mk ?_) | simp (disch := omega) only [wrap_i64, wrap_i32, Int.toNat_natCast, Int.emod_eq_of_lt, Int.emod_emod, gd, gdS]) <;> (try simp only [go_sem, *])) | (apply ACall.genB; (case' eS => first | apply length_sum); (case eG => (simp only [go_sem, *]; first | with_reducible exact rfl | (repeat' first | with_reducible exact rfl | refine cons_eq ?_ ?_ | refine agg_eq ?_ | refine asl_eq ?_ ?_ | omega | (simp only [go_sem]; done) | (simp only [go_sem]; omega)))); all_goals (first | with_reducible refine Keep.mk ?_ | omega | assumption | decide | (simp; done) | (simp; omega))) | ((first | ((with_reducible refine And.intro (fun hg => ?_) (fun hg => ?_)) <;> ((try simp only [go_sem] at hg); (try ((have hT0 : True := hg); clear hT0 hg)); (try have hgN := Nat.not_lt.2 hg); (try have hgN := Int.not_lt.2 hg); (try (revert hg; intro _)); (try (exfalso; omega)))) | ((with_reducible refine And.intro (fun H' hS => ?_) ?_) <;> (try simp only [go_sem] at hS))) <;> (try simp only [go_sem, *])) | ((with_reducible refine opt_if (by omega) ?_); exact rfl) | ((with_reducible refine opt_opt_if (by omega) ?_); exact rfl) | ((first | (with_reducible refine And.intro (fun H' => ?_) ?_) | (with_reducible first | (intro H' hS; (try simp only [go_sem] at hS)) | intro _) | (with_reducible refine And.intro (by omega) ?_)) <;> (try simp only [go_sem, *])) | fail)
/-- One step of spelling: how many of the first byte, and how many bytes are used up. -/
def stN (c : List Int) : Nat := if 2 < c.length ∧ c.getD 1 0 = c.getD 0 0 then (c.getD 2 0 + 2).toNat else 1
def stU (c : List Int) : Nat := if 2 < c.length ∧ c.getD 1 0 = c.getD 0 0 then 3 else 1
theorem spl_step : ∀ {c : List Int}, c ≠ [] → spl c = List.replicate (stN c) (c.getD 0 0) ++ spl (c.drop (stU c))
  | [], h => absurd rfl h
  | [x], _ => by simp [stN, stU, spl_one, spl_nil]
  | [x, y], _ => by simp [stN, stU, spl_one, spl_two]
  | x :: y :: z :: r, _ => by
    by_cases h : y = x
    · subst h
      rw [spl_run]
      simp [stN, stU]
    · rw [spl_ne h]
      simp [stN, stU, h]
theorem stU_le {c : List Int} (h : c ≠ []) : 1 ≤ stU c ∧ stU c ≤ c.length := by
  have := List.length_pos_iff.2 h
  unfold stU
  split <;> omega
theorem stN_le {c : List Int} (hB : Byt c) : 1 ≤ stN c ∧ stN c ≤ 257 := by
  unfold stN
  split
  · rename_i h
    have := hB.get h.1
    omega
  · omega
/-- What spelling gives as far as it goes: it ends where there are too many bytes, though others are left; and what is left. -/
def sprA : Nat → List Int → List Int → List Int × List Int
  | 0, acc, c => (acc, c)
  | m + 1, acc, c => if c = [] ∨ 10125 < acc.length then (acc, c) else sprA m (acc ++ List.replicate (stN c) (c.getD 0 0)) (c.drop (stU c))
def spr (b : List Int) : List Int := (sprA b.length [] b).1
def sprE (b : List Int) : List Int := (sprA b.length [] b).2
theorem sprA_more (k : Nat) : ∀ (m : Nat) (acc c : List Int), c.length ≤ k → c.length ≤ m → sprA m acc c = sprA c.length acc c := by
  induction k with
  | zero =>
    intro m acc c h _
    have : c = [] := List.eq_nil_of_length_eq_zero (by omega)
    subst this
    cases m <;> simp [sprA]
  | succ k ih =>
    intro m acc c h hm
    cases m with
    | zero => rw [show c.length = 0 by omega]
    | succ m =>
      cases hc : c.length with
      | zero =>
        have : c = [] := List.eq_nil_of_length_eq_zero hc
        subst this
        simp [sprA]
      | succ j =>
        rw [sprA, sprA]
        split
        · rfl
        · rename_i h1
          have h2 := stU_le (c := c) (fun e => h1 (.inl e))
          rw [ih m _ _ (by rw [List.length_drop]; omega) (by rw [List.length_drop]; omega), ih j _ _ (by rw [List.length_drop]; omega) (by rw [List.length_drop]; omega)]
theorem spr_stop {acc c : List Int} (h : c = [] ∨ 10125 < acc.length) : sprA c.length acc c = (acc, c) := by
  cases hc : c.length with
  | zero => rfl
  | succ k => rw [sprA, if_pos h]
theorem spr_go {acc c : List Int} (h0 : c ≠ []) (h : ¬ 10125 < acc.length) : sprA c.length acc c = sprA (c.drop (stU c)).length (acc ++ List.replicate (stN c) (c.getD 0 0)) (c.drop (stU c)) := by
  have h2 := stU_le h0
  cases hc : c.length with
  | zero => exact absurd (List.eq_nil_of_length_eq_zero hc) h0
  | succ k =>
    rw [sprA, if_neg (fun h' => h'.elim h0 h), sprA_more k k _ _ (by rw [List.length_drop]; omega) (by rw [List.length_drop]; omega)]
theorem spr_spl : ∀ (m : Nat) (acc c : List Int), c.length ≤ m → ((sprA c.length acc c).1 = acc ++ spl c ∧ (sprA c.length acc c).2 = []) ∨ (10125 < (sprA c.length acc c).1.length ∧ 10125 < (acc ++ spl c).length)
  | 0, acc, c, h => by
    have : c = [] := List.eq_nil_of_length_eq_zero (by omega)
    subst this
    exact .inl (by simp [sprA, spl_nil])
  | m + 1, acc, c, h => by
    by_cases h0 : c = []
    · subst h0; exact .inl (by simp [sprA, spl_nil])
    · by_cases h1 : 10125 < acc.length
      · rw [spr_stop (.inr h1)]
        exact .inr ⟨h1, by rw [List.length_append]; omega⟩
      · have h2 := stU_le h0
        rw [spr_go h0 h1, spl_step h0, ← List.append_assoc]
        exact spr_spl m _ _ (by rw [List.length_drop]; omega)
theorem spr_eq (b : List Int) : (spr b = spl b ∧ sprE b = [] ∧ (spl b).length ≤ 10125) ∨ (10125 < (spr b).length ∧ 10125 < (spl b).length) := by
  have := spr_spl b.length [] b (Nat.le_refl _)
  rw [List.nil_append] at this
  rcases this with ⟨h, h3⟩ | h
  · by_cases h2 : (spl b).length ≤ 10125
    · exact .inl ⟨h, h3, h2⟩
    · exact .inr ⟨by unfold spr; rw [h]; omega, by omega⟩
  · exact .inr h
def spK (b : List Int) : Bool := decide ((spl b).length ≤ 10125 ∧ cnt (spl b) = b)
structure SpJ (b : List Int) (x : List Int × List Int) : Prop where
  byt : Byt x.1
  len : x.1.length ≤ b.length
  acc : x.2.length ≤ 10382
  eq : sprA x.1.length x.2 x.1 = sprA b.length [] b
theorem SpJ.zero {b : List Int} (h : Byt b) : SpJ b (b, []) := ⟨h, Nat.le_refl _, by simp, rfl⟩
theorem SpJ.go {b c acc : List Int} (h : SpJ b (c, acc)) (h0 : c ≠ []) (h1 : ¬ 10125 < acc.length) : SpJ b (c.drop (stU c), acc ++ List.replicate (stN c) (c.getD 0 0)) ∧ (c.drop (stU c)).length < c.length := by
  obtain ⟨k1, k2, k3, k4⟩ := h
  simp only at k1 k2 k3 k4
  have h2 := stU_le h0
  have h3 := stN_le k1
  refine ⟨⟨k1.drop _, ?_, ?_, ?_⟩, ?_⟩
  · simp only [List.length_drop]; omega
  · simp only [List.length_append, List.length_replicate]; omega
  · rw [← k4, spr_go h0 h1]
  · rw [List.length_drop]; omega
theorem SpJ.stop {b c acc : List Int} (h : SpJ b (c, acc)) (h0 : c = [] ∨ 10125 < acc.length) : acc = spr b ∧ c = sprE b := by
  have := h.eq
  simp only at this
  rw [spr_stop h0] at this
  unfold spr sprE
  rw [← this]
  exact ⟨rfl, rfl⟩
theorem spl_byt' {b : List Int} (h : Byt b) : Byt (spl b) := spl_byt b.length b (Nat.le_refl _) h
theorem len_pos {c : List Int} (h : c ≠ []) : 0 < c.length := List.length_pos_iff.2 h
/-- What spell hands back. -/
def spO (b : List Int) : List Int := if sprE b = [] then spr b else []
theorem spO_ok {b : List Int} (h : spK b = true) : spO b = spl b := by
  unfold spK at h
  rw [decide_eq_true_eq] at h
  rcases spr_eq b with ⟨h1, h2, _⟩ | ⟨_, h2⟩
  · unfold spO; rw [if_pos h2, h1]
  · omega
theorem spell_sum (b : List Int) (hB : Byt b) (hl : b.length ≤ 20000) : Sum Try.prog G 41 [byt b] (Is (.tup [.pv (.asl false ((spO b).map (PV.int .u8)) (spO b).length), .pv (.bool (spK b))]) []) := by
  (refine Sum.uniW (Sum.body hT Try.func41 rfl rfl Try.ntmps41 Try.results41 (by simp) ?_); simp only [go_sem, *])
  (repeat' first | with_reducible refine RK.out ?_ | with_reducible refine RC.out ?_ | with_reducible refine RA.out ?_ | refine AWp.seqN ?_ | refine AWp.region hT rfl ?_ | refine AWp.block ?_ | refine AWp.calm hT hM rfl (by decide +kernel) ?_ | ((first | (first | refine runOps_step rfl ?_ | refine runOps_nil ?_ | refine runOps_guardQ rfl rfl ?_ | refine runCalm_step rfl ?_ | refine runCalm_nil ?_ | refine runCalm_guardQ rfl rfl ?_ | refine AWp.cond ?_ | refine AWp.skip ?_ | refine AWp.ret ?_ | refine AWp.exit ?_ | refine BodyPost.retA ?_ | refine BodyPost.norA ?_ | with_reducible refine Keep.mk ?_) | simp (disch := omega) only [wrap_i64, wrap_i32, Int.toNat_natCast, Int.emod_eq_of_lt, Int.emod_emod, gd, gdS]) <;> (try simp only [go_sem, *])) | (apply ACall.genB; (case' eS => first | apply count_sum | apply repeat_sum | apply equal_sum); (case eG => (simp only [go_sem, *]; first | with_reducible exact rfl | (repeat' first | with_reducible exact rfl | refine cons_eq ?_ ?_ | refine agg_eq ?_ | refine asl_eq ?_ ?_ | omega | (simp only [go_sem]; done) | (simp only [go_sem]; omega)))); all_goals (first | with_reducible refine Keep.mk ?_ | omega | assumption | decide | (simp; done) | (simp; omega))) | ((first | ((with_reducible refine And.intro (fun hg => ?_) (fun hg => ?_)) <;> ((try simp only [go_sem] at hg); (try ((have hT0 : True := hg); clear hT0 hg)); (try have hgN := Nat.not_lt.2 hg); (try have hgN := Int.not_lt.2 hg); (try (revert hg; intro _)); (try (exfalso; omega)))) | ((with_reducible refine And.intro (fun H' hS => ?_) ?_) <;> (try simp only [go_sem] at hS))) <;> (try simp only [go_sem, *])) | ((with_reducible refine opt_if (by omega) ?_); exact rfl) | ((with_reducible refine opt_opt_if (by omega) ?_); exact rfl) | ((first | (with_reducible refine And.intro (fun H' => ?_) ?_) | (with_reducible first | (intro H' hS; (try simp only [go_sem] at hS)) | intro _) | (with_reducible refine And.intro (by omega) ?_)) <;> (try simp only [go_sem, *])) | fail)
  (focus (refine AWp.weak (St.nilRef_weak (t := 4) (esz := 1) (by first | rfl | simp only [go_sem])) ?_; simp only [go_sem, *]; refine AWp.loopA [0, 4, 5] (fun x : List Int × List Int => SpJ b x) (fun x => x.1.length) (fun x => [(4, .nref 0 x.2.length 1), (5, .pv (.asl true (x.1.map (PV.int .u8)) x.1.length))]) (fun x => [(0, .n (x.2.map (PV.int .u8)))]) ((b, [])) ?_; simp only [go_sem, *]; apply HeadA.mk; (case' hE => ((try simp only [go_sem, *]); (repeat' first | with_reducible rfl | omega | with_reducible refine St_eq ?_ ?_ | with_reducible refine fr_eq ?_ ?_ | with_reducible refine hb_eq ?_ ?_ | with_reducible refine pv_eq ?_ | with_reducible refine ref_eq ?_ ?_ ?_ ?_ | with_reducible refine nref_eq ?_ ?_ ?_ | with_reducible refine blkp_eq ?_ | with_reducible refine blkn_eq ?_ | with_reducible refine int_eq ?_ | with_reducible refine cons_eq ?_ ?_ | with_reducible refine agg_eq ?_ | with_reducible refine asl_eq ?_ ?_); all_goals (try rfl))); (case' hJ => (try (first | omega | (simp; done) | (simp; omega) | exact ⟨by omega, fun i h => by omega⟩ | exact fun i h => by omega | (refine ⟨?_, ?_⟩ <;> first | omega | (simp; done)) | (refine ⟨?_, ?_, ?_⟩ <;> first | omega | (simp; done)))))))
  · exact SpJ.zero hB
  rintro ⟨c, acc⟩ hJ
  have hal : acc.length ≤ 10382 := hJ.acc
  have hcl : c.length ≤ b.length := hJ.len
  have hcB : Byt c := hJ.byt
  by_cases h0 : c = []
  · obtain ⟨e1, e2⟩ := hJ.stop (.inl h0)
    have e3 : spO b = acc := by unfold spO; rw [if_pos (by rw [← e2, h0]), e1]
    have e5 : (acc.length ≤ 10125 → acc = spl b) := fun h => by
      rcases spr_eq b with ⟨h1, _, _⟩ | ⟨h1, h2⟩
      · rw [e1, h1]
      · rw [← e1] at h1; omega
    have e6 : ¬ acc.length ≤ 10125 → ¬ (spl b).length ≤ 10125 := fun h => by
      rcases spr_eq b with ⟨h1, _, h2⟩ | ⟨h1, h2⟩
      · rw [← e1] at h1; rw [← h1] at h2; omega
      · omega
    rw [e3]
    subst h0
    clear e1 e2 e3
    by_cases h1 : acc.length ≤ 10125
    · have e7 := e5 h1
      have e8 : spK b = decide (cnt acc = b) := by unfold spK; rw [← e7]; simp [h1]
      have hq := equal_sum (cnt acc) b (cnt_byt (by rw [e7]; exact spl_byt' hB)) hB (by have := cnt_len acc; omega) (by omega)
      rw [e8]
      have hcnt := count_sum acc (by omega)
      clear e5 e6 e7 e8 hJ
      (repeat' first | with_reducible refine RK.out ?_ | with_reducible refine RC.out ?_ | with_reducible refine RA.out ?_ | refine AWp.seqN ?_ | refine AWp.region hT rfl ?_ | refine AWp.block ?_ | refine AWp.calm hT hM rfl (by decide +kernel) ?_ | ((first | (first | refine runOps_step rfl ?_ | refine runOps_nil ?_ | refine runOps_guardQ rfl rfl ?_ | refine runCalm_step rfl ?_ | refine runCalm_nil ?_ | refine runCalm_guardQ rfl rfl ?_ | refine AWp.cond ?_ | refine AWp.skip ?_ | refine AWp.ret ?_ | refine AWp.exit ?_ | refine BodyPost.retA ?_ | refine BodyPost.norA ?_ | with_reducible refine Keep.mk ?_) | simp (disch := omega) only [wrap_i64, wrap_i32, Int.toNat_natCast, Int.emod_eq_of_lt, Int.emod_emod, gd, gdS]) <;> (try simp only [go_sem, *])) | (apply ACall.genB; (case' eS => apply hcnt); (case eG => (simp only [go_sem, *]; first | with_reducible exact rfl | (repeat' first | with_reducible exact rfl | refine cons_eq ?_ ?_ | refine agg_eq ?_ | refine asl_eq ?_ ?_ | omega | (simp only [go_sem]; done) | (simp only [go_sem]; omega)))); all_goals (first | with_reducible refine Keep.mk ?_ | omega | assumption | decide | (simp; done) | (simp; omega))) | (apply ACall.genB; (case' eS => apply hq); (case eG => (simp only [go_sem, *]; first | with_reducible exact rfl | (repeat' first | with_reducible exact rfl | refine cons_eq ?_ ?_ | refine agg_eq ?_ | refine asl_eq ?_ ?_ | omega | (simp only [go_sem]; done) | (simp only [go_sem]; omega)))); all_goals (first | with_reducible refine Keep.mk ?_ | omega | assumption | decide | (simp; done) | (simp; omega))) | (apply ACall.genB; (case' eS => first | apply count_sum | apply repeat_sum | apply equal_sum); (case eG => (simp only [go_sem, *]; first | with_reducible exact rfl | (repeat' first | with_reducible exact rfl | refine cons_eq ?_ ?_ | refine agg_eq ?_ | refine asl_eq ?_ ?_ | omega | (simp only [go_sem]; done) | (simp only [go_sem]; omega)))); all_goals (first | with_reducible refine Keep.mk ?_ | omega | assumption | decide | (simp; done) | (simp; omega))) | ((first | ((with_reducible refine And.intro (fun hg => ?_) (fun hg => ?_)) <;> ((try simp only [go_sem] at hg); (try ((have hT0 : True := hg); clear hT0 hg)); (try have hgN := Nat.not_lt.2 hg); (try have hgN := Int.not_lt.2 hg); (try (revert hg; intro _)); (try (exfalso; omega)))) | ((with_reducible refine And.intro (fun H' hS => ?_) ?_) <;> (try simp only [go_sem] at hS))) <;> (try simp only [go_sem, *])) | ((with_reducible refine opt_if (by omega) ?_); exact rfl) | ((with_reducible refine opt_opt_if (by omega) ?_); exact rfl) | ((first | (with_reducible refine And.intro (fun H' => ?_) ?_) | (with_reducible first | (intro H' hS; (try simp only [go_sem] at hS)) | intro _) | (with_reducible refine And.intro (by omega) ?_)) <;> (try simp only [go_sem, *])) | fail)
    · have e8 : spK b = false := by unfold spK; exact decide_eq_false (fun h => e6 h1 h.1)
      rw [e8]
      clear e5 e6 e8 hJ
      (repeat' first | with_reducible refine RK.out ?_ | with_reducible refine RC.out ?_ | with_reducible refine RA.out ?_ | refine AWp.seqN ?_ | refine AWp.region hT rfl ?_ | refine AWp.block ?_ | refine AWp.calm hT hM rfl (by decide +kernel) ?_ | ((first | (first | refine runOps_step rfl ?_ | refine runOps_nil ?_ | refine runOps_guardQ rfl rfl ?_ | refine runCalm_step rfl ?_ | refine runCalm_nil ?_ | refine runCalm_guardQ rfl rfl ?_ | refine AWp.cond ?_ | refine AWp.skip ?_ | refine AWp.ret ?_ | refine AWp.exit ?_ | refine BodyPost.retA ?_ | refine BodyPost.norA ?_ | with_reducible refine Keep.mk ?_) | simp (disch := omega) only [wrap_i64, wrap_i32, Int.toNat_natCast, Int.emod_eq_of_lt, Int.emod_emod, gd, gdS]) <;> (try simp only [go_sem, *])) | (apply ACall.genB; (case' eS => first | apply count_sum | apply repeat_sum | apply equal_sum); (case eG => (simp only [go_sem, *]; first | with_reducible exact rfl | (repeat' first | with_reducible exact rfl | refine cons_eq ?_ ?_ | refine agg_eq ?_ | refine asl_eq ?_ ?_ | omega | (simp only [go_sem]; done) | (simp only [go_sem]; omega)))); all_goals (first | with_reducible refine Keep.mk ?_ | omega | assumption | decide | (simp; done) | (simp; omega))) | ((first | ((with_reducible refine And.intro (fun hg => ?_) (fun hg => ?_)) <;> ((try simp only [go_sem] at hg); (try ((have hT0 : True := hg); clear hT0 hg)); (try have hgN := Nat.not_lt.2 hg); (try have hgN := Int.not_lt.2 hg); (try (revert hg; intro _)); (try (exfalso; omega)))) | ((with_reducible refine And.intro (fun H' hS => ?_) ?_) <;> (try simp only [go_sem] at hS))) <;> (try simp only [go_sem, *])) | ((with_reducible refine opt_if (by omega) ?_); exact rfl) | ((with_reducible refine opt_opt_if (by omega) ?_); exact rfl) | ((first | (with_reducible refine And.intro (fun H' => ?_) ?_) | (with_reducible first | (intro H' hS; (try simp only [go_sem] at hS)) | intro _) | (with_reducible refine And.intro (by omega) ?_)) <;> (try simp only [go_sem, *])) | fail)
  have hcp := len_pos h0
  by_cases h1 : 10125 < acc.length
  · obtain ⟨e1, e2⟩ := hJ.stop (.inr h1)
    have e3 : spO b = [] := by unfold spO; rw [if_neg (by rw [← e2]; exact h0)]
    have e4 : spK b = false := by
      rcases spr_eq b with ⟨h1', _, h3⟩ | ⟨_, h2⟩
      · rw [← h1', ← e1] at h3; omega
      · unfold spK; exact decide_eq_false (by omega)
    rw [e3, e4]
    clear e1 e2 e3 e4 hJ h0
    (repeat' first | with_reducible refine RK.out ?_ | with_reducible refine RC.out ?_ | with_reducible refine RA.out ?_ | refine AWp.seqN ?_ | refine AWp.region hT rfl ?_ | refine AWp.block ?_ | refine AWp.calm hT hM rfl (by decide +kernel) ?_ | ((first | (first | refine runOps_step rfl ?_ | refine runOps_nil ?_ | refine runOps_guardQ rfl rfl ?_ | refine runCalm_step rfl ?_ | refine runCalm_nil ?_ | refine runCalm_guardQ rfl rfl ?_ | refine AWp.cond ?_ | refine AWp.skip ?_ | refine AWp.ret ?_ | refine AWp.exit ?_ | refine BodyPost.retA ?_ | refine BodyPost.norA ?_ | with_reducible refine Keep.mk ?_) | simp (disch := omega) only [wrap_i64, wrap_i32, Int.toNat_natCast, Int.emod_eq_of_lt, Int.emod_emod, gd, gdS]) <;> (try simp only [go_sem, *])) | (apply ACall.genB; (case' eS => first | apply count_sum | apply repeat_sum | apply equal_sum); (case eG => (simp only [go_sem, *]; first | with_reducible exact rfl | (repeat' first | with_reducible exact rfl | refine cons_eq ?_ ?_ | refine agg_eq ?_ | refine asl_eq ?_ ?_ | omega | (simp only [go_sem]; done) | (simp only [go_sem]; omega)))); all_goals (first | with_reducible refine Keep.mk ?_ | omega | assumption | decide | (simp; done) | (simp; omega))) | ((first | ((with_reducible refine And.intro (fun hg => ?_) (fun hg => ?_)) <;> ((try simp only [go_sem] at hg); (try ((have hT0 : True := hg); clear hT0 hg)); (try have hgN := Nat.not_lt.2 hg); (try have hgN := Int.not_lt.2 hg); (try (revert hg; intro _)); (try (exfalso; omega)))) | ((with_reducible refine And.intro (fun H' hS => ?_) ?_) <;> (try simp only [go_sem] at hS))) <;> (try simp only [go_sem, *])) | ((with_reducible refine opt_if (by omega) ?_); exact rfl) | ((with_reducible refine opt_opt_if (by omega) ?_); exact rfl) | ((first | (with_reducible refine And.intro (fun H' => ?_) ?_) | (with_reducible first | (intro H' hS; (try simp only [go_sem] at hS)) | intro _) | (with_reducible refine And.intro (by omega) ?_)) <;> (try simp only [go_sem, *])) | fail)
  · obtain ⟨g1, g2⟩ := hJ.go h0 h1
    have ht1 : List.take 1 c = [c.getD 0 0] := by
      cases c with
      | nil => exact absurd rfl h0
      | cons x r => rfl
    by_cases h2 : 2 < c.length ∧ c.getD 1 0 = c.getD 0 0
    · have e1 : stU c = 3 := if_pos h2
      have e2 : stN c = (c.getD 2 0 + 2).toNat := if_pos h2
      have e3 := stN_le hcB
      obtain ⟨h3, h4⟩ := h2
      have hz := hcB.get h3
      have hr : Sum Try.prog G 50 [.asl true [.int .u8 (c.getD 0 0)] 1, .int .i64 (c.getD 2 0 + 2)] (Is (.pv (.asl false (List.replicate (stN c) (.int .u8 (c.getD 0 0))) (stN c))) []) := by
        have := repeat_sum (c.getD 0 0) (stN c) e3.1 (by omega)
        rwa [show ((stN c : Nat) : Int) = c.getD 2 0 + 2 by omega] at this
      rw [e1] at g1 g2
      clear e1 e2 h0 hJ
      generalize hn : stN c = n at *
      clear hn
      (repeat' first | with_reducible refine RK.out ?_ | with_reducible refine RC.out ?_ | with_reducible refine RA.out ?_ | refine AWp.seqN ?_ | refine AWp.region hT rfl ?_ | refine AWp.block ?_ | refine AWp.calm hT hM rfl (by decide +kernel) ?_ | ((first | (first | refine runOps_step rfl ?_ | refine runOps_nil ?_ | refine runOps_guardQ rfl rfl ?_ | refine runCalm_step rfl ?_ | refine runCalm_nil ?_ | refine runCalm_guardQ rfl rfl ?_ | refine AWp.cond ?_ | refine AWp.skip ?_ | refine AWp.ret ?_ | refine AWp.exit ?_ | refine BodyPost.retA ?_ | refine BodyPost.norA ?_ | with_reducible refine Keep.mk ?_) | simp (disch := omega) only [wrap_i64, wrap_i32, Int.toNat_natCast, Int.emod_eq_of_lt, Int.emod_emod, gd, gdS]) <;> (try simp only [go_sem, *])) | (apply ACall.genB; (case' eS => apply hr); (case eG => (simp only [go_sem, *]; first | with_reducible exact rfl | (repeat' first | with_reducible exact rfl | refine cons_eq ?_ ?_ | refine agg_eq ?_ | refine asl_eq ?_ ?_ | omega | (simp only [go_sem]; done) | (simp only [go_sem]; omega)))); all_goals (first | with_reducible refine Keep.mk ?_ | omega | assumption | decide | (simp; done) | (simp; omega))) | (apply ACall.genB; (case' eS => first | apply count_sum | apply repeat_sum | apply equal_sum); (case eG => (simp only [go_sem, *]; first | with_reducible exact rfl | (repeat' first | with_reducible exact rfl | refine cons_eq ?_ ?_ | refine agg_eq ?_ | refine asl_eq ?_ ?_ | omega | (simp only [go_sem]; done) | (simp only [go_sem]; omega)))); all_goals (first | with_reducible refine Keep.mk ?_ | omega | assumption | decide | (simp; done) | (simp; omega))) | ((first | ((with_reducible refine And.intro (fun hg => ?_) (fun hg => ?_)) <;> ((try simp only [go_sem] at hg); (try ((have hT0 : True := hg); clear hT0 hg)); (try have hgN := Nat.not_lt.2 hg); (try have hgN := Int.not_lt.2 hg); (try (revert hg; intro _)); (try (exfalso; omega)))) | ((with_reducible refine And.intro (fun H' hS => ?_) ?_) <;> (try simp only [go_sem] at hS))) <;> (try simp only [go_sem, *])) | ((with_reducible refine opt_if (by omega) ?_); exact rfl) | ((with_reducible refine opt_opt_if (by omega) ?_); exact rfl) | ((first | (with_reducible refine And.intro (fun H' => ?_) ?_) | (with_reducible first | (intro H' hS; (try simp only [go_sem] at hS)) | intro _) | (with_reducible refine And.intro (by omega) ?_)) <;> (try simp only [go_sem, *])) | fail)
      all_goals
        (focus (apply RoundA.mk ((c.drop 3, acc ++ List.replicate n (c.getD 0 0))); (case' hE => (first | (simp only [go_sem, *]; (repeat' first | with_reducible rfl | omega | with_reducible refine St_eq ?_ ?_ | with_reducible refine fr_eq ?_ ?_ | with_reducible refine hb_eq ?_ ?_ | with_reducible refine pv_eq ?_ | with_reducible refine ref_eq ?_ ?_ ?_ ?_ | with_reducible refine nref_eq ?_ ?_ ?_ | with_reducible refine blkp_eq ?_ | with_reducible refine blkn_eq ?_ | with_reducible refine int_eq ?_ | with_reducible refine cons_eq ?_ ?_ | with_reducible refine agg_eq ?_ | with_reducible refine asl_eq ?_ ?_)) | skip)); (case' hM => (first | omega | (simp only; omega) | skip)); (case' hJ => (try (first | omega | (simp only; omega) | (simp; done) | (simp; omega) | (simp [*]; done) | (simp [*]; omega))))))
      all_goals first | exact g1 | skip
    · have e1 : stU c = 1 := if_neg h2
      have e2 : stN c = 1 := if_neg h2
      have hr : Sum Try.prog G 50 [.asl true [.int .u8 (c.getD 0 0)] 1, .int .i64 1] (Is (.pv (.asl false [.int .u8 (c.getD 0 0)] 1)) []) := repeat_sum _ 1 (by omega) (by omega)
      rw [e1, e2] at g1
      rw [e1] at g2
      clear e1 e2 h0 hJ
      by_cases h3 : 2 < c.length
      · have h4 : ¬ c.getD 1 0 = c.getD 0 0 := fun h => h2 ⟨h3, h⟩
        clear h2
        (repeat' first | with_reducible refine RK.out ?_ | with_reducible refine RC.out ?_ | with_reducible refine RA.out ?_ | refine AWp.seqN ?_ | refine AWp.region hT rfl ?_ | refine AWp.block ?_ | refine AWp.calm hT hM rfl (by decide +kernel) ?_ | ((first | (first | refine runOps_step rfl ?_ | refine runOps_nil ?_ | refine runOps_guardQ rfl rfl ?_ | refine runCalm_step rfl ?_ | refine runCalm_nil ?_ | refine runCalm_guardQ rfl rfl ?_ | refine AWp.cond ?_ | refine AWp.skip ?_ | refine AWp.ret ?_ | refine AWp.exit ?_ | refine BodyPost.retA ?_ | refine BodyPost.norA ?_ | with_reducible refine Keep.mk ?_) | simp (disch := omega) only [wrap_i64, wrap_i32, Int.toNat_natCast, Int.emod_eq_of_lt, Int.emod_emod, gd, gdS]) <;> (try simp only [go_sem, *])) | (apply ACall.genB; (case' eS => apply hr); (case eG => (simp only [go_sem, *]; first | with_reducible exact rfl | (repeat' first | with_reducible exact rfl | refine cons_eq ?_ ?_ | refine agg_eq ?_ | refine asl_eq ?_ ?_ | omega | (simp only [go_sem]; done) | (simp only [go_sem]; omega)))); all_goals (first | with_reducible refine Keep.mk ?_ | omega | assumption | decide | (simp; done) | (simp; omega))) | (apply ACall.genB; (case' eS => first | apply count_sum | apply repeat_sum | apply equal_sum); (case eG => (simp only [go_sem, *]; first | with_reducible exact rfl | (repeat' first | with_reducible exact rfl | refine cons_eq ?_ ?_ | refine agg_eq ?_ | refine asl_eq ?_ ?_ | omega | (simp only [go_sem]; done) | (simp only [go_sem]; omega)))); all_goals (first | with_reducible refine Keep.mk ?_ | omega | assumption | decide | (simp; done) | (simp; omega))) | ((first | ((with_reducible refine And.intro (fun hg => ?_) (fun hg => ?_)) <;> ((try simp only [go_sem] at hg); (try ((have hT0 : True := hg); clear hT0 hg)); (try have hgN := Nat.not_lt.2 hg); (try have hgN := Int.not_lt.2 hg); (try (revert hg; intro _)); (try (exfalso; omega)))) | ((with_reducible refine And.intro (fun H' hS => ?_) ?_) <;> (try simp only [go_sem] at hS))) <;> (try simp only [go_sem, *])) | ((with_reducible refine opt_if (by omega) ?_); exact rfl) | ((with_reducible refine opt_opt_if (by omega) ?_); exact rfl) | ((first | (with_reducible refine And.intro (fun H' => ?_) ?_) | (with_reducible first | (intro H' hS; (try simp only [go_sem] at hS)) | intro _) | (with_reducible refine And.intro (by omega) ?_)) <;> (try simp only [go_sem, *])) | fail)
        all_goals
          (focus (apply RoundA.mk ((c.drop 1, acc ++ [c.getD 0 0])); (case' hE => (first | (simp only [go_sem, *]; (repeat' first | with_reducible rfl | omega | with_reducible refine St_eq ?_ ?_ | with_reducible refine fr_eq ?_ ?_ | with_reducible refine hb_eq ?_ ?_ | with_reducible refine pv_eq ?_ | with_reducible refine ref_eq ?_ ?_ ?_ ?_ | with_reducible refine nref_eq ?_ ?_ ?_ | with_reducible refine blkp_eq ?_ | with_reducible refine blkn_eq ?_ | with_reducible refine int_eq ?_ | with_reducible refine cons_eq ?_ ?_ | with_reducible refine agg_eq ?_ | with_reducible refine asl_eq ?_ ?_)) | skip)); (case' hM => (first | omega | (simp only; omega) | skip)); (case' hJ => (try (first | omega | (simp only; omega) | (simp; done) | (simp; omega) | (simp [*]; done) | (simp [*]; omega))))))
        all_goals first | exact g1 | skip
      · clear h2
        (repeat' first | with_reducible refine RK.out ?_ | with_reducible refine RC.out ?_ | with_reducible refine RA.out ?_ | refine AWp.seqN ?_ | refine AWp.region hT rfl ?_ | refine AWp.block ?_ | refine AWp.calm hT hM rfl (by decide +kernel) ?_ | ((first | (first | refine runOps_step rfl ?_ | refine runOps_nil ?_ | refine runOps_guardQ rfl rfl ?_ | refine runCalm_step rfl ?_ | refine runCalm_nil ?_ | refine runCalm_guardQ rfl rfl ?_ | refine AWp.cond ?_ | refine AWp.skip ?_ | refine AWp.ret ?_ | refine AWp.exit ?_ | refine BodyPost.retA ?_ | refine BodyPost.norA ?_ | with_reducible refine Keep.mk ?_) | simp (disch := omega) only [wrap_i64, wrap_i32, Int.toNat_natCast, Int.emod_eq_of_lt, Int.emod_emod, gd, gdS]) <;> (try simp only [go_sem, *])) | (apply ACall.genB; (case' eS => apply hr); (case eG => (simp only [go_sem, *]; first | with_reducible exact rfl | (repeat' first | with_reducible exact rfl | refine cons_eq ?_ ?_ | refine agg_eq ?_ | refine asl_eq ?_ ?_ | omega | (simp only [go_sem]; done) | (simp only [go_sem]; omega)))); all_goals (first | with_reducible refine Keep.mk ?_ | omega | assumption | decide | (simp; done) | (simp; omega))) | (apply ACall.genB; (case' eS => first | apply count_sum | apply repeat_sum | apply equal_sum); (case eG => (simp only [go_sem, *]; first | with_reducible exact rfl | (repeat' first | with_reducible exact rfl | refine cons_eq ?_ ?_ | refine agg_eq ?_ | refine asl_eq ?_ ?_ | omega | (simp only [go_sem]; done) | (simp only [go_sem]; omega)))); all_goals (first | with_reducible refine Keep.mk ?_ | omega | assumption | decide | (simp; done) | (simp; omega))) | ((first | ((with_reducible refine And.intro (fun hg => ?_) (fun hg => ?_)) <;> ((try simp only [go_sem] at hg); (try ((have hT0 : True := hg); clear hT0 hg)); (try have hgN := Nat.not_lt.2 hg); (try have hgN := Int.not_lt.2 hg); (try (revert hg; intro _)); (try (exfalso; omega)))) | ((with_reducible refine And.intro (fun H' hS => ?_) ?_) <;> (try simp only [go_sem] at hS))) <;> (try simp only [go_sem, *])) | ((with_reducible refine opt_if (by omega) ?_); exact rfl) | ((with_reducible refine opt_opt_if (by omega) ?_); exact rfl) | ((first | (with_reducible refine And.intro (fun H' => ?_) ?_) | (with_reducible first | (intro H' hS; (try simp only [go_sem] at hS)) | intro _) | (with_reducible refine And.intro (by omega) ?_)) <;> (try simp only [go_sem, *])) | fail)
        all_goals
          (focus (apply RoundA.mk ((c.drop 1, acc ++ [c.getD 0 0])); (case' hE => (first | (simp only [go_sem, *]; (repeat' first | with_reducible rfl | omega | with_reducible refine St_eq ?_ ?_ | with_reducible refine fr_eq ?_ ?_ | with_reducible refine hb_eq ?_ ?_ | with_reducible refine pv_eq ?_ | with_reducible refine ref_eq ?_ ?_ ?_ ?_ | with_reducible refine nref_eq ?_ ?_ ?_ | with_reducible refine blkp_eq ?_ | with_reducible refine blkn_eq ?_ | with_reducible refine int_eq ?_ | with_reducible refine cons_eq ?_ ?_ | with_reducible refine agg_eq ?_ | with_reducible refine asl_eq ?_ ?_)) | skip)); (case' hM => (first | omega | (simp only; omega) | skip)); (case' hJ => (try (first | omega | (simp only; omega) | (simp; done) | (simp; omega) | (simp [*]; done) | (simp [*]; omega))))))
        all_goals first | exact g1 | skip
end Go.Proofs.Ytflmhccniamkeaa
