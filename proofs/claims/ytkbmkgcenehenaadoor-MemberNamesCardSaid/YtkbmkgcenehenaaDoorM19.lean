/- The law's own example. -/
import Derived.Test.YtkbmkgcenehenaaDoorM16
import Derived.Test.YtkbmkgcenehenaaDoorH3
set_option linter.unusedSimpArgs false
set_option linter.unusedVariables false
set_option maxHeartbeats 4000000
set_option maxRecDepth 100000
namespace Go.Proofs.YtkbmkgcenehenaaDoor
open Go Hm Go.ChangeShapes Go.WideShapes Go.ChangeAt Go.RowKit
attribute [local go_sem] Int.reduceEq Int.reduceNe Int.reduceLT Int.reduceLE Int.reduceNeg Int.reduceToNat Int.reduceAdd Int.reduceSub Int.reduceMul Int.reducePow Int.reduceDiv Int.reduceMod ite_eq_left_iff ite_eq_right_iff imp_false Nat.reduceLT Nat.reduceEqDiff Nat.reduceAdd Nat.reduceSub Nat.reduceMul Nat.reduceLeDiff Nat.reduceBEq reduceIte
section
open Go.RowKit
theorem imm_deep {w : World} {ok : Bool → Nat → Prop} {f : Bool} {cs ds : List PV} {n : Nat} {v : Value} (h : Imm w ok (.asl f cs n) v) (hd : PV.wks cs ds) : Imm w ok (.asl f ds n) v := by
  cases h with
  | asl0 => exact .asl0 _ _
  | asl _ _ _ _ h =>
    refine .asl _ _ _ _ ?_
    cases h with
    | slz => exact .slz _ _ _ _
    | sl _ _ _ blk off cap vs hl h1 hc hv =>
      refine .sl f ds n blk off cap vs hl (fun i q hi => ?_) (fun i hi => hc i (by rw [wks_length hd]; exact hi)) (fun i q hi => ?_)
      · obtain ⟨p, h2, h3⟩ := wks_get hd i q hi
        rw [wk_one h3]; exact h1 i p h2
      · obtain ⟨p, h2, h3⟩ := wks_get hd i q hi
        exact (hv i p h2).wk h3
/-- A slice whose cells tell more than a contract asks. -/
theorem sum_deep {P : Program} {G : Nat → Option (List PV)} {f : FuncId} {cs ds : List PV} {n : Nat} {post : List PV} {Post : LV → List Blk → Prop} (h : Hm.Sum P G f (.asl true ds n :: post) Post) (hd : PV.wks cs ds) : Hm.Sum P G f (.asl true cs n :: post) Post := by
  refine ⟨h.1, fun w vs hg hl hv => h.2 w vs hg (by simpa using hl) fun i q v hq hv' => ?_⟩
  cases i with
  | zero =>
    simp only [List.getElem?_cons_zero, Option.some.injEq] at hq
    subst hq
    exact imm_deep (hv 0 _ v rfl hv') hd
  | succ i => exact hv (i + 1) q v (by simpa using hq) hv'
end
def aS : ByteArray := ⟨#[97]⟩
def abS : ByteArray := ⟨#[97, 32, 98]⟩
def mA : Mem := ⟨aS, []⟩
def mAb : Mem := ⟨abS, []⟩
def dN : List Int := [0xda, 0x39, 0xa3, 0xee, 0x5e, 0x6b, 0x4b, 0x0d, 0x32, 0x55, 0xbf, 0xef, 0x95, 0x60, 0x18, 0x90, 0xaf, 0xd8, 0x07, 0x09]
def rA : Rec := ⟨aS, 0, ⟨dN, rfl⟩⟩
theorem recM_A : recM mA = rA := by
  have h : (⟨shaL [], shaL_len []⟩ : { l : List Int // l.length = 20 }) = ⟨dN, rfl⟩ := Subtype.ext shaL_none
  show Rec.mk aS 0 ⟨shaL [], shaL_len []⟩ = _
  rw [h]; rfl
theorem aS_ok : NmP aS := by decide +kernel
theorem abS_no : ¬ NmP abS := by decide +kernel
theorem getD1 {α : Type} [Inhabited α] (x : α) (i : Nat) (h : i < [x].length) : [x].getD i default = x := by
  have : i = 0 := by simpa using h
  subst this; rfl
theorem chk_A : chkM [mA] = 0 := by
  unfold chkM
  rw [if_neg (by simp [sumD, mA]), if_neg (fun ⟨i, h, h'⟩ => h' (by rw [getD1 _ _ h]; exact aS_ok)), if_neg (fun h => h (by simp [names]))]
theorem chk_Ab : chkM [mAb] = 8 := by
  unfold chkM
  rw [if_neg (by simp [sumD, mAb]), if_pos ⟨0, by simp, abS_no⟩]
theorem ofL_A : ofL [mA] = [rA] := by
  unfold ofL
  rw [if_pos chk_A, List.map_cons, recM_A]; rfl
theorem good_A : ¬ badR rA := by
  unfold badR
  rintro (h | h | h | ⟨_, h⟩)
  · exact h aS_ok
  · exact absurd h (by decide)
  · exact absurd h (by decide)
  · exact h shaL_none.symm
theorem vld_A : vldR [rA] = 0 := by
  unfold vldR
  rw [if_neg (by simp), if_neg (fun ⟨i, h, h'⟩ => by rw [getD1 _ _ h] at h'; exact good_A h'), if_neg (by simp [sumR, rA]), if_neg (fun h => h (by simp [namesR]))]
theorem wrt_A : wrtR [rA] = 1 :: 97 :: 0 :: 0 :: dN := by
  unfold wrtR
  rw [if_pos vld_A]
  decide +kernel
theorem sm1 (m : Mem) (h : m.data.length ≤ 10000) (h2 : m.name.size ≤ 100) : Small [m] := ⟨by simp, fun i hi => by rw [getD1 _ _ hi]; exact ⟨h, h2⟩⟩
theorem none_sum : Sum Tryd.prog G 30 [] (Is (.pv (.agg (dN.map (PV.int .u8)))) []) := by
  unfold dN
  (refine Sum.uniW (Sum.body hT Tryd.func30 rfl rfl Tryd.ntmps30 Tryd.results30 (by simp) ?_); simp only [go_sem, *])
  (repeat' first | with_reducible refine RK.out ?_ | with_reducible refine RC.out ?_ | with_reducible refine RA.out ?_ | refine AWp.seqN ?_ | refine AWp.region hT rfl ?_ | refine AWp.block ?_ | refine AWp.calm hT hM rfl (by decide +kernel) ?_ | ((first | (first | refine runOps_step rfl ?_ | refine runOps_nil ?_ | refine runOps_guardQ rfl rfl ?_ | refine runCalm_step rfl ?_ | refine runCalm_nil ?_ | refine runCalm_guardQ rfl rfl ?_ | refine AWp.cond ?_ | refine AWp.skip ?_ | refine AWp.ret ?_ | refine AWp.exit ?_ | refine BodyPost.retA ?_ | refine BodyPost.norA ?_ | with_reducible refine Keep.mk ?_) | simp (disch := omega) only [wrap_i64, wrap_i32, Int.toNat_natCast, Int.emod_eq_of_lt, Int.emod_emod, gd, gdS]) <;> (try simp only [go_sem, *])) | ((first | ((with_reducible refine And.intro (fun hg => ?_) (fun hg => ?_)) <;> ((try simp only [go_sem] at hg); (try ((have hT0 : True := hg); clear hT0 hg)); (try have hgN := Nat.not_lt.2 hg); (try have hgN := Int.not_lt.2 hg); (try (revert hg; intro _)); (try (exfalso; omega)))) | ((with_reducible refine And.intro (fun H' hS => ?_) ?_) <;> (try simp only [go_sem] at hS))) <;> (try simp only [go_sem, *])) | ((with_reducible refine opt_if (by omega) ?_); exact rfl) | ((with_reducible refine opt_opt_if (by omega) ?_); exact rfl) | ((first | (with_reducible refine And.intro (fun H' => ?_) ?_) | (with_reducible first | (intro H' hS; (try simp only [go_sem] at hS)) | intro _) | (with_reducible refine And.intro (by omega) ?_)) <;> (try simp only [go_sem, *])) | fail)
def dB : List UInt8 := dN.map fun n => UInt8.ofNat n.toNat
def d24 : List UInt8 := 1 :: 97 :: 0 :: 0 :: dB
theorem dB_of : bytesOf (dN.map (PV.int .u8)) = some dB := by decide +kernel
theorem d24_of : bytesOf ((1 :: 97 :: 0 :: 0 :: dN).map (PV.int .u8)) = some d24 := by decide +kernel
def d4 : List UInt8 := [1, 97, 0, 0]
theorem d4_of : bytesOf [.int .u8 1, .int .u8 97, .int .u8 0, .int .u8 0] = some d4 := by decide +kernel
theorem d24_cat : (⟨d4.toArray⟩ ++ ⟨dB.toArray⟩ : ByteArray) = ⟨d24.toArray⟩ := by decide +kernel
theorem alive_sum : Sum Tryd.prog G 26 [] (Is (.pv (.bool true)) []) := by
  have h1 := ofm_sum [mA] (sm1 _ (by decide) (by decide)) (fun x hx => by rw [List.mem_singleton.1 hx]; exact ⟨by decide, by decide, Byt.nil⟩)
  rw [chk_A, ofL_A] at h1
  have h1' := sum_deep (cs := [.str aS, .nil]) h1 ⟨rfl, ⟨rfl, rfl⟩, trivial⟩
  have h2 := write_sum [rA] ⟨by simp, fun i hi => by rw [getD1 _ _ hi]; decide⟩
  rw [vld_A, wrt_A] at h2
  have h3 := same_sum [rA] [rA] (by simp [maxLen]) (by simp [maxLen])
  have h4 := check_sum [mAb] (sm1 _ (by decide) (by decide))
  rw [chk_Ab] at h4
  have h4' := sum_deep (cs := [.str abS, .nil]) h4 ⟨rfl, ⟨rfl, rfl⟩, trivial⟩
  have h5 := none_sum
  have b1 := dB_of
  have b2 := d24_of
  have b3 := d24_cat
  have b4 := d4_of
  have b5 : (⟨d4.toArray⟩ : ByteArray).size = 4 := rfl
  have b6 : (⟨dB.toArray⟩ : ByteArray).size = 20 := rfl
  have b7 : ¬ (IntKind.i64.max < (24 : Int)) := by decide
  clear h1 h4
  simp only [rA, dN, aS, abS, Rec.c, List.flatMap_cons, List.flatMap_nil, List.append_nil, List.cons_append, List.nil_append, List.map_cons, List.map_nil, List.length_cons, List.length_nil, Nat.reduceAdd, decide_true] at h1' h2 h3 h4' h5 b1 b2
  (refine Sum.uniW (Sum.body hT Tryd.func26 rfl rfl Tryd.ntmps26 Tryd.results26 (by simp) ?_); simp only [go_sem, *])
  (repeat' first | with_reducible refine RK.out ?_ | with_reducible refine RC.out ?_ | with_reducible refine RA.out ?_ | refine AWp.seqN ?_ | refine AWp.region hT rfl ?_ | refine AWp.block ?_ | refine AWp.calm hT hM rfl (by decide +kernel) ?_ | ((first | (first | refine drawnH (id := 4) [2, 3, 0] [1, 4, 5] [] [] hT hM rfl (by decide +kernel) ?_ ?_ | refine runOps_step rfl ?_ | refine runOps_nil ?_ | refine runOps_guardQ rfl rfl ?_ | refine runCalm_step rfl ?_ | refine runCalm_nil ?_ | refine runCalm_guardQ rfl rfl ?_ | refine runAuto_nil ?_ | refine runAuto_calm rfl rfl ?_ | refine runAuto_eff rfl rfl ?_ | refine runAuto_calmGQ rfl rfl rfl ?_ | refine runAuto_effGQ rfl rfl rfl ?_ | refine RT.line ?_ | refine RT.alts ?_ ?_ | refine RT.done ?_ | apply RT.none | refine AWp.cond ?_ | refine AWp.skip ?_ | refine AWp.ret ?_ | refine AWp.exit ?_ | refine BodyPost.retA ?_ | refine BodyPost.norA ?_ | with_reducible refine Keep.mk ?_) | simp (disch := omega) only [wrap_i64, wrap_i32, Int.toNat_natCast, Int.emod_eq_of_lt, Int.emod_emod, gd, gdS]) <;> (try simp only [go_sem, *])) | (apply ACall.genB; (case eS => exact h1'); (case eG => (simp only [go_sem, *]; first | with_reducible exact rfl | (repeat' first | with_reducible exact rfl | refine cons_eq ?_ ?_ | refine agg_eq ?_ | refine asl_eq ?_ ?_ | omega | (simp only [go_sem]; done) | (simp only [go_sem]; omega)))); all_goals (first | with_reducible refine Keep.mk ?_ | omega | assumption | decide | (simp; done) | (simp; omega))) | (apply ACall.genB; (case' eS => apply h2); (case eG => (simp only [go_sem, *]; first | with_reducible exact rfl | (repeat' first | with_reducible exact rfl | refine cons_eq ?_ ?_ | refine agg_eq ?_ | refine asl_eq ?_ ?_ | omega | (simp only [go_sem]; done) | (simp only [go_sem]; omega)))); all_goals (first | with_reducible refine Keep.mk ?_ | omega | assumption | decide | (simp; done) | (simp; omega))) | (apply ACall.genB; (case' eS => apply h3); (case eG => (simp only [go_sem, *]; first | with_reducible exact rfl | (repeat' first | with_reducible exact rfl | refine cons_eq ?_ ?_ | refine agg_eq ?_ | refine asl_eq ?_ ?_ | omega | (simp only [go_sem]; done) | (simp only [go_sem]; omega)))); all_goals (first | with_reducible refine Keep.mk ?_ | omega | assumption | decide | (simp; done) | (simp; omega))) | (apply ACall.genB; (case eS => exact h4'); (case eG => (simp only [go_sem, *]; first | with_reducible exact rfl | (repeat' first | with_reducible exact rfl | refine cons_eq ?_ ?_ | refine agg_eq ?_ | refine asl_eq ?_ ?_ | omega | (simp only [go_sem]; done) | (simp only [go_sem]; omega)))); all_goals (first | with_reducible refine Keep.mk ?_ | omega | assumption | decide | (simp; done) | (simp; omega))) | (apply ACall.genB; (case' eS => apply h5); (case eG => (simp only [go_sem, *]; first | with_reducible exact rfl | (repeat' first | with_reducible exact rfl | refine cons_eq ?_ ?_ | refine agg_eq ?_ | refine asl_eq ?_ ?_ | omega | (simp only [go_sem]; done) | (simp only [go_sem]; omega)))); all_goals (first | with_reducible refine Keep.mk ?_ | omega | assumption | decide | (simp; done) | (simp; omega))) | (apply ACall.genB; (case' eS => first | apply ofm_sum | apply check_sum | apply same_sum | apply write_sum | apply none_sum); (case eG => (simp only [go_sem, *]; first | with_reducible exact rfl | (repeat' first | with_reducible exact rfl | refine cons_eq ?_ ?_ | refine agg_eq ?_ | refine asl_eq ?_ ?_ | omega | (simp only [go_sem]; done) | (simp only [go_sem]; omega)))); all_goals (first | with_reducible refine Keep.mk ?_ | omega | assumption | decide | (simp; done) | (simp; omega))) | ((first | ((with_reducible refine And.intro (fun hg => ?_) (fun hg => ?_)) <;> ((try simp only [go_sem] at hg); (try ((have hT0 : True := hg); clear hT0 hg)); (try have hgN := Nat.not_lt.2 hg); (try have hgN := Int.not_lt.2 hg); (try (revert hg; intro _)); (try (exfalso; omega)))) | ((with_reducible refine And.intro (fun H' hS => ?_) ?_) <;> (try simp only [go_sem] at hS))) <;> (try simp only [go_sem, *])) | ((with_reducible refine opt_if (by omega) ?_); exact rfl) | ((with_reducible refine opt_opt_if (by omega) ?_); exact rfl) | ((first | (with_reducible refine And.intro (fun H' => ?_) ?_) | (with_reducible first | (intro H' hS; (try simp only [go_sem] at hS)) | intro _) | (with_reducible refine And.intro (by omega) ?_)) <;> (try simp only [go_sem, *])) | fail)
end Go.Proofs.YtkbmkgcenehenaaDoor
