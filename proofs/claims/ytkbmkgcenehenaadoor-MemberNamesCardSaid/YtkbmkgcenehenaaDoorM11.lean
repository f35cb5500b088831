/- Records: what Of of the program and of the reference answer, and comparisons. -/
import Derived.Test.YtkbmkgcenehenaaDoorM1
import Derived.Test.YtkbmkgcenehenaaDoorM10
set_option linter.unusedSimpArgs false
set_option linter.unusedVariables false
set_option maxHeartbeats 4000000
set_option maxRecDepth 100000
namespace Go.Proofs.YtkbmkgcenehenaaDoor
open Go Hm Go.ChangeShapes Go.WideShapes Go.ChangeAt Go.RowKit
attribute [local go_sem] Int.reduceEq Int.reduceNe Int.reduceLT Int.reduceLE Int.reduceNeg Int.reduceToNat Int.reduceAdd Int.reduceSub Int.reduceMul Int.reducePow Int.reduceDiv Int.reduceMod ite_eq_left_iff ite_eq_right_iff imp_false Nat.reduceLT Nat.reduceEqDiff Nat.reduceAdd Nat.reduceSub Nat.reduceMul Nat.reduceLeDiff Nat.reduceBEq reduceIte
structure Rec where
  name : ByteArray
  size : Int
  sum : { l : List Int // l.length = 20 }
deriving DecidableEq
theorem Rec.eqD (x y : Rec) : x = y ↔ x.name = y.name ∧ x.size = y.size ∧ x.sum = y.sum := by cases x; cases y; simp
instance : Inhabited Rec := ⟨⟨.empty, 0, ⟨List.replicate 20 0, by simp⟩⟩⟩
@[go_sem] def Rec.c (x : Rec) : List PV := [.str x.name, .int .i64 x.size] ++ x.sum.1.map (PV.int .u8)
theorem Rec.c_len (x : Rec) : x.c.length = 22 := by simp [Rec.c, x.sum.2]
@[go_sem] theorem Rec.c_fl (l : List Rec) : (l.flatMap Rec.c).length = l.length * 22 := flat_len Rec.c_len l
@[go_sem] theorem Rec.c_g0 (l : List Rec) (k : Nat) (h : k < l.length) : (l.flatMap Rec.c)[k * 22]? = some (.str (l.getD k default).name) := flat_get Rec.c_len l default k 0 h (by decide)
@[go_sem] theorem Rec.c_g1 (l : List Rec) (k : Nat) (h : k < l.length) : (l.flatMap Rec.c)[k * 22 + 1]? = some (.int .i64 (l.getD k default).size) := flat_get Rec.c_len l default k 1 h (by decide)
@[go_sem] theorem Rec.c_pt (l : List Rec) (k : Nat) (h : k < l.length) : ((l.flatMap Rec.c).drop (k * 22)).take 22 = (l.getD k default).c := flat_part Rec.c_len l default k h
@[go_sem] theorem Rec.c_ol (x : Rec) : PV.olds x.c = x.c := by simp only [Rec.c, Rec.c, go_sem]
@[go_sem] theorem Rec.c_ols (l : List Rec) : PV.olds (l.flatMap Rec.c) = l.flatMap Rec.c := flat_olds' Rec.c_ol l
theorem Rec.c_ge (x : Rec) : PV.gens x.c = x.c := by simp only [Rec.c, go_sem]
@[go_sem] theorem Rec.c_ges (l : List Rec) : PV.gens (l.flatMap Rec.c) = l.flatMap Rec.c := flat_gens Rec.c_ge l
@[go_sem] theorem Rec.c_fr (x : Rec) : PV.freshs x.c = true := by simp only [Rec.c, go_sem]
@[go_sem] theorem Rec.c_frs (l : List Rec) : PV.freshs (l.flatMap Rec.c) = true := flat_freshs Rec.c_fr l
def Rec.ok (x : Rec) : Prop := x.name.size ≤ maxLen ∧ (Lit.int .i64 x.size).wf = true ∧ Byt x.sum.1
theorem Rec.typ {n : Nat} {cs : List PV} (h : Typ T (n + 3) 54 cs) : ∃ x : Rec, cs = x.c ∧ x.ok := by
  obtain ⟨a0, r0, rfl, h0, a1, r1, rfl, h1, a2, r2, rfl, h2, rfl⟩ := typ_struct h T54 rfl
  obtain ⟨v0, rfl, w0⟩ := typ_str h0 T9 und9
  obtain ⟨v1, rfl, w1⟩ := typ_int h1 T3 und3
  obtain ⟨v2, rfl, w2, u2⟩ := typ_arr h2 T52 und52 T5 und5
  exact ⟨⟨v0, v1, ⟨v2, w2⟩⟩, by simp [Rec.c], w0, w1, fun x hx => byt_wf (u2 x hx)⟩
theorem Rec.typs {n t : Nat} {i : TI} {cs : List PV} (h : Typ T (n + 4) t cs) (ht : T t = some i) (hu : i.und = .slice 54) : ∃ l : List Rec, cs = [.asl true (l.flatMap Rec.c) l.length] ∧ l.length ≤ maxLen ∧ ∀ x ∈ l, x.ok := by
  obtain ⟨es, rfl, h1, h2⟩ := typ_slice h ht hu
  obtain ⟨l, rfl, h3⟩ := typ_elems (f := Rec.c) (R := Rec.ok) fun c hc => Rec.typ (h2 c hc)
  exact ⟨l, by rw [List.flatMap_def, List.length_map], by simpa using h1, h3⟩

theorem list_ne {α : Type} {a b : List α} {i : Nat} (d : α) (h : a.getD i d ≠ b.getD i d) : a ≠ b := fun e => h (by rw [e])
theorem list_eqD {α : Type} {a b : List α} (d : α) (hl : a.length = b.length) (h : ∀ i, i < a.length → a.getD i d = b.getD i d) : a = b := by
  refine List.ext_getElem hl fun i h1 h2 => ?_
  have := h i h1
  rwa [getD_get _ _ h1, getD_get _ _ h2] at this
theorem okD {α : Type} {R : α → Prop} {l : List α} {i : Nat} (d : α) (h : ∀ x ∈ l, R x) (hi : i < l.length) : R (l.getD i d) := by
  rw [getD_get l d hi]
  exact h _ (List.getElem_mem hi)
theorem sameMembers_sum (a b : List Mem) (ha : Small a) (hb : Small b) (ka : ∀ x ∈ a, x.ok) (kb : ∀ x ∈ b, x.ok) : Sum Tryd.prog G 16 [.asl true (a.flatMap Mem.c) a.length, .asl true (b.flatMap Mem.c) b.length] (Is (.pv (.bool (decide (a = b)))) []) := by
  have hla := ha.len
  have hlb := hb.len
  (refine Sum.uniW (Sum.body hT Tryd.func16 rfl rfl Tryd.ntmps16 Tryd.results16 (by simp) ?_); simp only [go_sem, *])
  (repeat' first | with_reducible refine RK.out ?_ | with_reducible refine RC.out ?_ | with_reducible refine RA.out ?_ | refine AWp.seqN ?_ | refine AWp.region hT rfl ?_ | refine AWp.block ?_ | refine AWp.calm hT hM rfl (by decide +kernel) ?_ | ((first | (first | refine runOps_step rfl ?_ | refine runOps_nil ?_ | refine runOps_guardQ rfl rfl ?_ | refine runCalm_step rfl ?_ | refine runCalm_nil ?_ | refine runCalm_guardQ rfl rfl ?_ | refine AWp.cond ?_ | refine AWp.skip ?_ | refine AWp.ret ?_ | refine AWp.exit ?_ | refine BodyPost.retA ?_ | refine BodyPost.norA ?_ | with_reducible refine Keep.mk ?_) | simp (disch := omega) only [wrap_i64, wrap_i32, Int.toNat_natCast, Int.emod_eq_of_lt, Int.emod_emod, gd, gdS]) <;> (try simp only [go_sem, *])) | ((first | ((with_reducible refine And.intro (fun hg => ?_) (fun hg => ?_)) <;> ((try simp only [go_sem] at hg); (try ((have hT0 : True := hg); clear hT0 hg)); (try have hgN := Nat.not_lt.2 hg); (try have hgN := Int.not_lt.2 hg); (try (revert hg; intro _)); (try (exfalso; omega)))) | ((with_reducible refine And.intro (fun H' hS => ?_) ?_) <;> (try simp only [go_sem] at hS))) <;> (try simp only [go_sem, *])) | ((with_reducible refine opt_if (by omega) ?_); exact rfl) | ((with_reducible refine opt_opt_if (by omega) ?_); exact rfl) | ((first | (with_reducible refine And.intro (fun H' => ?_) ?_) | (with_reducible first | (intro H' hS; (try simp only [go_sem] at hS)) | intro _) | (with_reducible refine And.intro (by omega) ?_)) <;> (try simp only [go_sem, *])) | fail)
  · refine bool_no fun h => ?_
    subst h
    omega
  (focus (refine AWp.loopA [0, 1, 5] (fun k : Nat => k ≤ a.length ∧ ∀ i, i < k → a.getD i default = b.getD i default) (fun k => a.length - k) (fun k => [(5, .pv (.int .i64 k))]) (fun _ => []) (0) ?_; simp only [go_sem, *]; apply HeadA.mk; (case' hE => ((try simp only [go_sem, *]); (repeat' first | with_reducible rfl | omega | with_reducible refine St_eq ?_ ?_ | with_reducible refine fr_eq ?_ ?_ | with_reducible refine hb_eq ?_ ?_ | with_reducible refine pv_eq ?_ | with_reducible refine ref_eq ?_ ?_ ?_ ?_ | with_reducible refine nref_eq ?_ ?_ ?_ | with_reducible refine blkp_eq ?_ | with_reducible refine blkn_eq ?_ | with_reducible refine int_eq ?_ | with_reducible refine cons_eq ?_ ?_ | with_reducible refine agg_eq ?_ | with_reducible refine asl_eq ?_ ?_); all_goals (try rfl))); (case' hJ => (try (first | omega | (simp; done) | (simp; omega) | exact ⟨by omega, fun i h => by omega⟩ | exact fun i h => by omega | (refine ⟨?_, ?_⟩ <;> first | omega | (simp; done)) | (refine ⟨?_, ?_, ?_⟩ <;> first | omega | (simp; done)))))))
  rintro k ⟨hk, hi⟩
  by_cases hk' : k < a.length
  · have hk2 : k < b.length := by omega
    (repeat' first | with_reducible refine RK.out ?_ | with_reducible refine RC.out ?_ | with_reducible refine RA.out ?_ | refine AWp.seqN ?_ | refine AWp.region hT rfl ?_ | refine AWp.block ?_ | refine AWp.calm hT hM rfl (by decide +kernel) ?_ | ((first | (first | refine runOps_step rfl ?_ | refine runOps_nil ?_ | refine runOps_guardQ rfl rfl ?_ | refine runCalm_step rfl ?_ | refine runCalm_nil ?_ | refine runCalm_guardQ rfl rfl ?_ | refine AWp.cond ?_ | refine AWp.skip ?_ | refine AWp.ret ?_ | refine AWp.exit ?_ | refine BodyPost.retA ?_ | refine BodyPost.norA ?_ | with_reducible refine Keep.mk ?_) | simp (disch := omega) only [wrap_i64, wrap_i32, Int.toNat_natCast, Int.emod_eq_of_lt, Int.emod_emod, gd, gdS]) <;> (try simp only [go_sem, *])) | ((first | ((with_reducible refine And.intro (fun hg => ?_) (fun hg => ?_)) <;> ((try simp only [go_sem] at hg); (try ((have hT0 : True := hg); clear hT0 hg)); (try have hgN := Nat.not_lt.2 hg); (try have hgN := Int.not_lt.2 hg); (try (revert hg; intro _)); (try (exfalso; omega)))) | ((with_reducible refine And.intro (fun H' hS => ?_) ?_) <;> (try simp only [go_sem] at hS))) <;> (try simp only [go_sem, *])) | ((with_reducible refine opt_if (by omega) ?_); exact rfl) | ((with_reducible refine opt_opt_if (by omega) ?_); exact rfl) | ((first | (with_reducible refine And.intro (fun H' => ?_) ?_) | (with_reducible first | (intro H' hS; (try simp only [go_sem] at hS)) | intro _) | (with_reducible refine And.intro (by omega) ?_)) <;> (try simp only [go_sem, *])) | fail)
    · refine bool_no fun h => ?_
      subst h
      contradiction
    · have e : a.getD k default = b.getD k default := (Mem.eqD _ _).2 ⟨‹_›, (bs_inj (okD default ka hk').2.2 (okD default kb hk2).2.2).1 ‹_›⟩
      (focus (apply RoundA.mk (k + 1); (case' hE => (first | (simp only [go_sem, *]; (repeat' first | with_reducible rfl | omega | with_reducible refine St_eq ?_ ?_ | with_reducible refine fr_eq ?_ ?_ | with_reducible refine hb_eq ?_ ?_ | with_reducible refine pv_eq ?_ | with_reducible refine ref_eq ?_ ?_ ?_ ?_ | with_reducible refine nref_eq ?_ ?_ ?_ | with_reducible refine blkp_eq ?_ | with_reducible refine blkn_eq ?_ | with_reducible refine int_eq ?_ | with_reducible refine cons_eq ?_ ?_ | with_reducible refine agg_eq ?_ | with_reducible refine asl_eq ?_ ?_)) | skip)); (case' hM => (first | omega | (simp only; omega) | skip)); (case' hJ => (try (first | omega | (simp only; omega) | (simp; done) | (simp; omega) | (simp [*]; done) | (simp [*]; omega))))))
      exact ⟨by omega, all_succ hi e⟩
    · refine bool_no fun h => ?_
      subst h
      contradiction
  · have e : a = b := list_eqD default (by omega) fun i h => hi i (by omega)
    (repeat' first | with_reducible refine RK.out ?_ | with_reducible refine RC.out ?_ | with_reducible refine RA.out ?_ | refine AWp.seqN ?_ | refine AWp.region hT rfl ?_ | refine AWp.block ?_ | refine AWp.calm hT hM rfl (by decide +kernel) ?_ | ((first | (first | refine runOps_step rfl ?_ | refine runOps_nil ?_ | refine runOps_guardQ rfl rfl ?_ | refine runCalm_step rfl ?_ | refine runCalm_nil ?_ | refine runCalm_guardQ rfl rfl ?_ | refine AWp.cond ?_ | refine AWp.skip ?_ | refine AWp.ret ?_ | refine AWp.exit ?_ | refine BodyPost.retA ?_ | refine BodyPost.norA ?_ | with_reducible refine Keep.mk ?_) | simp (disch := omega) only [wrap_i64, wrap_i32, Int.toNat_natCast, Int.emod_eq_of_lt, Int.emod_emod, gd, gdS]) <;> (try simp only [go_sem, *])) | ((first | ((with_reducible refine And.intro (fun hg => ?_) (fun hg => ?_)) <;> ((try simp only [go_sem] at hg); (try ((have hT0 : True := hg); clear hT0 hg)); (try have hgN := Nat.not_lt.2 hg); (try have hgN := Int.not_lt.2 hg); (try (revert hg; intro _)); (try (exfalso; omega)))) | ((with_reducible refine And.intro (fun H' hS => ?_) ?_) <;> (try simp only [go_sem] at hS))) <;> (try simp only [go_sem, *])) | ((with_reducible refine opt_if (by omega) ?_); exact rfl) | ((with_reducible refine opt_opt_if (by omega) ?_); exact rfl) | ((first | (with_reducible refine And.intro (fun H' => ?_) ?_) | (with_reducible first | (intro H' hS; (try simp only [go_sem] at hS)) | intro _) | (with_reducible refine And.intro (by omega) ?_)) <;> (try simp only [go_sem, *])) | fail)
/-- The record of a member. -/
def recM (m : Mem) : Rec := ⟨m.name, m.data.length, ⟨shaL m.data, shaL_len _⟩⟩
theorem digest_sum (b : List Int) (hB : Byt b) (hl : b.length ≤ 20000) : Sum Tryd.prog G 31 [.asl true (b.map (PV.int .u8)) b.length] (Is (.pv (.agg ((shaL b).map (PV.int .u8)))) []) := by
  have hd := shaL_len b
  have hq := putA_whole ([.int .u8 0, .int .u8 0, .int .u8 0, .int .u8 0, .int .u8 0, .int .u8 0, .int .u8 0, .int .u8 0, .int .u8 0, .int .u8 0, .int .u8 0, .int .u8 0, .int .u8 0, .int .u8 0, .int .u8 0, .int .u8 0, .int .u8 0, .int .u8 0, .int .u8 0, .int .u8 0]) ((shaL b).map (PV.int .u8)) (by simp [hd])
  have ht := List.take_of_length_le (i := 20) (l := shaL b) (by omega)
  (refine Sum.uniW (Sum.body hT Tryd.func31 rfl rfl Tryd.ntmps31 Tryd.results31 (by simp) ?_); simp only [go_sem, *])
  (repeat' first | with_reducible refine RK.out ?_ | with_reducible refine RC.out ?_ | with_reducible refine RA.out ?_ | refine AWp.seqN ?_ | refine AWp.region hT rfl ?_ | refine AWp.block ?_ | refine AWp.calm hT hM rfl (by decide +kernel) ?_ | ((first | (first | refine runOps_step rfl ?_ | refine runOps_nil ?_ | refine runOps_guardQ rfl rfl ?_ | refine runCalm_step rfl ?_ | refine runCalm_nil ?_ | refine runCalm_guardQ rfl rfl ?_ | refine AWp.cond ?_ | refine AWp.skip ?_ | refine AWp.ret ?_ | refine AWp.exit ?_ | refine BodyPost.retA ?_ | refine BodyPost.norA ?_ | with_reducible refine Keep.mk ?_) | simp (disch := omega) only [wrap_i64, wrap_i32, Int.toNat_natCast, Int.emod_eq_of_lt, Int.emod_emod, gd, gdS]) <;> (try simp only [go_sem, *])) | (apply ACall.genB; (case' eS => first | apply sha_sum); (case eG => (simp only [go_sem, *]; first | with_reducible exact rfl | (repeat' first | with_reducible exact rfl | refine cons_eq ?_ ?_ | refine agg_eq ?_ | refine asl_eq ?_ ?_ | omega | (simp only [go_sem]; done) | (simp only [go_sem]; omega)))); all_goals (first | with_reducible refine Keep.mk ?_ | omega | assumption | decide | (simp; done) | (simp; omega))) | ((first | ((with_reducible refine And.intro (fun hg => ?_) (fun hg => ?_)) <;> ((try simp only [go_sem] at hg); (try ((have hT0 : True := hg); clear hT0 hg)); (try have hgN := Nat.not_lt.2 hg); (try have hgN := Int.not_lt.2 hg); (try (revert hg; intro _)); (try (exfalso; omega)))) | ((with_reducible refine And.intro (fun H' hS => ?_) ?_) <;> (try simp only [go_sem] at hS))) <;> (try simp only [go_sem, *])) | ((with_reducible refine opt_if (by omega) ?_); exact rfl) | ((with_reducible refine opt_opt_if (by omega) ?_); exact rfl) | ((first | (with_reducible refine And.intro (fun H' => ?_) ?_) | (with_reducible first | (intro H' hS; (try simp only [go_sem] at hS)) | intro _) | (with_reducible refine And.intro (by omega) ?_)) <;> (try simp only [go_sem, *])) | fail)
def z20 : List PV := [.int .u8 0, .int .u8 0, .int .u8 0, .int .u8 0, .int .u8 0, .int .u8 0, .int .u8 0, .int .u8 0, .int .u8 0, .int .u8 0, .int .u8 0, .int .u8 0, .int .u8 0, .int .u8 0, .int .u8 0, .int .u8 0, .int .u8 0, .int .u8 0, .int .u8 0, .int .u8 0]
theorem putA_rec (s n : PV) (l : List Int) (h : l.length = 20) : putA (s :: n :: z20) 2 (l.map (PV.int .u8)) = s :: n :: l.map (PV.int .u8) := by
  rw [putA_eq (by simp [h, z20])]
  simp [h, z20]
theorem putA_rec0 (s n : PV) (l : List PV) (h : l.length = 22) : putA (s :: n :: z20) 0 l = l := putA_whole _ _ (by rw [h]; rfl)
theorem record_sum (m : Mem) (hB : Byt m.data) (hl : m.data.length ≤ 20000) : Sum Tryd.prog G 32 [.agg [.str m.name, .asl true (m.data.map (PV.int .u8)) m.data.length]] (Is (.pv (.agg (recM m).c)) []) := by
  have hd := shaL_len m.data
  have ht := List.take_of_length_le (i := 20) (l := shaL m.data) (by omega)
  have e : (recM m).c = .str m.name :: .int .i64 m.data.length :: (shaL m.data).map (PV.int .u8) := rfl
  have hr := fun s n => putA_rec s n (shaL m.data) hd
  have hr0 := putA_rec0 (.str .empty) (.int .i64 0) (.str m.name :: .int .i64 m.data.length :: (shaL m.data).map (PV.int .u8)) (by simp [hd])
  unfold z20 at hr hr0
  rw [e]
  clear e
  (refine Sum.uniW (Sum.body hT Tryd.func32 rfl rfl Tryd.ntmps32 Tryd.results32 (by simp) ?_); simp only [go_sem, *])
  (repeat' first | with_reducible refine RK.out ?_ | with_reducible refine RC.out ?_ | with_reducible refine RA.out ?_ | refine AWp.seqN ?_ | refine AWp.region hT rfl ?_ | refine AWp.block ?_ | refine AWp.calm hT hM rfl (by decide +kernel) ?_ | ((first | (first | refine AWp.drawnG (id := 1) [0, 1, 2, 3, 4, 5, 6, 7, 8] 9 [] [] [] hT hM rfl rfl (by decide +kernel) ?_ ?_ | refine runOps_step rfl ?_ | refine runOps_nil ?_ | refine runOps_guardQ rfl rfl ?_ | refine runCalm_step rfl ?_ | refine runCalm_nil ?_ | refine runCalm_guardQ rfl rfl ?_ | refine runAuto_nil ?_ | refine runAuto_calm rfl rfl ?_ | refine runAuto_eff rfl rfl ?_ | refine runAuto_calmGQ rfl rfl rfl ?_ | refine runAuto_effGQ rfl rfl rfl ?_ | refine RT.line ?_ | refine RT.alts ?_ ?_ | refine RT.done ?_ | apply RT.none | refine AWp.cond ?_ | refine AWp.skip ?_ | refine AWp.ret ?_ | refine AWp.exit ?_ | refine BodyPost.retA ?_ | refine BodyPost.norA ?_ | with_reducible refine Keep.mk ?_) | simp (disch := omega) only [wrap_i64, wrap_i32, Int.toNat_natCast, Int.emod_eq_of_lt, Int.emod_emod, gd, gdS]) <;> (try simp only [go_sem, *])) | (apply ACall.genB; (case' eS => first | apply of_sum); (case eG => (simp only [go_sem, *]; first | with_reducible exact rfl | (repeat' first | with_reducible exact rfl | refine cons_eq ?_ ?_ | refine agg_eq ?_ | refine asl_eq ?_ ?_ | omega | (simp only [go_sem]; done) | (simp only [go_sem]; omega)))); all_goals (first | with_reducible refine Keep.mk ?_ | omega | assumption | decide | (simp; done) | (simp; omega))) | ((first | ((with_reducible refine And.intro (fun hg => ?_) (fun hg => ?_)) <;> ((try simp only [go_sem] at hg); (try ((have hT0 : True := hg); clear hT0 hg)); (try have hgN := Nat.not_lt.2 hg); (try have hgN := Int.not_lt.2 hg); (try (revert hg; intro _)); (try (exfalso; omega)))) | ((with_reducible refine And.intro (fun H' hS => ?_) ?_) <;> (try simp only [go_sem] at hS))) <;> (try simp only [go_sem, *])) | ((with_reducible refine opt_if (by omega) ?_); exact rfl) | ((with_reducible refine opt_opt_if (by omega) ?_); exact rfl) | ((first | (with_reducible refine And.intro (fun H' => ?_) ?_) | (with_reducible first | (intro H' hS; (try simp only [go_sem] at hS)) | intro _) | (with_reducible refine And.intro (by omega) ?_)) <;> (try simp only [go_sem, *])) | fail)
end Go.Proofs.YtkbmkgcenehenaaDoor
