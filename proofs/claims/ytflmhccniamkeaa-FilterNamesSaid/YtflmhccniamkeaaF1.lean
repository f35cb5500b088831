/- Filters: what functions of the library answer. -/
import Derived.Test.YtflmhccniamkeaaFG
import Derived.Test.YtflmhccniamkeaaF0
set_option linter.unusedSimpArgs false
set_option linter.unusedVariables false
set_option maxHeartbeats 4000000
set_option maxRecDepth 100000
namespace Go.Proofs.Ytflmhccniamkeaa
open Go Hm Go.ChangeShapes Go.WideShapes Go.ChangeAt Go.RowKit
attribute [local go_sem] Int.reduceEq Int.reduceNe Int.reduceLT Int.reduceLE Int.reduceNeg Int.reduceToNat Int.reduceAdd Int.reduceSub Int.reduceMul Int.reducePow Int.reduceDiv Int.reduceMod ite_eq_left_iff ite_eq_right_iff imp_false Nat.reduceLT Nat.reduceEqDiff Nat.reduceAdd Nat.reduceSub Nat.reduceMul Nat.reduceLeDiff Nat.reduceBEq reduceIte
open Go.Lib in
section
@[go_sem] abbrev byt (l : List Int) : PV := .asl true (l.map (PV.int .u8)) l.length
@[go_sem] abbrev bytF (l : List Int) : PV := .asl false (l.map (PV.int .u8)) l.length
theorem asl_bytes {w : World} {ok : Bool → Nat → Prop} {l : List Int} {v : Value} (h : Imm w ok (.asl true (l.map (PV.int .u8)) l.length) v) : (l = [] ∧ v = .slice none 0 0) ∨ ∃ a cap, v = .slice (some a) l.length cap ∧ l.length ≤ cap ∧ ∀ i, i < l.length → w.cell? (a.add i) = some (.int .u8 (l.getD i 0)) := by
  generalize hn : l.length = n at h
  generalize hc : l.map (PV.int .u8) = cs at h
  cases h with
  | asl0 => exact .inl ⟨List.eq_nil_of_length_eq_zero hn, rfl⟩
  | asl f cells len v h =>
    refine .inr ?_
    cases h with
    | slz f cells a cap => exact ⟨a, cap, rfl, by omega, fun i hi => by omega⟩
    | sl f cells len blk off cap vs hl h1 hcc hv =>
      refine ⟨_, cap, rfl, hl, fun i hi => ?_⟩
      subst hn
      subst hc
      have e : (⟨blk, off, none⟩ : Addr).add i = ⟨blk, off + i, none⟩ := by
        unfold Addr.add; split
        · rename_i h; simp [h]
        · rfl
      rw [e, (hcc i (by simpa using hi)).2]
      have := hv i (.int .u8 (l.getD i 0)) (by rw [List.getElem?_map, List.getElem?_eq_getElem hi, getD_get l 0 hi]; rfl)
      generalize vs i = z at this
      cases this
      rfl
theorem f8_inj {x y : Int} (hx : 0 ≤ x ∧ x < 256) (hy : 0 ≤ y ∧ y < 256) : f8 x = f8 y ↔ x = y := by
  constructor
  · intro h
    have := congrArg (fun b : UInt8 => (b.toNat : Int)) h
    simp only [f8_nat hx, f8_nat hy] at this
    exact this
  · rintro rfl; rfl
theorem indexByte_eq {x : Int} (hx : 0 ≤ x ∧ x < 256) : ∀ {l : List Int}, Byt l → x ∈ l → Lib.indexByte (l.map f8) (f8 x) = (l.idxOf x : Nat)
  | [], _, h => by cases h
  | a :: r, hB, h => by
    rw [List.map_cons, Lib.indexByte, List.idxOf_cons]
    have ha := hB a (.head _)
    by_cases e : a = x
    · subst e; simp
    · have e2 : ¬ f8 a = f8 x := fun h' => e ((f8_inj ha hx).1 h')
      have h2 : x ∈ r := by
        rcases List.mem_cons.1 h with h | h
        · exact absurd h.symm e
        · exact h
      have ih := indexByte_eq hx hB.tail h2
      have e3 : (f8 a == f8 x) = false := by simpa using e2
      have e4 : (a == x) = false := by simpa using e
      rw [e3, e4, ih]
      have e5 : (((r.idxOf x : Nat) : Int) == -1) = false := by rw [beq_eq_false_iff_ne]; omega
      rw [e5]
      simp
theorem indexByte_sum (l : List Int) (hB : Byt l) (x : Int) (hx : 0 ≤ x ∧ x < 256) (hm : x ∈ l) : Sum Try.prog G 35 [.asl true (l.map (PV.int .u8)) l.length, .int .u8 x] (Is (.pv (.int .i64 (l.idxOf x : Nat))) []) := by
  refine ⟨⟨_, Try.func35, rfl, rfl⟩, fun w vs hG hlen hv => ?_⟩
  obtain ⟨v1, v2, rfl⟩ : ∃ v1 v2, vs = [v1, v2] := by
    match vs, hlen with
    | [a, b], _ => exact ⟨a, b, rfl⟩
  have i1 := hv 0 _ v1 rfl rfl
  have i2 := hv 1 _ v2 rfl rfl
  cases i2
  have key : ∀ r : Int, (Calls Try.prog 35 #[v1, .int .u8 x] w fun e w' => e = .returned (.int .i64 r) ∧ w' = w) → Calls Try.prog 35 #[v1, .int .u8 x] w fun e w' => ∃ v lv H β, e = .returned v ∧ Is (.pv (.int .i64 r)) [] lv H ∧ Pack w w' H β ∧ LR β H.length w' (okFr w β H w') lv v := by
    intro r h
    refine h.mono ?_
    rintro e w' ⟨rfl, rfl⟩
    refine ⟨_, _, [], id, rfl, ⟨rfl, rfl⟩, ⟨⟨rfl, rfl, rfl, Nat.le_refl _, fun _ _ => rfl⟩, by simp, by simp, by simp, by simp, by simp⟩, .pv (.int _ _)⟩
  refine key _ ?_
  rcases asl_bytes i1 with ⟨rfl, rfl⟩ | ⟨a1, c1, rfl, hc1, hd1⟩
  · cases hm
  · have h := Any.bytes_IndexByte_at { Try.ibLays with } a1 _ c1 l x w rfl hd1
    have e : Lib.indexByte (Lib.bytesOf l) x.toNat.toUInt8 = (l.idxOf x : Nat) := indexByte_eq hx hB hm
    rw [e] at h
    exact h
theorem mul_sum (m : Nat) (hm : m < 18446744073709551616) : Sum Try.prog G 52 [.int .u64 1, .int .u64 m] (Is (.tup [.pv (.int .u64 0), .pv (.int .u64 m)]) []) := by
  refine ⟨⟨_, Try.func52, rfl, rfl⟩, fun w vs hG hlen hv => ?_⟩
  obtain ⟨v1, v2, rfl⟩ : ∃ v1 v2, vs = [v1, v2] := by
    match vs, hlen with
    | [a, b], _ => exact ⟨a, b, rfl⟩
  have i1 := hv 0 _ v1 rfl rfl
  have i2 := hv 1 _ v2 rfl rfl
  cases i1
  cases i2
  refine (Any.bits_Mul { Try.muLays with } 1 m (by decide) hm w).mono ?_
  rintro e w' ⟨rfl, rfl⟩
  have e1 : 1 * m / 18446744073709551616 = 0 := by omega
  have e2 : 1 * m % 18446744073709551616 = m := by omega
  rw [e1, e2]
  refine ⟨_, _, [], id, rfl, ⟨rfl, rfl⟩, ⟨⟨rfl, rfl, rfl, Nat.le_refl _, fun _ _ => rfl⟩, by simp, by simp, by simp, by simp, by simp⟩, ?_⟩
  refine .tup _ _ rfl fun i p v h1 h2 => ?_
  match i, h1, h2 with
  | 0, h1, h2 => cases h1; cases h2; exact .pv (.int _ _)
  | 1, h1, h2 => cases h1; cases h2; exact .pv (.int _ _)
end
theorem equal_sum (a b : List Int) (ha : Byt a) (hb : Byt b) (hla : a.length ≤ 65536) (hlb : b.length ≤ 65536) : Sum Try.prog G 51 [.asl true (a.map (PV.int .u8)) a.length, .asl true (b.map (PV.int .u8)) b.length] (Is (.pv (.bool (decide (a = b)))) []) := by
  (refine Sum.uniW (Sum.body hT Try.func51 rfl rfl Try.ntmps51 Try.results51 (by simp) ?_); simp only [go_sem, *])
  (repeat' first | with_reducible refine RK.out ?_ | with_reducible refine RC.out ?_ | with_reducible refine RA.out ?_ | refine AWp.seqN ?_ | refine AWp.region hT rfl ?_ | refine AWp.block ?_ | refine AWp.calm hT hM rfl (by decide +kernel) ?_ | ((first | (first | refine runOps_step rfl ?_ | refine runOps_nil ?_ | refine runOps_guardQ rfl rfl ?_ | refine runCalm_step rfl ?_ | refine runCalm_nil ?_ | refine runCalm_guardQ rfl rfl ?_ | refine AWp.cond ?_ | refine AWp.skip ?_ | refine AWp.ret ?_ | refine AWp.exit ?_ | refine BodyPost.retA ?_ | refine BodyPost.norA ?_ | with_reducible refine Keep.mk ?_) | simp (disch := omega) only [wrap_i64, wrap_i32, Int.toNat_natCast, Int.emod_eq_of_lt, Int.emod_emod, gd, gdS]) <;> (try simp only [go_sem, *])) | ((first | ((with_reducible refine And.intro (fun hg => ?_) (fun hg => ?_)) <;> ((try simp only [go_sem] at hg); (try ((have hT0 : True := hg); clear hT0 hg)); (try have hgN := Nat.not_lt.2 hg); (try have hgN := Int.not_lt.2 hg); (try (revert hg; intro _)); (try (exfalso; omega)))) | ((with_reducible refine And.intro (fun H' hS => ?_) ?_) <;> (try simp only [go_sem] at hS))) <;> (try simp only [go_sem, *])) | ((with_reducible refine opt_if (by omega) ?_); exact rfl) | ((with_reducible refine opt_opt_if (by omega) ?_); exact rfl) | ((first | (with_reducible refine And.intro (fun H' => ?_) ?_) | (with_reducible first | (intro H' hS; (try simp only [go_sem] at hS)) | intro _) | (with_reducible refine And.intro (by omega) ?_)) <;> (try simp only [go_sem, *])) | fail)
  exact bool_iff (bs_inj ha hb)
theorem clone_sum (l : List Int) (hl : l.length ≤ 65536) : Sum Try.prog G 31 [.asl true (l.map (PV.int .u8)) l.length] (Is (.pv (.asl false (l.map (PV.int .u8)) l.length)) []) := by
  have h : Sum Try.prog G 31 [.asl true (l.map (PV.int .u8)) l.length] (fun lv H => (lv.toImm H).wk (.pv (.asl false (l.map (PV.int .u8)) l.length))) := by
    refine Sum.asl [] (fun h0 => ?_) ?_
    · have : l = [] := List.eq_nil_of_length_eq_zero h0
      subst this
      refine Sum.body hT Try.func31 rfl rfl Try.ntmps31 Try.results31 (by simp) ?_
      simp only [go_sem, *]
      (repeat' first | with_reducible refine RK.out ?_ | with_reducible refine RC.out ?_ | with_reducible refine RA.out ?_ | refine AWp.seqN ?_ | refine AWp.region hT rfl ?_ | refine AWp.block ?_ | refine AWp.calm hT hM rfl (by decide +kernel) ?_ | ((first | (first | refine runOps_step rfl ?_ | refine runOps_nil ?_ | refine runOps_guardQ rfl rfl ?_ | refine runCalm_step rfl ?_ | refine runCalm_nil ?_ | refine runCalm_guardQ rfl rfl ?_ | refine AWp.cond ?_ | refine AWp.skip ?_ | refine AWp.ret ?_ | refine AWp.exit ?_ | refine BodyPost.retA ?_ | refine BodyPost.norA ?_ | with_reducible refine Keep.mk ?_) | simp (disch := omega) only [wrap_i64, wrap_i32, Int.toNat_natCast, Int.emod_eq_of_lt, Int.emod_emod, gd, gdS]) <;> (try simp only [go_sem, *])) | ((first | ((with_reducible refine And.intro (fun hg => ?_) (fun hg => ?_)) <;> ((try simp only [go_sem] at hg); (try ((have hT0 : True := hg); clear hT0 hg)); (try have hgN := Nat.not_lt.2 hg); (try have hgN := Int.not_lt.2 hg); (try (revert hg; intro _)); (try (exfalso; omega)))) | ((with_reducible refine And.intro (fun H' hS => ?_) ?_) <;> (try simp only [go_sem] at hS))) <;> (try simp only [go_sem, *])) | ((with_reducible refine opt_if (by omega) ?_); exact rfl) | ((with_reducible refine opt_opt_if (by omega) ?_); exact rfl) | ((first | (with_reducible refine And.intro (fun H' => ?_) ?_) | (with_reducible first | (intro H' hS; (try simp only [go_sem] at hS)) | intro _) | (with_reducible refine And.intro (by omega) ?_)) <;> (try simp only [go_sem, *])) | fail)
    · refine Sum.body hT Try.func31 rfl rfl Try.ntmps31 Try.results31 (by simp) ?_
      simp only [go_sem, *]
      (repeat' first | with_reducible refine RK.out ?_ | with_reducible refine RC.out ?_ | with_reducible refine RA.out ?_ | refine AWp.seqN ?_ | refine AWp.region hT rfl ?_ | refine AWp.block ?_ | refine AWp.calm hT hM rfl (by decide +kernel) ?_ | ((first | (first | refine runOps_step rfl ?_ | refine runOps_nil ?_ | refine runOps_guardQ rfl rfl ?_ | refine runCalm_step rfl ?_ | refine runCalm_nil ?_ | refine runCalm_guardQ rfl rfl ?_ | refine AWp.cond ?_ | refine AWp.skip ?_ | refine AWp.ret ?_ | refine AWp.exit ?_ | refine BodyPost.retA ?_ | refine BodyPost.norA ?_ | with_reducible refine Keep.mk ?_) | simp (disch := omega) only [wrap_i64, wrap_i32, Int.toNat_natCast, Int.emod_eq_of_lt, Int.emod_emod, gd, gdS]) <;> (try simp only [go_sem, *])) | ((first | ((with_reducible refine And.intro (fun hg => ?_) (fun hg => ?_)) <;> ((try simp only [go_sem] at hg); (try ((have hT0 : True := hg); clear hT0 hg)); (try have hgN := Nat.not_lt.2 hg); (try have hgN := Int.not_lt.2 hg); (try (revert hg; intro _)); (try (exfalso; omega)))) | ((with_reducible refine And.intro (fun H' hS => ?_) ?_) <;> (try simp only [go_sem] at hS))) <;> (try simp only [go_sem, *])) | ((with_reducible refine opt_if (by omega) ?_); exact rfl) | ((with_reducible refine opt_opt_if (by omega) ?_); exact rfl) | ((first | (with_reducible refine And.intro (fun H' => ?_) ?_) | (with_reducible first | (intro H' hS; (try simp only [go_sem] at hS)) | intro _) | (with_reducible refine And.intro (by omega) ?_)) <;> (try simp only [go_sem, *])) | fail)
  exact h.uni fun lv H h => h
theorem cloneB_ref (l : List Int) (hl : l.length ≤ 65536) (h0 : 0 < l.length) : Sum Try.prog G 31 [.asl true (l.map (PV.int .u8)) l.length] (Is (.nref 0 l.length 1) [.n (l.map (PV.int .u8))]) := by
  refine Sum.asl [] (fun h => ?_) ?_
  · omega
  · refine Sum.body hT Try.func31 rfl rfl Try.ntmps31 Try.results31 (by simp) ?_
    simp only [go_sem, *]
    (repeat' first | with_reducible refine RK.out ?_ | with_reducible refine RC.out ?_ | with_reducible refine RA.out ?_ | refine AWp.seqN ?_ | refine AWp.region hT rfl ?_ | refine AWp.block ?_ | refine AWp.calm hT hM rfl (by decide +kernel) ?_ | ((first | (first | refine runOps_step rfl ?_ | refine runOps_nil ?_ | refine runOps_guardQ rfl rfl ?_ | refine runCalm_step rfl ?_ | refine runCalm_nil ?_ | refine runCalm_guardQ rfl rfl ?_ | refine AWp.cond ?_ | refine AWp.skip ?_ | refine AWp.ret ?_ | refine AWp.exit ?_ | refine BodyPost.retA ?_ | refine BodyPost.norA ?_ | with_reducible refine Keep.mk ?_) | simp (disch := omega) only [wrap_i64, wrap_i32, Int.toNat_natCast, Int.emod_eq_of_lt, Int.emod_emod, gd, gdS]) <;> (try simp only [go_sem, *])) | ((first | ((with_reducible refine And.intro (fun hg => ?_) (fun hg => ?_)) <;> ((try simp only [go_sem] at hg); (try ((have hT0 : True := hg); clear hT0 hg)); (try have hgN := Nat.not_lt.2 hg); (try have hgN := Int.not_lt.2 hg); (try (revert hg; intro _)); (try (exfalso; omega)))) | ((with_reducible refine And.intro (fun H' hS => ?_) ?_) <;> (try simp only [go_sem] at hS))) <;> (try simp only [go_sem, *])) | ((with_reducible refine opt_if (by omega) ?_); exact rfl) | ((with_reducible refine opt_opt_if (by omega) ?_); exact rfl) | ((first | (with_reducible refine And.intro (fun H' => ?_) ?_) | (with_reducible first | (intro H' hS; (try simp only [go_sem] at hS)) | intro _) | (with_reducible refine And.intro (by omega) ?_)) <;> (try simp only [go_sem, *])) | fail)
end Go.Proofs.Ytflmhccniamkeaa
