/- FilterNames: contracts at its own arguments. -/
import Derived.Test.YtflmhccniamkeaaF17
import Derived.Test.YtflmhccniamkeaaF21
set_option linter.unusedSimpArgs false
set_option linter.unusedVariables false
set_option maxHeartbeats 4000000
set_option maxRecDepth 100000
namespace Go.Proofs.Ytflmhccniamkeaa
open Go Hm Go.ChangeShapes Go.WideShapes Go.ChangeAt Go.RowKit
attribute [local go_sem] Int.reduceEq Int.reduceNe Int.reduceLT Int.reduceLE Int.reduceNeg Int.reduceToNat Int.reduceAdd Int.reduceSub Int.reduceMul Int.reducePow Int.reduceDiv Int.reduceMod ite_eq_left_iff ite_eq_right_iff imp_false Nat.reduceLT Nat.reduceEqDiff Nat.reduceAdd Nat.reduceSub Nat.reduceMul Nat.reduceLeDiff Nat.reduceBEq reduceIte
theorem zr (n : Nat) : ∃ z : List Int, z.length = n ∧ Byt z ∧ List.replicate n (PV.int .u8 0) = z.map (PV.int .u8) := ⟨List.replicate n 0, List.length_replicate, rep_byt (by decide) n, List.map_replicate.symm⟩
abbrev NE (e : Int) : LV := .tup [.pv (.asl false [] 0), .pv (.int .i64 e)]
theorem one_ne {k n : Int} {b : List Int} {e : Int} {m : Nat} (hb : Byt b) (hl : b.length = m) (h65 : m ≤ 65536) (h : oneE k n b = e) (h0 : e ≠ 0) : Sum Try.prog G 10 [.agg [.int .u8 k, .int .i64 n], .asl true (b.map (PV.int .u8)) m] (Is (NE e) []) := by
  have := one_sum k n b hb (by unfold maxLen; omega)
  rw [h, one_err h h0] at this
  subst hl
  exact this
theorem bck_ne {k n : Int} {b : List Int} {e : Int} {m : Nat} (hb : Byt b) (hl : b.length = m) (h65 : m ≤ 65536) (h : bckE k n b = e) (h0 : e ≠ 0) : Sum Try.prog G 12 [.agg [.int .u8 k, .int .i64 n], .asl true (b.map (PV.int .u8)) m] (Is (NE e) []) := by
  have := bck_sum k n b hb (by unfold maxLen; omega)
  rw [h, bck_err h h0] at this
  subst hl
  exact this
theorem ap_ne {l : List Fl} {b : List Int} {e : Int} {c m : Nat} (hc : l.length = c) (hc2 : c ≤ 10) (hb : Byt b) (hl : b.length = m) (h65 : m ≤ 65536) (h : apE l b = e) (h0 : e ≠ 0) : Sum Try.prog G 18 [.asl true (l.flatMap Fl.c) c, .asl true (b.map (PV.int .u8)) m] (Is (NE e) []) := by
  have := apply_sum l (by unfold maxLen; omega) b hb (by unfold maxLen; omega)
  rw [h, ap_err h h0] at this
  subst hl hc
  exact this
theorem un_ne {l : List Fl} {b : List Int} {e : Int} {c m : Nat} (hc : l.length = c) (hc2 : c ≤ 10) (hb : Byt b) (hl : b.length = m) (h65 : m ≤ 65536) (h : unE l b = e) (h0 : e ≠ 0) : Sum Try.prog G 20 [.asl true (l.flatMap Fl.c) c, .asl true (b.map (PV.int .u8)) m] (Is (NE e) []) := by
  have := undo_sum l (by unfold maxLen; omega) b hb (by unfold maxLen; omega)
  rw [h, un_err h h0] at this
  subst hl hc
  exact this
theorem apE_bad {l : List Fl} {b : List Int} {e : Int} (h : chE l = e) (h0 : e ≠ 0) : apE l b = e := by unfold apE; rw [h, if_neg h0]
theorem unE_bad {l : List Fl} {b : List Int} {e : Int} (h : chE l = e) (h0 : e ≠ 0) : unE l b = e := by unfold unE; rw [h, if_neg h0]
theorem oneE_bad {k n : Int} {b : List Int} {e : Int} (h : flE k n = e) (h0 : e ≠ 0) : oneE k n b = e := by unfold oneE; rw [h, if_neg h0]
theorem bckE_bad {k n : Int} {b : List Int} {e : Int} (h : flE k n = e) (h0 : e ≠ 0) : bckE k n b = e := by unfold bckE; rw [h, if_neg h0]
section
variable {f : Fl} (he : flE f.kind f.n = 8) {z : List Int} (bz : Byt z)
include he bz
theorem rd1 (l : z.length = 10126) : Sum Try.prog G 10 [.agg [.int .u8 f.kind, .int .i64 f.n], .asl true (z.map (PV.int .u8)) 10126] (Is (NE 8) []) := one_ne bz l (by decide) (oneE_bad he (by decide)) (by decide)
theorem rd3 (l : z.length = 2001) : Sum Try.prog G 18 [.asl true [.int .u8 3, .int .i64 0, .int .u8 f.kind, .int .i64 f.n] 2, .asl true (z.map (PV.int .u8)) 2001] (Is (NE 8) []) := ap_ne (l := [⟨3, 0⟩, f]) rfl (by decide) bz l (by decide) (apE_bad (ch_two he) (by decide)) (by decide)
omit bz
theorem rd2 : Sum Try.prog G 12 [.agg [.int .u8 f.kind, .int .i64 f.n], .asl true [] 0] (Is (NE 8) []) := bck_ne (b := []) Byt.nil rfl (by decide) (bckE_bad he (by decide)) (by decide)
theorem rd4 : Sum Try.prog G 20 [.asl true [.int .u8 f.kind, .int .i64 f.n] 1, .asl true [] 0] (Is (NE 8) []) := un_ne (l := [f]) (b := []) rfl (by decide) Byt.nil rfl (by decide) (unE_bad (ch_one he) (by decide)) (by decide)
theorem rd5 : Sum Try.prog G 14 [.agg [.int .u8 f.kind, .int .i64 f.n]] (Is (.pv (.int .i64 8)) []) := by
  have := check_sum f.kind f.n
  rwa [he] at this
end
theorem ch_five : chE [⟨0, 0⟩, ⟨0, 0⟩, ⟨0, 0⟩, ⟨0, 0⟩, ⟨0, 0⟩] = 4 := if_pos (by decide)
theorem ch_nil : chE [] = 0 := chE_of (by simp) (by simp)
section
variable {z : List Int} (bz : Byt z)
include bz
theorem e1 (l : z.length = 10126) : Sum Try.prog G 10 [.agg [.int .u8 3, .int .i64 0], .asl true (z.map (PV.int .u8)) 10126] (Is (NE 4) []) := one_ne bz l (by decide) (by unfold oneE; rw [if_pos (show flE 3 0 = 0 from rfl), if_pos (by omega)]) (by decide)
theorem e2 (l : z.length = 10126) : Sum Try.prog G 12 [.agg [.int .u8 3, .int .i64 0], .asl true (z.map (PV.int .u8)) 10126] (Is (NE 4) []) := bck_ne bz l (by decide) (by unfold bckE; rw [if_pos (show flE 3 0 = 0 from rfl), if_pos (by omega)]) (by decide)
theorem e5 (l : z.length = 2001) : Sum Try.prog G 18 [.asl true [] 0, .asl true (z.map (PV.int .u8)) 2001] (Is (NE 4) []) := ap_ne (l := []) rfl (by decide) bz l (by decide) (by unfold apE; rw [if_pos ch_nil, if_pos (by omega)]) (by decide)
theorem e6 (l : z.length = 10126) : Sum Try.prog G 20 [.asl true [] 0, .asl true (z.map (PV.int .u8)) 10126] (Is (NE 4) []) := un_ne (l := []) rfl (by decide) bz l (by decide) (by unfold unE; rw [if_pos ch_nil, if_pos (by omega)]) (by decide)
theorem e7 (l : z.length = 2001) : Sum Try.prog G 20 [.asl true [] 0, .asl true (z.map (PV.int .u8)) 2001] (Is (NE 12) []) := un_ne (l := []) rfl (by decide) bz l (by decide) (by rw [unE_eq ch_nil (by omega)]; exact if_pos (by omega)) (by decide)
theorem e8 (l : z.length = 2000) : ∃ x : List Int, Sum Try.prog G 18 [.asl true [.int .u8 3, .int .i64 0, .int .u8 3, .int .i64 0, .int .u8 3, .int .i64 0, .int .u8 3, .int .i64 0] 4, .asl true (z.map (PV.int .u8)) 2000] (Is (.tup [.pv (.asl false (x.map (PV.int .u8)) x.length), .pv (.int .i64 0)]) []) ∧
    Sum Try.prog G 20 [.asl true [.int .u8 3, .int .i64 0, .int .u8 3, .int .i64 0, .int .u8 3, .int .i64 0, .int .u8 3, .int .i64 0] 4, .asl true (x.map (PV.int .u8)) x.length] (Is (.tup [.pv (.asl false (z.map (PV.int .u8)) 2000), .pv (.int .i64 0)]) []) := by
  obtain ⟨x, xB, xl, f1, f2, f3, f4, _⟩ := ch_inv ch_runs bz (by omega)
  have t1 := apply_sum [⟨3, 0⟩, ⟨3, 0⟩, ⟨3, 0⟩, ⟨3, 0⟩] (by unfold maxLen; simp) z bz (by unfold maxLen; omega)
  have t2 := undo_sum [⟨3, 0⟩, ⟨3, 0⟩, ⟨3, 0⟩, ⟨3, 0⟩] (by unfold maxLen; simp) x xB (by unfold maxLen; omega)
  rw [f1, f2] at t1
  rw [f3, f4] at t2
  rw [byt, l] at t1
  rw [l] at t2
  exact ⟨x, t1, t2⟩
end
theorem e9 {z : List Int} (l : z.length = 2000) : Sum Try.prog G 16 [.asl true (z.map (PV.int .u8)) 2000, .asl true (z.map (PV.int .u8)) 2000] (Is (.pv (.bool true)) []) := by
  have := sameBytes_sum z z (by unfold maxLen; omega) (by unfold maxLen; omega)
  rw [decide_eq_true rfl, l] at this
  exact this
theorem e3 : Sum Try.prog G 18 [.asl true [.int .u8 0, .int .i64 0, .int .u8 0, .int .i64 0, .int .u8 0, .int .i64 0, .int .u8 0, .int .i64 0, .int .u8 0, .int .i64 0] 5, .asl true [] 0] (Is (NE 4) []) := ap_ne (l := [⟨0, 0⟩, ⟨0, 0⟩, ⟨0, 0⟩, ⟨0, 0⟩, ⟨0, 0⟩]) (b := []) rfl (by decide) Byt.nil rfl (by decide) (apE_bad ch_five (by decide)) (by decide)
theorem e4 : Sum Try.prog G 20 [.asl true [.int .u8 0, .int .i64 0, .int .u8 0, .int .i64 0, .int .u8 0, .int .i64 0, .int .u8 0, .int .i64 0, .int .u8 0, .int .i64 0] 5, .asl true [] 0] (Is (NE 4) []) := un_ne (l := [⟨0, 0⟩, ⟨0, 0⟩, ⟨0, 0⟩, ⟨0, 0⟩, ⟨0, 0⟩]) (b := []) rfl (by decide) Byt.nil rfl (by decide) (unE_bad ch_five (by decide)) (by decide)
theorem e10 : ∃ x : List Int, x = wd 40 ∧ Sum Try.prog G 12 [.agg [.int .u8 3, .int .i64 0], .asl true (x.map (PV.int .u8)) 120] (Is (NE 12) []) := ⟨wd 40, rfl, bck_ne (wd_byt (by decide)) (wd_len 40) (by decide) wd_bad.1 (by decide)⟩
end Go.Proofs.Ytflmhccniamkeaa
