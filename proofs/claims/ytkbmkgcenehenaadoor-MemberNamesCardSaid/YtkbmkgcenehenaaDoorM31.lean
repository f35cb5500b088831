/- The law MemberNames: what its calls answer. -/
import Derived.Test.YtkbmkgcenehenaaDoorM37
import Derived.Test.YtkbmkgcenehenaaDoorM22
set_option linter.unusedSimpArgs false
set_option linter.unusedVariables false
set_option maxHeartbeats 4000000
set_option maxRecDepth 100000
namespace Go.Proofs.YtkbmkgcenehenaaDoor
open Go Hm Go.ChangeShapes Go.WideShapes Go.ChangeAt Go.RowKit
attribute [local go_sem] Int.reduceEq Int.reduceNe Int.reduceLT Int.reduceLE Int.reduceNeg Int.reduceToNat Int.reduceAdd Int.reduceSub Int.reduceMul Int.reducePow Int.reduceDiv Int.reduceMod ite_eq_left_iff ite_eq_right_iff imp_false Nat.reduceLT Nat.reduceEqDiff Nat.reduceAdd Nat.reduceSub Nat.reduceMul Nat.reduceLeDiff Nat.reduceBEq reduceIte
def bS : ByteArray := ⟨#[98]⟩
def yS : ByteArray := ⟨#[121]⟩
def zzS : ByteArray := ⟨#[122, 122]⟩
def lS : ByteArray := ⟨#[33, 126, 97, 97, 97, 97, 97, 97, 97, 97, 97, 97, 97, 97, 97, 97, 97, 97, 97, 97, 97, 97, 97, 97, 97, 97, 97, 97, 97, 97, 97, 97, 97, 97, 97, 97, 97, 97, 97, 97]⟩
theorem xS_ok : NmP xS := by decide +kernel
theorem bS_ok : NmP bS := by decide +kernel
theorem yS_ok : NmP yS := by decide +kernel
theorem lS_ok : NmP lS := by decide +kernel
def z20S : { l : List Int // l.length = 20 } := ⟨[0, 0, 0, 0, 0, 0, 0, 0, 0, 0, 0, 0, 0, 0, 0, 0, 0, 0, 0, 0], rfl⟩
@[irreducible] def zs (n : Nat) : List Int := List.replicate n 0
theorem zs_len (n : Nat) : (zs n).length = n := by unfold zs; exact List.length_replicate
theorem zs_byt (n : Nat) : Byt (zs n) := fun x hx => by unfold zs at hx; rw [List.eq_of_mem_replicate hx]; omega
theorem zs_byt0 (n : Nat) : ∀ x ∈ zs n, x = 0 := fun x hx => by unfold zs at hx; exact List.eq_of_mem_replicate hx
theorem vld1b {r : Rec} (h : badR r) : vldR [r] = 8 := by
  unfold vldR
  rw [if_neg (by simp), if_pos ⟨0, by simp, by rw [getD1 _ _ (by simp)]; exact h⟩]
theorem smR1 (r : Rec) (h : r.name.size ≤ 300) : SmallR [r] := ⟨by simp, fun i hi => by rw [getD1 _ _ hi]; exact h⟩
theorem one_c (r : Rec) : [r].flatMap Rec.c = r.c := by simp
theorem check_bad (nm : ByteArray) (h : ¬ NmP nm) (hs : nm.size ≤ 100) : Sum Tryd.prog (GE) 13 [.asl true [.str nm, .nil] 1] (Is (.pv (.int .i64 8)) []) := by
  have e : chkM [⟨nm, []⟩] = 8 := by
    unfold chkM
    rw [if_neg (by simp [sumD]), if_pos ⟨0, by simp, h⟩]
  have h1 := sum_up (check_sum [⟨nm, []⟩] (sm1 _ (by simp) hs)) ge_up
  rw [e] at h1
  exact sum_deep h1 ⟨rfl, ⟨rfl, rfl⟩, trivial⟩
theorem valid_bad (r : Rec) (h : badR r) (hs : r.name.size ≤ 300) : Sum Tryd.prog (GE) 22 [.asl true r.c 1] (Is (.pv (.int .i64 8)) []) := by
  have h1 := sum_up (valid_sum [r] (smR1 r hs)) ge_up
  rwa [vld1b h, one_c] at h1
theorem write_bad (r : Rec) (h : badR r) (hs : r.name.size ≤ 300) : Sum Tryd.prog (GE) 18 [.asl true r.c 1] (Is (.tup [.pv (.asl false [] 0), .pv (.int .i64 8)]) []) := by
  have h1 := sum_up (write_sum [r] (smR1 r hs)) ge_up
  have e : wrtR [r] = [] := if_neg (by rw [vld1b h]; decide)
  rwa [vld1b h, one_c, e] at h1
theorem find_bad (r : Rec) (h : badR r) (hs : r.name.size ≤ 300) (s : ByteArray) : Sum Tryd.prog (GE) 20 [.asl true r.c 1, .str s] (Is (.tup [.pv (.int .i64 0), .pv (.int .i64 8)]) []) := by
  have h1 := sum_up (find_sum [r] (smR1 r hs) s) ge_up
  have e1 : fndA [r] s = 0 := if_neg (by rw [vld1b h]; decide)
  have e2 : fndE [r] s = 8 := by unfold fndE; rw [vld1b h, if_neg (by decide)]
  rwa [e1, e2, one_c] at h1
theorem right_bad (r : Rec) (h : badR r) (hs : r.name.size ≤ 300) (s : ByteArray) : Sum Tryd.prog (GE) 24 [.agg r.c, .agg [.str s, .asl true [] 0]] (Is (.tup [.pv (.bool false), .pv (.int .i64 8)]) []) := by
  have h1 := sum_up (right_sum r hs ⟨s, []⟩ Byt.nil (by simp)) ge_up
  have e1 : rgtB r ⟨s, []⟩ = false := if_neg (by rw [vld1b h]; decide)
  rw [e1, vld1b h] at h1
  exact h1
def rB (n : Int) : Rec := ⟨xS, n, z20S⟩
theorem rB1 : badR (rB (-1)) := .inr (.inl (by decide))
theorem rB2 : badR (rB 8193) := .inr (.inr (.inl (by decide)))
theorem rB3 : badR (rB 0) := .inr (.inr (.inr ⟨rfl, fun h => absurd (h.trans shaL_none) (by decide)⟩))
def full : List Mem := [⟨lS, zs 8191⟩, ⟨bS, [1]⟩]
def over : List Mem := [⟨lS, zs 8191⟩, ⟨bS, [1, 2]⟩]
theorem two_lt {α : Type} [Inhabited α] {P : α → Prop} {a b : α} (h1 : P a) (h2 : P b) : ∀ i, i < [a, b].length → P ([a, b].getD i default)
  | 0, _ => h1
  | 1, _ => h2
theorem full_sm : Small full := ⟨by decide, two_lt (P := fun m : Mem => m.data.length ≤ 10000 ∧ m.name.size ≤ 100) ⟨by simp [zs_len], by decide⟩ ⟨by decide, by decide⟩⟩
theorem over_sm : Small over := ⟨by decide, two_lt (P := fun m : Mem => m.data.length ≤ 10000 ∧ m.name.size ≤ 100) ⟨by simp [zs_len], by decide⟩ ⟨by decide, by decide⟩⟩
theorem byt2 : Byt [1, 2] := fun x hx => by simp at hx; omega
theorem byt1 : Byt [1] := fun x hx => by simp at hx; omega
theorem full_ok : ∀ x ∈ full, x.ok := fun x hx => by
  rcases List.mem_cons.1 hx with rfl | hx
  · exact ⟨by decide, by simp [zs_len, maxLen], zs_byt _⟩
  · rw [List.mem_singleton.1 hx]; exact ⟨by decide, by simp [maxLen], byt1⟩
theorem over_ok : ∀ x ∈ over, x.ok := fun x hx => by
  rcases List.mem_cons.1 hx with rfl | hx
  · exact ⟨by decide, by simp [zs_len, maxLen], zs_byt _⟩
  · rw [List.mem_singleton.1 hx]; exact ⟨by decide, by simp [maxLen], byt2⟩
theorem lb_ne : lS ≠ bS := by decide +kernel
theorem full_chk : chkM full = 0 := by
  unfold chkM
  rw [if_neg (by simp [full, sumD, zs_len]), if_neg, if_neg (by simp [full, names, lb_ne])]
  rintro ⟨i, hi, h⟩
  exact two_lt (P := fun m : Mem => ¬ ¬ NmP m.name) (fun h => h lS_ok) (fun h => h bS_ok) i hi h
theorem over_chk : chkM over = 4 := by
  unfold chkM
  rw [if_pos (by simp [over, sumD, zs_len])]
theorem of_over : Sum Tryd.prog (GE) 11 [.asl true (over.flatMap Mem.c) 2] (Is (.tup [.pv (.asl false [] 0), .pv (.int .i64 4)]) []) := by
  have h1 := sum_up (ofm_sum over over_sm over_ok) ge_up
  have e : ofL over = [] := if_neg (by rw [over_chk]; decide)
  rwa [e, over_chk] at h1
theorem rep_lt {α : Type} [Inhabited α] {P : α → Prop} {a : α} (n : Nat) (h : P a) (i : Nat) (hi : i < (List.replicate n a).length) : P ((List.replicate n a).getD i default) := by
  rw [getD_get _ _ hi, List.getElem_replicate]; exact h
theorem of_many : Sum Tryd.prog (GE) 11 [.asl true (List.replicate 17 [PV.str ByteArray.empty, .nil]).flatten 17] (Is (.tup [.pv (.asl false [] 0), .pv (.int .i64 4)]) []) := by
  have e0 : chkM (List.replicate 17 (⟨ByteArray.empty, []⟩ : Mem)) = 4 := by
    unfold chkM
    rw [if_pos (by simp)]
  have h1 := sum_up (ofm_sum (List.replicate 17 (⟨ByteArray.empty, []⟩ : Mem)) ⟨by simp, fun i hi => rep_lt (P := fun m : Mem => m.data.length ≤ 10000 ∧ m.name.size ≤ 100) 17 ⟨by decide, by decide⟩ i hi⟩ (fun x hx => by rw [List.eq_of_mem_replicate hx]; exact ⟨by decide, by decide, Byt.nil⟩)) ge_up
  have e : ofL (List.replicate 17 (⟨ByteArray.empty, []⟩ : Mem)) = [] := if_neg (by rw [e0]; decide)
  rw [e, e0] at h1
  refine sum_deep h1 ?_
  repeat' first | exact trivial | exact rfl | constructor
theorem of_twice : Sum Tryd.prog (GE) 11 [.asl true [.str xS, .nil, .str xS, .nil] 2] (Is (.tup [.pv (.asl false [] 0), .pv (.int .i64 14)]) []) := by
  have e0 : chkM [⟨xS, []⟩, ⟨xS, []⟩] = 14 := by
    unfold chkM
    rw [if_neg (by simp [sumD]), if_neg, if_pos (by simp [names])]
    rintro ⟨i, hi, h⟩
    exact two_lt (P := fun m : Mem => ¬ ¬ NmP m.name) (fun h => h xS_ok) (fun h => h xS_ok) i hi h
  have h1 := sum_up (ofm_sum [⟨xS, []⟩, ⟨xS, []⟩] ⟨by decide, two_lt (P := fun m : Mem => m.data.length ≤ 10000 ∧ m.name.size ≤ 100) ⟨by decide, by decide⟩ ⟨by decide, by decide⟩⟩ (fun x hx => by
    have : x = ⟨xS, []⟩ := by simpa using hx
    rw [this]; exact ⟨by decide, by decide, Byt.nil⟩)) ge_up
  have e : ofL [⟨xS, []⟩, ⟨xS, []⟩] = [] := if_neg (by rw [e0]; decide)
  rw [e, e0] at h1
  exact sum_deep h1 ⟨rfl, ⟨rfl, rfl⟩, rfl, ⟨rfl, rfl⟩, trivial⟩
theorem full_of : ofL full = [recM ⟨lS, zs 8191⟩, recM ⟨bS, [1]⟩] := if_pos full_chk
theorem full_vld : vldR (ofL full) = 0 := by
  have h := vld_rec full_chk
  have e : ofL full = full.map recM := if_pos full_chk
  rwa [e]
theorem full_smR : SmallR (ofL full) := by
  rw [full_of]
  exact ⟨by simp, two_lt (P := fun r : Rec => r.name.size ≤ 300) (by show lS.size ≤ 300; decide) (by show bS.size ≤ 300; decide)⟩
theorem of_full : Sum Tryd.prog (GE) 11 [.asl true (full.flatMap Mem.c) 2] (Is (.tup [.pv (.asl false ((ofL full).flatMap Rec.c) 2), .pv (.int .i64 0)]) []) := by
  have h1 := sum_up (ofm_sum full full_sm full_ok) ge_up
  have e : (ofL full).length = 2 := by rw [full_of]; rfl
  rwa [e, full_chk] at h1
theorem check_full : Sum Tryd.prog (GE) 13 [.asl true (full.flatMap Mem.c) 2] (Is (.pv (.int .i64 0)) []) := by
  have h1 := sum_up (check_sum full full_sm) ge_up
  rwa [full_chk] at h1
theorem fI_zz : fI zzS (ofL full) 0 = none := by
  rw [full_of]
  show (if lS = zzS then _ else if bS = zzS then _ else none) = _
  rw [if_neg (by decide +kernel), if_neg (by decide +kernel)]
theorem fI_b : fI bS (ofL full) 0 = some 1 := by
  rw [full_of]
  show (if lS = bS then _ else if bS = bS then _ else none) = _
  rw [if_neg lb_ne, if_pos rfl]
theorem find_zz : Sum Tryd.prog (GE) 20 [.asl true ((ofL full).flatMap Rec.c) 2, .str zzS] (Is (.tup [.pv (.int .i64 0), .pv (.int .i64 6)]) []) := by
  have h1 := sum_up (find_sum (ofL full) full_smR zzS) ge_up
  have e : (ofL full).length = 2 := by rw [full_of]; rfl
  have e1 : fndA (ofL full) zzS = 0 := by unfold fndA; rw [if_pos full_vld, fI_zz]
  have e2 : fndE (ofL full) zzS = 6 := by unfold fndE; rw [if_pos full_vld, fI_zz]
  rwa [e, e1, e2] at h1
theorem find_b : Sum Tryd.prog (GE) 20 [.asl true ((ofL full).flatMap Rec.c) 2, .str bS] (Is (.tup [.pv (.int .i64 1), .pv (.int .i64 0)]) []) := by
  have h1 := sum_up (find_sum (ofL full) full_smR bS) ge_up
  have e : (ofL full).length = 2 := by rw [full_of]; rfl
  have e1 : fndA (ofL full) bS = 1 := by unfold fndA; rw [if_pos full_vld, fI_b]; rfl
  have e2 : fndE (ofL full) bS = 0 := by unfold fndE; rw [if_pos full_vld, fI_b]
  rwa [e, e1, e2] at h1
def rP (s : ByteArray) (n : Int) : Rec := ⟨s, n, z20S⟩
theorem rP_good (s : ByteArray) (n : Int) (h : NmP s) (h1 : 0 < n) (h2 : n ≤ 8192) : ¬ badR (rP s n) := by
  unfold badR
  rintro (k | k | k | ⟨k, _⟩)
  · exact k h
  · have : n < 0 := k
    omega
  · have : 8192 < n := k
    omega
  · have : n = 0 := k
    omega
theorem valid_many : Sum Tryd.prog (GE) 22 [.asl true ([rP xS 8192, rP yS 1].flatMap Rec.c) 2] (Is (.pv (.int .i64 4)) []) := by
  have e : vldR [rP xS 8192, rP yS 1] = 4 := by
    unfold vldR
    rw [if_neg (by simp), if_neg, if_pos (by simp [sumR, rP])]
    rintro ⟨i, hi, h⟩
    exact two_lt (P := fun r : Rec => ¬ badR r) (rP_good _ _ xS_ok (by decide) (by decide)) (rP_good _ _ yS_ok (by decide) (by decide)) i hi h
  have h1 := sum_up (valid_sum [rP xS 8192, rP yS 1] ⟨by simp, two_lt (P := fun r : Rec => r.name.size ≤ 300) (by decide) (by decide)⟩) ge_up
  rwa [e] at h1
theorem valid_twice : Sum Tryd.prog (GE) 22 [.asl true ([rP xS 1, rP xS 1].flatMap Rec.c) 2] (Is (.pv (.int .i64 14)) []) := by
  have e : vldR [rP xS 1, rP xS 1] = 14 := by
    unfold vldR
    rw [if_neg (by simp), if_neg, if_neg (by simp [sumR, rP]), if_pos (by simp [namesR])]
    rintro ⟨i, hi, h⟩
    exact two_lt (P := fun r : Rec => ¬ badR r) (rP_good _ _ xS_ok (by decide) (by decide)) (rP_good _ _ xS_ok (by decide) (by decide)) i hi h
  have h1 := sum_up (valid_sum [rP xS 1, rP xS 1] ⟨by simp, two_lt (P := fun r : Rec => r.name.size ≤ 300) (by decide) (by decide)⟩) ge_up
  rwa [e] at h1
def r0 : Rec := ⟨ByteArray.empty, 0, z20S⟩
theorem write_many : Sum Tryd.prog (GE) 18 [.asl true (List.replicate 17 [PV.str ByteArray.empty, .int .i64 0, .int .u8 0, .int .u8 0, .int .u8 0, .int .u8 0, .int .u8 0, .int .u8 0, .int .u8 0, .int .u8 0, .int .u8 0, .int .u8 0, .int .u8 0, .int .u8 0, .int .u8 0, .int .u8 0, .int .u8 0, .int .u8 0, .int .u8 0, .int .u8 0, .int .u8 0, .int .u8 0]).flatten 17] (Is (.tup [.pv (.asl false [] 0), .pv (.int .i64 4)]) []) := by
  have e0 : vldR (List.replicate 17 r0) = 4 := by
    unfold vldR
    rw [if_pos (by simp)]
  have h1 := sum_up (write_sum (List.replicate 17 r0) ⟨by simp, fun i hi => rep_lt (P := fun r : Rec => r.name.size ≤ 300) 17 (by decide) i hi⟩) ge_up
  have e : wrtR (List.replicate 17 r0) = [] := if_neg (by rw [e0]; decide)
  rwa [e, e0] at h1
theorem read_fail (b : List Int) (hB : Byt b) (hl : b.length ≤ 1000000) (n e : Int) (h : rdE b n = e) (he : e ≠ 0) : Sum Tryd.prog (GE) 28 [.asl true (b.map (PV.int .u8)) b.length, .int .i64 n] (Is (.tup [.pv (.asl false [] 0), .pv (.int .i64 0), .pv (.int .i64 e)]) []) := by
  obtain ⟨e1, e2⟩ := rd_fail h he
  have h1 := read_sum b hB hl n
  rwa [h, e1, e2] at h1
theorem read_neg : Sum Tryd.prog (GE) 28 [.asl true [] 0, .int .i64 (-1)] (Is (.tup [.pv (.asl false [] 0), .pv (.int .i64 0), .pv (.int .i64 2)]) []) := read_fail [] Byt.nil (by simp) (-1) 2 (if_pos (by decide)) (by decide)
theorem read_b17 : Sum Tryd.prog (GE) 28 [.asl true ((zs 50001).map (PV.int .u8)) 50001, .int .i64 17] (Is (.tup [.pv (.asl false [] 0), .pv (.int .i64 0), .pv (.int .i64 2)]) []) := by
  have h1 := read_fail (zs 50001) (zs_byt _) (by rw [zs_len]; decide) 17 2 (if_pos (by decide)) (by decide)
  rwa [zs_len] at h1
theorem read_b16 : Sum Tryd.prog (GE) 28 [.asl true ((zs 50001).map (PV.int .u8)) 50001, .int .i64 16] (Is (.tup [.pv (.asl false [] 0), .pv (.int .i64 0), .pv (.int .i64 4)]) []) := by
  have h1 := read_fail (zs 50001) (zs_byt _) (by rw [zs_len]; decide) 16 4 (by unfold rdE; rw [if_neg (by decide), if_pos (by rw [zs_len]; decide)]) (by decide)
  rwa [zs_len] at h1
theorem rdN_1 (b : List Int) (h : rdC b 0) : rdN b 1 = none := by
  show (match rdN b 0 with | none => none | some (L, at') => if rdC b at' then none else _) = _
  exact if_pos h
theorem read_nil1 : Sum Tryd.prog (GE) 28 [.asl true [] 0, .int .i64 1] (Is (.tup [.pv (.asl false [] 0), .pv (.int .i64 0), .pv (.int .i64 18)]) []) :=
  read_fail [] Byt.nil (by simp) 1 18 (rdE_none (m := 1) (by decide) (by simp) (rdN_1 _ (.inl (by simp)))) (by decide)
theorem zs_get (n i : Nat) (h : i < n) : (zs n).getD i 0 = 0 := by
  rw [getD_get _ _ (by rw [zs_len]; exact h)]
  exact zs_byt0 _ _ (List.getElem_mem _)
theorem zs_map (n : Nat) : (zs n).map (PV.int .u8) = List.replicate n (.int .u8 0) := by unfold zs; exact List.map_replicate
theorem read_z22 : Sum Tryd.prog (GE) 28 [.asl true (List.replicate 22 (PV.int .u8 0)) 22, .int .i64 1] (Is (.tup [.pv (.asl false [] 0), .pv (.int .i64 0), .pv (.int .i64 18)]) []) := by
  have h1 := read_fail (zs 22) (zs_byt _) (by rw [zs_len]; decide) 1 18 (rdE_none (m := 1) (by decide) (by rw [zs_len]; decide) (rdN_1 _ (.inr (by rw [zs_len, zs_get _ _ (by decide)]; decide)))) (by decide)
  rwa [zs_len, zs_map] at h1
theorem read_z23 : Sum Tryd.prog (GE) 28 [.asl true (List.replicate 23 (PV.int .u8 0)) 23, .int .i64 1] (Is (.tup [.pv (.asl false [] 0), .pv (.int .i64 0), .pv (.int .i64 12)]) []) := by
  have hc : ¬ rdC (zs 23) 0 := by unfold rdC; rw [zs_len, zs_get _ _ (by decide)]; decide
  have hn : rdN (zs 23) 1 = some ([] ++ [rdR (zs 23) 0], 0 + ((zs 23).getD 0 0).toNat + 23) := rdN_next (i := 0) rfl hc
  have hb : badR (rdR (zs 23) 0) := .inl (by
    show ¬ NmP (bs (((zs 23).drop 1).take ((zs 23).getD 0 0).toNat))
    rw [zs_get _ _ (by decide)]
    decide +kernel)
  have he := rdE_some (b := zs 23) (m := 1) (by decide) (by rw [zs_len]; decide) hn
  rw [List.nil_append, if_neg (by rw [vld1b hb]; decide)] at he
  have h1 := read_fail (zs 23) (zs_byt _) (by rw [zs_len]; decide) 1 12 he (by decide)
  rwa [zs_len, zs_map] at h1
theorem byt9 : Byt [9] := fun x hx => by simp at hx; omega
theorem read_none : Sum Tryd.prog (GE) 28 [.asl true [.int .u8 9] 1, .int .i64 0] (Is (.tup [.pv (.asl false [] 0), .pv (.int .i64 0), .pv (.int .i64 0)]) []) := by
  have hv : vldR [] = 0 := by
    unfold vldR
    rw [if_neg (by simp), if_neg (fun ⟨i, hi, _⟩ => by simp at hi), if_neg (by simp [sumR]), if_neg (by simp [namesR])]
  have hn : rdN [9] 0 = some ([], 0) := rfl
  have he := rdE_some (b := [9]) (m := 0) (by decide) (by decide) hn
  rw [if_pos hv] at he
  obtain ⟨e1, e2⟩ := rd_good he hn
  have h1 := read_sum [9] byt9 (by decide) 0
  have e1' : rdL [9] 0 = [] := e1
  have e2' : rdA [9] 0 = 0 := e2
  have e3 : rdE [9] 0 = 0 := he
  rwa [e1', e2', e3] at h1
def fullS : List PV := [.str lS, .sl true ((zs 8191).map (PV.int .u8)) 8191, .str bS, .sl true [.int .u8 1] 1]
def overS : List PV := [.str lS, .sl true ((zs 8191).map (PV.int .u8)) 8191, .str bS, .sl true [.int .u8 1, .int .u8 2] 2]
theorem over_wk : PV.wks overS (over.flatMap Mem.c) := ⟨rfl, ⟨rfl, rfl, (zs_len 8191).symm⟩, rfl, ⟨rfl, rfl, rfl⟩, trivial⟩
theorem full_wk : PV.wks fullS (full.flatMap Mem.c) := ⟨rfl, ⟨rfl, rfl, (zs_len 8191).symm⟩, rfl, ⟨rfl, rfl, rfl⟩, trivial⟩
end Go.Proofs.YtkbmkgcenehenaaDoor
