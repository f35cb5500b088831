/- Filters: plain laws of what they make of bytes, and back. -/
import Derived.Test.YtflmhccniamkeaaHt
set_option linter.unusedSimpArgs false
set_option linter.unusedVariables false
set_option maxHeartbeats 4000000
set_option maxRecDepth 100000
namespace Go.Proofs.Ytflmhccniamkeaa
open Go Hm Go.ChangeShapes Go.WideShapes Go.ChangeAt Go.RowKit
attribute [local go_sem] Int.reduceEq Int.reduceNe Int.reduceLT Int.reduceLE Int.reduceNeg Int.reduceToNat Int.reduceAdd Int.reduceSub Int.reduceMul Int.reducePow Int.reduceDiv Int.reduceMod ite_eq_left_iff ite_eq_right_iff imp_false Nat.reduceLT Nat.reduceEqDiff Nat.reduceAdd Nat.reduceSub Nat.reduceMul Nat.reduceLeDiff Nat.reduceBEq reduceIte
/-! Differences -/
def dl1 (n : Nat) (b : List Int) (i : Nat) : Int := (b.getD i 0 - (if i < n then 0 else b.getD (i - n) 0)) % 256
/-- The differences of bytes to those n before. -/
def dlt (n : Nat) (b : List Int) : List Int := (List.range b.length).map (dl1 n b)
theorem dlt_len (n : Nat) (b : List Int) : (dlt n b).length = b.length := by simp [dlt]
theorem dlt_get (n : Nat) (b : List Int) {i : Nat} (h : i < b.length) : (dlt n b).getD i 0 = dl1 n b i := by
  unfold dlt
  rw [getD_get _ _ (by simpa using h)]
  simp
theorem dlt_take (n : Nat) (b : List Int) {k : Nat} (h : k < b.length) : (dlt n b).take (k + 1) = (dlt n b).take k ++ [dl1 n b k] := by
  rw [take_snocD _ 0 (by rw [dlt_len]; exact h), dlt_get n b h]
theorem dlt_byt (n : Nat) (b : List Int) : Byt (dlt n b) := by
  intro x hx
  unfold dlt at hx
  obtain ⟨i, _, rfl⟩ := List.mem_map.1 hx
  unfold dl1
  omega
def smF (n : Nat) (acc : List Int) (x : Int) : List Int := acc ++ [(x + (if acc.length < n then 0 else acc.getD (acc.length - n) 0)) % 256]
/-- The bytes that have some differences. -/
def sms (n : Nat) (b : List Int) : List Int := b.foldl (smF n) []
theorem sms_snoc (n : Nat) (b : List Int) (x : Int) : sms n (b ++ [x]) = smF n (sms n b) x := by simp [sms]
theorem sms_lenA (n : Nat) : ∀ (b a : List Int), (b.foldl (smF n) a).length = a.length + b.length
  | [], a => by simp
  | x :: r, a => by rw [List.foldl_cons, sms_lenA n r]; simp [smF]; omega
theorem sms_len (n : Nat) (b : List Int) : (sms n b).length = b.length := by unfold sms; rw [sms_lenA]; simp
theorem sms_preA (n : Nat) : ∀ (b a : List Int), ∃ c, b.foldl (smF n) a = a ++ c
  | [], a => ⟨[], by simp⟩
  | x :: r, a => by
    obtain ⟨c, hc⟩ := sms_preA n r (smF n a x)
    exact ⟨_, by rw [List.foldl_cons, hc, smF, List.append_assoc]⟩
theorem sms_take (n : Nat) (b : List Int) (k : Nat) : (sms n b).take k = sms n (b.take k) := by
  have h : sms n b = (b.drop k).foldl (smF n) (sms n (b.take k)) := by unfold sms; rw [← List.foldl_append, List.take_append_drop]
  obtain ⟨c, hc⟩ := sms_preA n (b.drop k) (sms n (b.take k))
  rw [h, hc]
  by_cases hk : k ≤ b.length
  · rw [List.take_append_of_le_length (by rw [sms_len, List.length_take]; omega), List.take_of_length_le (by rw [sms_len, List.length_take]; omega)]
  · have e : b.drop k = [] := List.drop_eq_nil_of_le (by omega)
    rw [e] at hc
    have : c = [] := by simpa using hc
    subst this
    rw [List.append_nil, List.take_of_length_le]
    rw [sms_len, List.length_take]; omega
theorem sms_get (n : Nat) (b : List Int) {i : Nat} (h : i < b.length) (hn : 0 < n) : (sms n b).getD i 0 = (b.getD i 0 + (if i < n then 0 else (sms n b).getD (i - n) 0)) % 256 := by
  have h1 : (sms n b).getD i 0 = ((sms n b).take (i + 1)).getD i 0 := by simp [List.getElem?_take]
  have h3 : ∀ j, j < i → (sms n (b.take i)).getD j 0 = (sms n b).getD j 0 := fun j hj => by rw [← sms_take]; simp [List.getElem?_take, hj]
  have h2 : (sms n (b.take i)).length = i := by rw [sms_len, List.length_take]; omega
  rw [h1, sms_take, take_snocD b 0 h, sms_snoc, smF, h2]
  have h4 : ∀ (l : List Int) (x : Int), l.length = i → (l ++ [x]).getD i 0 = x := fun l x e => by subst e; simp
  rw [h4 _ _ h2]
  by_cases hi : i < n
  · rw [if_pos hi, if_pos hi]
  · rw [if_neg hi, if_neg hi, h3 _ (by omega)]
theorem sms_byt (n : Nat) (b : List Int) : Byt (sms n b) := by
  unfold sms
  have : ∀ (b a : List Int), Byt a → Byt (b.foldl (smF n) a) := by
    intro b
    induction b with
    | nil => intro a h; exact h
    | cons x r ih => intro a h; exact ih _ (h.app (Byt.cons (by omega) Byt.nil))
  exact this b [] Byt.nil
theorem list_eqD {α : Type} {a b : List α} (d : α) (hl : a.length = b.length) (h : ∀ i, i < a.length → a.getD i d = b.getD i d) : a = b := by
  refine List.ext_getElem hl fun i h1 h2 => ?_
  have := h i h1
  rwa [getD_get _ _ h1, getD_get _ _ h2] at this
theorem sms_dlt (n : Nat) (hn : 0 < n) (b : List Int) (hb : Byt b) : sms n (dlt n b) = b := by
  have key : ∀ m i, i ≤ m → i < b.length → (sms n (dlt n b)).getD i 0 = b.getD i 0 := by
    intro m
    induction m with
    | zero =>
      intro i h1 h2
      obtain rfl : i = 0 := by omega
      have := hb.get h2
      rw [sms_get n _ (by rw [dlt_len]; exact h2) hn, if_pos hn, dlt_get n b h2, dl1, if_pos hn]
      omega
    | succ m ih =>
      intro i h1 h2
      have := hb.get h2
      rw [sms_get n _ (by rw [dlt_len]; exact h2) hn, dlt_get n b h2, dl1]
      by_cases hi : i < n
      · rw [if_pos hi, if_pos hi]; omega
      · rw [if_neg hi, if_neg hi, ih (i - n) (by omega) (by omega)]
        omega
  exact list_eqD 0 (by rw [sms_len, dlt_len]) fun i h => key i i (Nat.le_refl _) (by rwa [sms_len, dlt_len] at h)
theorem dlt_sms (n : Nat) (hn : 0 < n) (b : List Int) (hb : Byt b) : dlt n (sms n b) = b := by
  refine list_eqD 0 (by rw [dlt_len, sms_len]) fun i h => ?_
  rw [dlt_len, sms_len] at h
  have := hb.get h
  rw [dlt_get n _ (by rw [sms_len]; exact h), dl1, sms_get n b h hn]
  omega
/-! Places in a list -/
/-- The byte with an index is put in front. -/
def mv (l : List Int) (i : Nat) : List Int := l.getD i 0 :: (l.take i ++ l.drop (i + 1))
def tbl : List Int := (List.range 256).map fun (i : Nat) => (i : Int)
theorem tbl_len : tbl.length = 256 := by simp [tbl]
/-- A list of all bytes. -/
structure Tb (l : List Int) : Prop where
  len : l.length = 256
  nod : l.Nodup
  byt : Byt l
  all : ∀ x : Int, 0 ≤ x → x < 256 → x ∈ l
theorem tbl_tb : Tb tbl where
  len := tbl_len
  nod := by
    unfold tbl
    refine List.Pairwise.map _ (fun a b h => ?_) (List.nodup_range (n := 256))
    intro h2; exact h (by omega)
  byt := by
    intro x hx
    unfold tbl at hx
    obtain ⟨i, h, rfl⟩ := List.mem_map.1 hx
    rw [List.mem_range] at h
    omega
  all := by
    intro x h1 h2
    unfold tbl
    refine List.mem_map.2 ⟨x.toNat, List.mem_range.2 (by omega), by omega⟩
theorem mv_perm {l : List Int} {i : Nat} (h : i < l.length) : (mv l i).Perm l := by
  unfold mv
  have e : l = l.take i ++ l.getD i 0 :: l.drop (i + 1) := by
    rw [getD_get l 0 h, ← List.drop_eq_getElem_cons h, List.take_append_drop]
  conv => rhs; rw [e]
  exact (List.perm_middle).symm
theorem Tb.mv {l : List Int} (h : Tb l) {i : Nat} (hi : i < 256) : Tb (mv l i) := by
  have p := mv_perm (l := l) (i := i) (by rw [h.len]; exact hi)
  exact ⟨by rw [p.length_eq]; exact h.len, p.nodup_iff.2 h.nod, fun x hx => h.byt x (p.mem_iff.1 hx), fun x h1 h2 => p.mem_iff.2 (h.all x h1 h2)⟩
theorem Tb.ix {l : List Int} (h : Tb l) {x : Int} (h1 : 0 ≤ x) (h2 : x < 256) : l.idxOf x < 256 := by
  rw [← h.len]
  exact List.idxOf_lt_length_iff.2 (h.all x h1 h2)
theorem getD_idxOf {l : List Int} {x : Int} (h : x ∈ l) : l.getD (l.idxOf x) 0 = x := by
  have := List.idxOf_lt_length_iff.2 h
  rw [getD_get l 0 this]
  exact List.getElem_idxOf this
theorem idxOf_getD {l : List Int} (h : l.Nodup) {i : Nat} (hi : i < l.length) : l.idxOf (l.getD i 0) = i := by
  rw [getD_get l 0 hi]
  exact h.idxOf_getElem i hi
/-- The list behind some bytes, as they are told by places. -/
def tbF (b : List Int) : List Int := b.foldl (fun l x => mv l (l.idxOf x)) tbl
/-- The list behind some places. -/
def tbB (b : List Int) : List Int := b.foldl (fun l x => mv l x.toNat) tbl
theorem tbF_snoc (b : List Int) (x : Int) : tbF (b ++ [x]) = mv (tbF b) ((tbF b).idxOf x) := by simp [tbF]
theorem tbB_snoc (b : List Int) (x : Int) : tbB (b ++ [x]) = mv (tbB b) x.toNat := by simp [tbB]
theorem byt_snoc {b : List Int} (h : Byt b) {k : Nat} : Byt (b.take k) := h.take k
theorem tbF_tb {b : List Int} (h : Byt b) : ∀ k, k ≤ b.length → Tb (tbF (b.take k))
  | 0, _ => by simpa [tbF] using tbl_tb
  | k + 1, hk => by
    rw [take_snocD b 0 (by omega), tbF_snoc]
    have h1 := tbF_tb h k (by omega)
    have h2 := h.get (k := k) (by omega)
    exact h1.mv (h1.ix h2.1 h2.2)
theorem tbB_tb {b : List Int} (h : Byt b) : ∀ k, k ≤ b.length → Tb (tbB (b.take k))
  | 0, _ => by simpa [tbB] using tbl_tb
  | k + 1, hk => by
    rw [take_snocD b 0 (by omega), tbB_snoc]
    have h1 := tbB_tb h k (by omega)
    have h2 := h.get (k := k) (by omega)
    exact h1.mv (by omega)
def fr1 (b : List Int) (k : Nat) : Int := ((tbF (b.take k)).idxOf (b.getD k 0) : Nat)
/-- The places of bytes. -/
def frs (b : List Int) : List Int := (List.range b.length).map (fr1 b)
def nm1 (b : List Int) (k : Nat) : Int := (tbB (b.take k)).getD (b.getD k 0).toNat 0
/-- The bytes at some places. -/
def nms (b : List Int) : List Int := (List.range b.length).map (nm1 b)
theorem rmap_len {b : List Int} (f : Nat → Int) : ((List.range b.length).map f).length = b.length := by simp
theorem rmap_get {b : List Int} (f : Nat → Int) {k : Nat} (h : k < b.length) : ((List.range b.length).map f).getD k 0 = f k := by
  rw [getD_get _ _ (by simpa using h)]; simp
theorem frs_len (b : List Int) : (frs b).length = b.length := rmap_len _
theorem nms_len (b : List Int) : (nms b).length = b.length := rmap_len _
theorem frs_get (b : List Int) {k : Nat} (h : k < b.length) : (frs b).getD k 0 = fr1 b k := rmap_get _ h
theorem nms_get (b : List Int) {k : Nat} (h : k < b.length) : (nms b).getD k 0 = nm1 b k := rmap_get _ h
theorem frs_take (b : List Int) {k : Nat} (h : k < b.length) : (frs b).take (k + 1) = (frs b).take k ++ [fr1 b k] := by
  rw [take_snocD _ 0 (by rw [frs_len]; exact h), frs_get b h]
theorem nms_take (b : List Int) {k : Nat} (h : k < b.length) : (nms b).take (k + 1) = (nms b).take k ++ [nm1 b k] := by
  rw [take_snocD _ 0 (by rw [nms_len]; exact h), nms_get b h]
theorem fr1_le {b : List Int} (hb : Byt b) {k : Nat} (h : k < b.length) : 0 ≤ fr1 b k ∧ fr1 b k < 256 := by
  have h1 := tbF_tb hb k (by omega)
  have h2 := hb.get h
  have := h1.ix h2.1 h2.2
  unfold fr1
  omega
theorem nm1_le {b : List Int} (hb : Byt b) {k : Nat} (h : k < b.length) : 0 ≤ nm1 b k ∧ nm1 b k < 256 := by
  have h1 := tbB_tb hb k (by omega)
  have h2 := hb.get h
  exact h1.byt.get (by rw [h1.len]; omega)
theorem frs_byt {b : List Int} (hb : Byt b) : Byt (frs b) := by
  intro x hx
  unfold frs at hx
  obtain ⟨k, h, rfl⟩ := List.mem_map.1 hx
  exact fr1_le hb (List.mem_range.1 h)
theorem nms_byt {b : List Int} (hb : Byt b) : Byt (nms b) := by
  intro x hx
  unfold nms at hx
  obtain ⟨k, h, rfl⟩ := List.mem_map.1 hx
  exact nm1_le hb (List.mem_range.1 h)
theorem tb_frs {b : List Int} : ∀ k, k ≤ b.length → tbB ((frs b).take k) = tbF (b.take k)
  | 0, _ => by simp [tbB, tbF]
  | k + 1, hk => by
    rw [frs_take b (by omega), tbB_snoc, tb_frs k (by omega), take_snocD b 0 (by omega), tbF_snoc, fr1, Int.toNat_natCast]
theorem nms_frs {b : List Int} (hb : Byt b) : nms (frs b) = b := by
  refine list_eqD 0 (by rw [nms_len, frs_len]) fun i h => ?_
  rw [nms_len, frs_len] at h
  have h2 := hb.get h
  rw [nms_get _ (by rw [frs_len]; exact h), nm1, tb_frs i (by omega), frs_get b h, fr1, Int.toNat_natCast]
  exact getD_idxOf ((tbF_tb hb i (by omega)).all _ h2.1 h2.2)
theorem tb_nms {b : List Int} (hb : Byt b) : ∀ k, k ≤ b.length → tbF ((nms b).take k) = tbB (b.take k)
  | 0, _ => by simp [tbB, tbF]
  | k + 1, hk => by
    have h1 := tbB_tb hb k (by omega)
    have h2 := hb.get (k := k) (by omega)
    rw [nms_take b (by omega), tbF_snoc, tb_nms hb k (by omega), take_snocD b 0 (by omega), tbB_snoc, nm1, idxOf_getD h1.nod (by rw [h1.len]; omega)]
theorem frs_nms {b : List Int} (hb : Byt b) : frs (nms b) = b := by
  refine list_eqD 0 (by rw [frs_len, nms_len]) fun i h => ?_
  rw [frs_len, nms_len] at h
  have h1 := tbB_tb hb i (by omega)
  have h2 := hb.get h
  rw [frs_get _ (by rw [nms_len]; exact h), fr1, tb_nms hb i (by omega), nms_get b h, nm1, idxOf_getD h1.nod (by rw [h1.len]; omega)]
  omega
/-! Runs -/
def enc (x : Int) (n : Nat) : List Int := if n = 1 then [x] else [x, x, (n : Int) - 2]
def cntS (x : Int) (n : Nat) : List Int → List Int
  | [] => enc x n
  | y :: r => if y = x ∧ n < 257 then cntS x (n + 1) r else enc x n ++ cntS y 1 r
/-- Bytes with their runs counted. -/
def cnt : List Int → List Int
  | [] => []
  | x :: r => cntS x 1 r
/-- The bytes that counted runs tell. -/
def spl : List Int → List Int
  | x :: y :: z :: r => if y = x then List.replicate (z + 2).toNat x ++ spl r else x :: spl (y :: z :: r)
  | x :: r => x :: spl r
  | [] => []
theorem spl_nil : spl [] = [] := by rw [spl]
theorem spl_one (x : Int) : spl [x] = [x] := by rw [spl, spl_nil]; intro _ _ _ h; cases h
theorem spl_two (x y : Int) : spl [x, y] = [x, y] := by rw [spl, spl_one]; intro _ _ _ h; cases h
theorem spl_run (x z : Int) (r : List Int) : spl (x :: x :: z :: r) = List.replicate (z + 2).toNat x ++ spl r := by rw [spl, if_pos rfl]
theorem spl_ne {x y : Int} (h : y ≠ x) : ∀ r, spl (x :: y :: r) = x :: spl (y :: r)
  | [] => by rw [spl_two, spl_one]
  | z :: r => by rw [spl, if_neg h]
theorem cntS_head (x : Int) : ∀ (r : List Int) (n : Nat), ∃ t, cntS x n r = x :: t
  | [], n => by rw [cntS, enc]; split <;> exact ⟨_, rfl⟩
  | y :: r, n => by
    rw [cntS]
    split
    · exact cntS_head x r (n + 1)
    · rw [enc]; split <;> exact ⟨_, rfl⟩
theorem spl_enc {x : Int} {n : Nat} (h1 : 1 ≤ n) {r : List Int} (hr : n = 1 → ∀ y t, r = y :: t → y ≠ x) : spl (enc x n ++ r) = List.replicate n x ++ spl r := by
  unfold enc
  by_cases h : n = 1
  · subst h
    rw [if_pos rfl]
    cases r with
    | nil => rw [List.append_nil, spl_one, spl_nil]; rfl
    | cons y t => exact spl_ne (hr rfl y t rfl) t
  · rw [if_neg h]
    show spl (x :: x :: ((n : Int) - 2) :: r) = _
    rw [spl_run]
    congr 2
    omega
theorem spl_cntS : ∀ (r : List Int) (x : Int) (n : Nat), 1 ≤ n → n ≤ 257 → spl (cntS x n r) = List.replicate n x ++ r
  | [], x, n, h1, _ => by
    have := spl_enc h1 (x := x) (r := []) (fun _ _ _ h => by cases h)
    rw [List.append_nil] at this
    rw [cntS, this, spl_nil]
  | y :: r, x, n, h1, h2 => by
    rw [cntS]
    split
    · rename_i h
      obtain ⟨rfl, h3⟩ := h
      rw [spl_cntS r y (n + 1) (by omega) (by omega), List.replicate_succ', List.append_assoc]
      rfl
    · rename_i h
      obtain ⟨t, ht⟩ := cntS_head y r 1
      rw [spl_enc h1 (fun hn z t' e => by
        rw [ht] at e
        cases e
        exact fun e => h ⟨e, by omega⟩), spl_cntS r y 1 (by omega) (by omega)]
      rfl
theorem spl_cnt : ∀ b : List Int, spl (cnt b) = b
  | [] => by rw [cnt, spl_nil]
  | x :: r => by rw [cnt, spl_cntS r x 1 (by omega) (by omega)]; rfl
theorem enc_len (x : Int) (n : Nat) (h : 1 ≤ n) : 2 * (enc x n).length ≤ 3 * n := by
  unfold enc
  split <;> simp <;> omega
theorem cntS_len : ∀ (r : List Int) (x : Int) (n : Nat), 1 ≤ n → 2 * (cntS x n r).length ≤ 3 * (n + r.length)
  | [], x, n, h => by rw [cntS]; have := enc_len x n h; simp; omega
  | y :: r, x, n, h => by
    rw [cntS]
    split
    · have := cntS_len r x (n + 1) (by omega)
      rw [List.length_cons]; omega
    · have h1 := cntS_len r y 1 (by omega)
      have := enc_len x n h
      rw [List.length_append, List.length_cons]; omega
theorem cnt_len : ∀ b : List Int, 2 * (cnt b).length ≤ 3 * b.length
  | [] => by simp [cnt]
  | x :: r => by rw [cnt]; have := cntS_len r x 1 (by omega); rw [List.length_cons]; omega
theorem enc_byt {x : Int} {n : Nat} (hx : 0 ≤ x ∧ x < 256) (h1 : 1 ≤ n) (h2 : n ≤ 257) : Byt (enc x n) := by
  unfold enc
  split
  · exact Byt.cons hx Byt.nil
  · exact Byt.cons hx (Byt.cons hx (Byt.cons (by omega) Byt.nil))
theorem cntS_byt : ∀ (r : List Int) (x : Int) (n : Nat), Byt r → 0 ≤ x ∧ x < 256 → 1 ≤ n → n ≤ 257 → Byt (cntS x n r)
  | [], x, n, _, h, h1, h2 => by rw [cntS]; exact enc_byt h h1 h2
  | y :: r, x, n, hr, h, h1, h2 => by
    rw [cntS]
    split
    · exact cntS_byt r x (n + 1) hr.tail h (by omega) (by omega)
    · exact (enc_byt h h1 h2).app (cntS_byt r y 1 hr.tail (hr y (.head _)) (by omega) (by omega))
theorem cnt_byt : ∀ {b : List Int}, Byt b → Byt (cnt b)
  | [], _ => Byt.nil
  | x :: r, h => cntS_byt r x 1 h.tail (h x (.head _)) (by omega) (by omega)
theorem spl_byt : ∀ (m : Nat) (b : List Int), b.length ≤ m → Byt b → Byt (spl b)
  | _, [], _, _ => by rw [spl_nil]; exact Byt.nil
  | _, [x], _, h => by rw [spl_one]; exact h
  | _, [x, y], _, h => by rw [spl_two]; exact h
  | 0, _ :: _ :: _ :: _, hl, _ => by simp at hl
  | m + 1, x :: y :: z :: r, hl, h => by
    rw [spl]
    simp only [List.length_cons] at hl
    split
    · refine Byt.app (fun w hw => ?_) (spl_byt m r (by omega) h.tail.tail.tail)
      obtain ⟨_, rfl⟩ := List.mem_replicate.1 hw
      exact h _ (.head _)
    · exact Byt.cons (h x (.head _)) (spl_byt m _ (by simp; omega) h.tail)
/-- A run of n bytes, and behind it another byte, or n = 257, or nothing. -/
theorem cntS_run (x : Int) : ∀ (m n : Nat) (r : List Int), n + m ≤ 257 → (∀ j, j < m → r.getD j 0 = x ∧ j < r.length) → cntS x n r = cntS x (n + m) (r.drop m)
  | 0, n, r, _, _ => by simp
  | m + 1, n, [], _, h => by have := (h 0 (by omega)).2; simp at this
  | m + 1, n, y :: r, hn, h => by
    have h0 := (h 0 (by omega)).1
    have : y = x := h0
    rw [cntS, if_pos ⟨this, by omega⟩, cntS_run x m (n + 1) r (by omega) (fun j hj => by
      have := h (j + 1) (by omega)
      simpa using this), List.drop_succ_cons]
    congr 1
    omega
theorem cntS_end {x : Int} {n : Nat} {r : List Int} (h : n = 257 ∨ ∀ y t, r = y :: t → y ≠ x) : cntS x n r = enc x n ++ cnt r := by
  cases r with
  | nil => rw [cntS, cnt, List.append_nil]
  | cons y t =>
    rw [cntS, if_neg, cnt]
    rintro ⟨h1, h2⟩
    rcases h with h | h
    · omega
    · exact h y t rfl h1
theorem cnt_run {b : List Int} {n : Nat} (h1 : 1 ≤ n) (h2 : n ≤ 257) (hl : n ≤ b.length) (h : ∀ j, j < n → b.getD j 0 = b.getD 0 0) (he : n = 257 ∨ n = b.length ∨ b.getD n 0 ≠ b.getD 0 0) : cnt b = enc (b.getD 0 0) n ++ cnt (b.drop n) := by
  cases b with
  | nil => simp at hl; omega
  | cons x r =>
    obtain ⟨m, rfl⟩ : ∃ m, n = m + 1 := ⟨n - 1, by omega⟩
    simp only [List.length_cons] at hl he
    rw [cnt, cntS_run x m 1 r (by omega) (fun j hj => ⟨by have := h (j + 1) (by omega); simpa using this, by omega⟩), List.drop_succ_cons, Nat.add_comm 1 m]
    refine cntS_end ?_
    rcases he with he | he | he
    · exact .inl he
    · refine .inr fun y t e => ?_
      have := congrArg List.length e
      simp at this
      omega
    · refine .inr fun y t e => ?_
      intro e2
      apply he
      have h3 : (r.drop m).getD 0 0 = y := by rw [e]; rfl
      have h4 : (r.drop m).getD 0 0 = r.getD m 0 := by simp [List.getElem?_drop]
      show (x :: r).getD (m + 1) 0 = x
      rw [← e2, ← h3, h4]; rfl
end Go.Proofs.Ytflmhccniamkeaa
