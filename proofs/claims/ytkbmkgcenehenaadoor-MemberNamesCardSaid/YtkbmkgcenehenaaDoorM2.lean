/- Words of 32 bits as the machine holds them, and the two ways to say the rounds' functions. -/
import Derived.Test.YtkbmkgcenehenaaDoorMG
set_option linter.unusedSimpArgs false
set_option linter.unusedVariables false
set_option maxHeartbeats 4000000
set_option maxRecDepth 100000
namespace Go.Proofs.YtkbmkgcenehenaaDoor
open Go Hm Go.ChangeShapes Go.WideShapes Go.ChangeAt Go.RowKit
attribute [local go_sem] Int.reduceEq Int.reduceNe Int.reduceLT Int.reduceLE Int.reduceNeg Int.reduceToNat Int.reduceAdd Int.reduceSub Int.reduceMul Int.reducePow Int.reduceDiv Int.reduceMod ite_eq_left_iff ite_eq_right_iff imp_false Nat.reduceLT Nat.reduceEqDiff Nat.reduceAdd Nat.reduceSub Nat.reduceMul Nat.reduceLeDiff Nat.reduceBEq reduceIte
/-- A word of 32 bits as the machine holds it. -/
def wi (x : BitVec 32) : Int := x.toNat
theorem wi_lt (x : BitVec 32) : 0 ≤ wi x ∧ wi x < 4294967296 := by have := x.isLt; unfold wi; omega
theorem wi_of (x : BitVec 32) : BitVec.ofInt 32 (wi x) = x := by unfold wi; simp
theorem u32_wrap (a : Int) : IntKind.u32.wrap a = a % 4294967296 := rfl
theorem wi_wrap (x : BitVec 32) : IntKind.u32.wrap (x.toNat : Int) = wi x := by
  rw [u32_wrap]; have := x.isLt; unfold wi; omega
theorem and32 (x y : BitVec 32) : ibits .and .u32 (wi x) (wi y) = wi (x &&& y) := by
  show IntKind.u32.wrap ((BitVec.ofInt 32 (wi x) &&& BitVec.ofInt 32 (wi y)).toNat : Int) = _
  rw [wi_of, wi_of]; exact wi_wrap _
theorem or32 (x y : BitVec 32) : ibits .or .u32 (wi x) (wi y) = wi (x ||| y) := by
  show IntKind.u32.wrap ((BitVec.ofInt 32 (wi x) ||| BitVec.ofInt 32 (wi y)).toNat : Int) = _
  rw [wi_of, wi_of]; exact wi_wrap _
theorem xor32 (x y : BitVec 32) : ibits .xor .u32 (wi x) (wi y) = wi (x ^^^ y) := by
  show IntKind.u32.wrap ((BitVec.ofInt 32 (wi x) ^^^ BitVec.ofInt 32 (wi y)).toNat : Int) = _
  rw [wi_of, wi_of]; exact wi_wrap _
theorem not32 (x : BitVec 32) : ibits .xor .u32 4294967295 (wi x) = wi (~~~x) := by
  have e : (4294967295 : Int) = wi (BitVec.allOnes 32) := rfl
  rw [e, xor32, BitVec.allOnes_xor]
theorem add32 (x y : BitVec 32) : (wi x + wi y) % 4294967296 = wi (x + y) := by
  unfold wi; rw [BitVec.toNat_add]; omega
theorem shl32 (x : BitVec 32) (n : Nat) : (wi x * 2 ^ n) % 4294967296 = wi (x <<< n) := by
  unfold wi
  rw [BitVec.toNat_shiftLeft, Nat.shiftLeft_eq]
  have e : ((x.toNat * 2 ^ n % 2 ^ 32 : Nat) : Int) = ((x.toNat : Int) * 2 ^ n) % 4294967296 := by
    rw [Int.natCast_emod, Int.natCast_mul, Int.natCast_pow]; rfl
  exact e.symm
theorem shr32 (x : BitVec 32) (n : Nat) : (wi x).fdiv (2 ^ n) = wi (x >>> n) := by
  unfold wi
  rw [BitVec.toNat_ushiftRight, Nat.shiftRight_eq_div_pow, Int.natCast_ediv, Int.natCast_pow]
  rw [Int.fdiv_eq_ediv_of_nonneg]; rfl
  exact Int.le_of_lt (Int.pow_pos (by decide))
/-- The choice of a word's bits, in two ways. -/
theorem choose32 (b c d : BitVec 32) : (b &&& c) ||| (~~~b &&& d) = d ^^^ (b &&& (c ^^^ d)) := by
  apply BitVec.eq_of_getLsbD_eq
  intro i hi
  simp [hi]
  generalize b[i] = p
  generalize c[i] = q
  generalize d[i] = r
  cases p <;> cases q <;> cases r <;> rfl
theorem major32 (b c d : BitVec 32) : ((b &&& c) ||| (b &&& d)) ||| (c &&& d) = (b &&& c) ||| (d &&& (b ||| c)) := by
  apply BitVec.eq_of_getLsbD_eq
  intro i hi
  simp
  cases b.getLsbD i <;> cases c.getLsbD i <;> cases d.getLsbD i <;> rfl
def rot (x : BitVec 32) (n : Nat) : BitVec 32 := (x <<< n) ||| (x >>> (32 - n))
/-- The next word of a block's list of words. -/
def nxw (l : List (BitVec 32)) : BitVec 32 := rot (l.getD (l.length - 3) 0 ^^^ l.getD (l.length - 8) 0 ^^^ l.getD (l.length - 14) 0 ^^^ l.getD (l.length - 16) 0) 1
/-- The words of a block: the first sixteen, and k more. -/
def wds (l : List (BitVec 32)) : Nat → List (BitVec 32)
  | 0 => l
  | k + 1 => wds l k ++ [nxw (wds l k)]
theorem wds_len (l : List (BitVec 32)) : ∀ k, (wds l k).length = l.length + k
  | 0 => rfl
  | k + 1 => by rw [wds, List.length_append, wds_len l k]; rfl
theorem wds_pre (l : List (BitVec 32)) : ∀ {k m}, k ≤ m → ∀ i, i < l.length + k → (wds l m).getD i 0 = (wds l k).getD i 0
  | k, 0, h, i, _ => by obtain rfl : k = 0 := by omega
                        rfl
  | k, m + 1, h, i, hi => by
    by_cases e : k = m + 1
    · rw [e]
    · have h1 := wds_pre l (k := k) (m := m) (by omega) i hi
      rw [← h1, wds]
      have : i < (wds l m).length := by rw [wds_len]; omega
      simp [List.getD_eq_getElem?_getD, List.getElem?_append_left this]
/-- A round's function and constant. -/
def fq (q : Nat) (b c d : BitVec 32) : BitVec 32 := if q = 0 then (b &&& c) ||| (~~~b &&& d) else if q = 2 then ((b &&& c) ||| (b &&& d)) ||| (c &&& d) else b ^^^ c ^^^ d
def kq (q : Nat) : BitVec 32 := if q = 0 then 0x5a827999 else if q = 1 then 0x6ed9eba1 else if q = 2 then 0x8f1bbcdc else 0xca62c1d6
structure Vw where
  a : BitVec 32
  b : BitVec 32
  c : BitVec 32
  d : BitVec 32
  e : BitVec 32
/-- A round. -/
def rnd (w : List (BitVec 32)) (v : Vw) (t : Nat) : Vw := ⟨rot v.a 5 + fq (t / 20) v.b v.c v.d + v.e + kq (t / 20) + w.getD t 0, v.a, rot v.b 30, v.c, v.d⟩
def rnds (w : List (BitVec 32)) (h : Vw) (k : Nat) : Vw := (List.range k).foldl (rnd w) h
theorem rnds_succ (w : List (BitVec 32)) (h : Vw) (k : Nat) : rnds w h (k + 1) = rnd w (rnds w h k) k := by simp [rnds, List.range_succ]
/-- The ring of the last sixteen words, t words being known. -/
def rgw (w : List (BitVec 32)) (t : Nat) : List (BitVec 32) := (List.range 16).map fun i => w.getD (t - 16 + (i + 16 - t % 16) % 16) 0
theorem rgw_get (w : List (BitVec 32)) (t i : Nat) (h : i < 16) : (rgw w t).getD i 0 = w.getD (t - 16 + (i + 16 - t % 16) % 16) 0 := by
  rw [List.getD_eq_getElem?_getD]; simp [rgw, h]
theorem rgw_start (w : List (BitVec 32)) (h : w.length = 16) : rgw w 16 = w := by
  apply List.ext_getElem
  · simp [rgw, h]
  · intro i h1 h2
    have hi : i < 16 := by rw [h] at h2; exact h2
    have e : (16 : Nat) - 16 + (i + 16 - 16 % 16) % 16 = i := by omega
    simp only [rgw, List.getElem_map, List.getElem_range, e]
    rw [List.getD_eq_getElem?_getD, List.getElem?_eq_getElem h2]; rfl
/-- The word that the ring holds d places behind the next one. -/
theorem rgw_back (w : List (BitVec 32)) (t d : Nat) (ht : 16 ≤ t) (hd : 1 ≤ d ∧ d ≤ 16) : (rgw w t).getD ((t + (16 - d)) % 16) 0 = w.getD (t - d) 0 := by
  rw [rgw_get _ _ _ (Nat.mod_lt _ (by decide))]
  congr 1
  omega
theorem rgw_set (w : List (BitVec 32)) (t : Nat) (ht : 16 ≤ t) : (rgw w t).set (t % 16) (w.getD t 0) = rgw w (t + 1) := by
  apply List.ext_getElem
  · simp [rgw]
  · intro i h1 h2
    have hi : i < 16 := by simpa [rgw] using h2
    rw [List.getElem_set]
    simp only [rgw, List.getElem_map, List.getElem_range]
    split
    · rename_i e
      congr 1
      omega
    · rename_i e
      congr 1
      omega
theorem wds_at (l : List (BitVec 32)) (h : l.length = 16) {n t : Nat} (h1 : 16 ≤ t) (h2 : t < 16 + n) :
    (wds l n).getD t 0 = rot ((wds l n).getD (t - 3) 0 ^^^ (wds l n).getD (t - 8) 0 ^^^ (wds l n).getD (t - 14) 0 ^^^ (wds l n).getD (t - 16) 0) 1 := by
  obtain ⟨k, rfl⟩ : ∃ k, t = 16 + k := ⟨t - 16, by omega⟩
  have hk : k + 1 ≤ n := by omega
  have p := fun i (hi : i < 16 + k) => wds_pre l (k := k) (m := n) (by omega) i (by omega)
  rw [wds_pre l hk (16 + k) (by omega), p _ (by omega), p _ (by omega), p _ (by omega), p _ (by omega)]
  have hl : (wds l k).length = 16 + k := by rw [wds_len, h]
  have e : (wds l (k + 1)).getD (16 + k) 0 = nxw (wds l k) := by
    rw [wds, List.getD_eq_getElem?_getD, List.getElem?_append_right (by omega), hl]
    simp
  rw [e, nxw, hl]
theorem push8 (x : BitVec 32) (y : Nat) (hy : y < 256) : ((x <<< 8) ||| BitVec.ofNat 32 y).toNat = (x.toNat * 256 + y) % 4294967296 := by
  rw [BitVec.toNat_or, BitVec.toNat_shiftLeft, BitVec.toNat_ofNat, Nat.mod_eq_of_lt (a := y) (by omega), Nat.shiftLeft_eq]
  have e : x.toNat * 2 ^ 8 % 2 ^ 32 = (x.toNat % 2 ^ 24) <<< 8 := by rw [Nat.shiftLeft_eq]; omega
  rw [e, ← Nat.shiftLeft_add_eq_or_of_lt (show y < 2 ^ 8 by omega), Nat.shiftLeft_eq]
  omega
/-- A word of j bytes that begin at p. -/
def wb (b : List Int) (p : Nat) : Nat → BitVec 32
  | 0 => 0
  | j + 1 => BitVec.ofNat 32 ((wb b p j).toNat * 256 + (b.getD (p + j) 0).toNat)
theorem wb_push (b : List Int) (p j : Nat) (h : 0 ≤ b.getD (p + j) 0 ∧ b.getD (p + j) 0 < 256) : (wb b p j <<< 8) ||| BitVec.ofNat 32 (b.getD (p + j) 0).toNat = wb b p (j + 1) := by
  apply BitVec.eq_of_toNat_eq
  rw [push8 _ _ (by omega), wb, BitVec.toNat_ofNat]
theorem wb_four (b : List Int) (p : Nat) (h : ∀ j, j < 4 → 0 ≤ b.getD (p + j) 0 ∧ b.getD (p + j) 0 < 256) :
    wi (wb b p 4) = ((b.getD p 0 * 256 + b.getD (p + 1) 0) * 256 + b.getD (p + 2) 0) * 256 + b.getD (p + 3) 0 := by
  have h0 := h 0 (by omega)
  have h1 := h 1 (by omega)
  have h2 := h 2 (by omega)
  have h3 := h 3 (by omega)
  simp only [Nat.add_zero] at h0
  unfold wi
  simp only [wb, BitVec.toNat_ofNat, Nat.add_zero]
  generalize b.getD p 0 = x0 at *
  generalize b.getD (p + 1) 0 = x1 at *
  generalize b.getD (p + 2) 0 = x2 at *
  generalize b.getD (p + 3) 0 = x3 at *
  have e0 : (0 : BitVec 32).toNat = 0 := rfl
  rw [e0]
  omega
end Go.Proofs.YtkbmkgcenehenaaDoor
