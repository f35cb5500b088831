/- The digest's spec: blocks, padding, the digest's bytes. -/
import Derived.Test.YtkbmkgcenehenaaDoorM2
set_option linter.unusedSimpArgs false
set_option linter.unusedVariables false
set_option maxHeartbeats 4000000
set_option maxRecDepth 100000
namespace Go.Proofs.YtkbmkgcenehenaaDoor
open Go Hm Go.ChangeShapes Go.WideShapes Go.ChangeAt Go.RowKit
attribute [local go_sem] Int.reduceEq Int.reduceNe Int.reduceLT Int.reduceLE Int.reduceNeg Int.reduceToNat Int.reduceAdd Int.reduceSub Int.reduceMul Int.reducePow Int.reduceDiv Int.reduceMod ite_eq_left_iff ite_eq_right_iff imp_false Nat.reduceLT Nat.reduceEqDiff Nat.reduceAdd Nat.reduceSub Nat.reduceMul Nat.reduceLeDiff Nat.reduceBEq reduceIte
def first5 : Vw := ⟨0x67452301, 0xefcdab89, 0x98badcfe, 0x10325476, 0xc3d2e1f0⟩
def Vw.l (v : Vw) : List (BitVec 32) := [v.a, v.b, v.c, v.d, v.e]
def Vw.cs (v : Vw) : List PV := [.int .u32 (wi v.a), .int .u32 (wi v.b), .int .u32 (wi v.c), .int .u32 (wi v.d), .int .u32 (wi v.e)]
def Vw.add (v w : Vw) : Vw := ⟨v.a + w.a, v.b + w.b, v.c + w.c, v.d + w.d, v.e + w.e⟩
/-- The first sixteen words of a block. -/
def ws16 (b : List Int) : List (BitVec 32) := (List.range 16).map fun i => wb b (4 * i) 4
theorem ws16_len (b : List Int) : (ws16 b).length = 16 := by simp [ws16]
theorem ws16_get (b : List Int) (i : Nat) (h : i < 16) : (ws16 b).getD i 0 = wb b (4 * i) 4 := by
  rw [List.getD_eq_getElem?_getD]; simp [ws16, h]
/-- The words behind a block. -/
def doB (h : Vw) (b : List Int) : Vw := h.add (rnds (wds (ws16 b) 64) h 80)
theorem wb_take (b : List Int) (n p : Nat) : ∀ j, p + j ≤ n → wb (b.take n) p j = wb b p j
  | 0, _ => rfl
  | j + 1, h => by
    rw [wb, wb, wb_take b n p j (by omega)]
    congr 3
    rw [List.getD_eq_getElem?_getD, List.getD_eq_getElem?_getD, List.getElem?_take_of_lt (by omega)]
theorem ws16_take (b : List Int) : ws16 (b.take 64) = ws16 b := by
  unfold ws16
  apply List.map_congr_left
  intro i hi
  have := List.mem_range.1 hi
  exact wb_take b 64 (4 * i) 4 (by omega)
theorem doB_take (h : Vw) (b : List Int) : doB h (b.take 64) = doB h b := by unfold doB; rw [ws16_take]
/-- The first k bytes of a length. -/
def lenL (n k : Nat) : List Int := (List.range k).map fun j => ((8 * n / 2 ^ (8 * (7 - j)) % 256 : Nat) : Int)
theorem lenL_len (n k : Nat) : (lenL n k).length = k := by simp [lenL]
theorem lenL_succ (n k : Nat) : lenL n (k + 1) = lenL n k ++ [((8 * n / 2 ^ (8 * (7 - k)) % 256 : Nat) : Int)] := by simp [lenL, List.range_succ]
def zerosN (n : Nat) : Nat := (119 - n % 64) % 64
/-- The padding of n bytes. -/
def padL (n : Nat) : List Int := 128 :: List.replicate (zerosN n) 0 ++ lenL n 8
theorem padL_len (n : Nat) : (padL n).length = 9 + zerosN n := by simp [padL, lenL_len]; omega
theorem padL_all (n : Nat) : (n + (9 + zerosN n)) % 64 = 0 := by unfold zerosN; omega
theorem lenL_byt (n k : Nat) : ∀ x ∈ lenL n k, 0 ≤ x ∧ x < 256 := by
  intro x hx
  unfold lenL at hx
  obtain ⟨j, _, rfl⟩ := List.mem_map.1 hx
  generalize 8 * n / 2 ^ (8 * (7 - j)) = y
  omega
theorem padL_byt (n : Nat) : ∀ x ∈ padL n, 0 ≤ x ∧ x < 256 := by
  intro x hx
  unfold padL at hx
  rcases List.mem_append.1 hx with h | h
  · rcases List.mem_cons.1 h with h | h
    · omega
    · have := List.eq_of_mem_replicate h; omega
  · exact lenL_byt n 8 x h
/-- The bytes that are digested. -/
def allL (b : List Int) : List Int := b ++ padL b.length
theorem allL_len (b : List Int) : (allL b).length = 64 * ((b.length + 9 + zerosN b.length) / 64) := by
  have := padL_all b.length
  simp only [allL, List.length_append, padL_len]
  omega
/-- The words behind k blocks. -/
def hsL (l : List Int) : Nat → Vw
  | 0 => first5
  | k + 1 => doB (hsL l k) (l.drop (64 * k))
/-- The first k bytes of the words' bytes. -/
def digK (v : Vw) (k : Nat) : List Int := (List.range k).map fun i => ((v.l.getD (i / 4) 0).toNat / 2 ^ (24 - 8 * (i % 4)) % 256 : Nat)
theorem digK_succ (v : Vw) (k : Nat) : digK v (k + 1) = digK v k ++ [(((v.l.getD (k / 4) 0).toNat / 2 ^ (24 - 8 * (k % 4)) % 256 : Nat) : Int)] := by simp [digK, List.range_succ]
theorem digK_len (v : Vw) (k : Nat) : (digK v k).length = k := by simp [digK]
theorem digK_byt (v : Vw) (k : Nat) : ∀ x ∈ digK v k, 0 ≤ x ∧ x < 256 := by
  intro x hx
  unfold digK at hx
  obtain ⟨j, _, rfl⟩ := List.mem_map.1 hx
  generalize (v.l.getD (j / 4) 0).toNat / 2 ^ (24 - 8 * (j % 4)) = y
  omega
/-- The digest of bytes. -/
def shaL (b : List Int) : List Int := digK (hsL (allL b) ((b.length + 9 + zerosN b.length) / 64)) 20
theorem shaL_len (b : List Int) : (shaL b).length = 20 := digK_len _ _
theorem shaL_none : shaL [] = [0xda, 0x39, 0xa3, 0xee, 0x5e, 0x6b, 0x4b, 0x0d, 0x32, 0x55, 0xbf, 0xef, 0x95, 0x60, 0x18, 0x90, 0xaf, 0xd8, 0x07, 0x09] := by decide +kernel
end Go.Proofs.YtkbmkgcenehenaaDoor
