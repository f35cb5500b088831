/- A record's cells, as Read of the program makes them. -/
import Derived.Test.YtkbmkgcenehenaaDoorM21
set_option linter.unusedSimpArgs false
set_option linter.unusedVariables false
set_option maxHeartbeats 4000000
set_option maxRecDepth 100000
namespace Go.Proofs.YtkbmkgcenehenaaDoor
open Go Hm Go.ChangeShapes Go.WideShapes Go.ChangeAt Go.RowKit
attribute [local go_sem] Int.reduceEq Int.reduceNe Int.reduceLT Int.reduceLE Int.reduceNeg Int.reduceToNat Int.reduceAdd Int.reduceSub Int.reduceMul Int.reducePow Int.reduceDiv Int.reduceMod ite_eq_left_iff ite_eq_right_iff imp_false Nat.reduceLT Nat.reduceEqDiff Nat.reduceAdd Nat.reduceSub Nat.reduceMul Nat.reduceLeDiff Nat.reduceBEq reduceIte
theorem or8 (x y : Int) (hx : 0 ≤ x ∧ x < 256) (hy : 0 ≤ y ∧ y < 256) : ibits .or .i64 (x * 256) y = x * 256 + y := by
  obtain ⟨m, rfl⟩ := Int.eq_ofNat_of_zero_le hx.1
  obtain ⟨n, rfl⟩ := Int.eq_ofNat_of_zero_le hy.1
  have hm : m < 256 := by omega
  have hn : n < 256 := by omega
  have e : ((m : Int) * 256) = ((m * 256 : Nat) : Int) := by omega
  show IntKind.i64.wrap ((BitVec.ofInt 64 ((m : Int) * 256) ||| BitVec.ofInt 64 (n : Int)).toNat : Int) = _
  rw [e, BitVec.ofInt_natCast, BitVec.ofInt_natCast, BitVec.toNat_or, BitVec.toNat_ofNat, BitVec.toNat_ofNat, Nat.mod_eq_of_lt (by omega), Nat.mod_eq_of_lt (by omega)]
  have e2 : m * 256 = m <<< 8 := by rw [Nat.shiftLeft_eq]
  rw [e2, ← Nat.shiftLeft_add_eq_or_of_lt (show n < 2 ^ 8 by omega), Nat.shiftLeft_eq, wrap_i64 (by omega) (by omega)]
  omega
/-- What the bytes of a record say. -/
structure RecAt (b : List Int) (p kk : Nat) (D : List Int) : Prop where
  name : IntKind.i64.wrap (D.getD kk 0) = D.getD kk 0
  name1 : IntKind.i64.wrap (D.getD (kk + 1) 0) = D.getD (kk + 1) 0
  big : IntKind.i64.wrap (D.getD kk 0 * 256) = D.getD kk 0 * 256
  or : ibits .or .i64 (D.getD kk 0 * 256) (D.getD (kk + 1) 0) = D.getD kk 0 * 256 + D.getD (kk + 1) 0
  len : ((D.drop (kk + 2)).take 20).length = 20
  cells : (rdR b p).c = .str (bs (D.take kk)) :: .int .i64 (D.getD kk 0 * 256 + D.getD (kk + 1) 0) :: ((D.drop (kk + 2)).take 20).map (PV.int .u8)
theorem recAt {b : List Int} (hB : Byt b) {p kk : Nat} (hk : b.getD p 0 = kk) (h : p + 1 + (kk + 22) ≤ b.length) {D : List Int} (hD : (b.drop (p + 1)).take (kk + 22) = D) : RecAt b p kk D := by
  have hl : D.length = kk + 22 := by rw [← hD, List.length_take, List.length_drop]; omega
  have hg : ∀ i, i < kk + 22 → D.getD i 0 = b.getD (p + 1 + i) 0 := fun i hi => by
    rw [← hD, List.getD_eq_getElem?_getD, List.getElem?_take_of_lt hi, List.getElem?_drop, ← List.getD_eq_getElem?_getD]
  have b1 := hB.get (k := p + 1 + kk) (by omega)
  have b2 := hB.get (k := p + 1 + (kk + 1)) (by omega)
  rw [← hg kk (by omega)] at b1
  rw [← hg (kk + 1) (by omega)] at b2
  refine ⟨wrap_i64 (by omega) (by omega), wrap_i64 (by omega) (by omega), wrap_i64 (by omega) (by omega), or8 _ _ b1 b2, by rw [List.length_take, List.length_drop]; omega, ?_⟩
  have e1 : D.take kk = (b.drop (p + 1)).take kk := by rw [← hD, List.take_take, Nat.min_eq_left (by omega)]
  have e2 : (D.drop (kk + 2)).take 20 = (List.range 20).map fun i => b.getD (p + 3 + kk + i) 0 := by
    rw [take20 (by omega)]
    apply List.map_congr_left
    intro i hi
    have := List.mem_range.1 hi
    rw [hg _ (by omega)]
    congr 1
    omega
  rw [e1, e2, hg kk (by omega), hg (kk + 1) (by omega)]
  show PV.str (rdR b p).name :: PV.int .i64 (rdR b p).size :: (rdR b p).sum.1.map (PV.int .u8) = _
  unfold rdR
  simp only [hk, Int.toNat_natCast]
  rw [show p + 2 + kk = p + 1 + (kk + 1) by omega]
end Go.Proofs.YtkbmkgcenehenaaDoor
