/- Contracts of functions that the statement reaches: each told as values, for all arguments that its hypotheses let in. -/
import Derived.Test.YtpafcjffkbihfaaO0
set_option linter.unusedSimpArgs false
set_option linter.unusedVariables false
set_option maxHeartbeats 4000000
set_option maxRecDepth 100000
namespace Go.Proofs.Ytpafcjffkbihfaa
open Go Hm Go.ChangeShapes Go.WideShapes Go.ChangeAt Go.RowKit
def top (w : Int) : Int := tops.getD w.toNat 0
theorem top_at (w : Int) (h : 1 ≤ w) (h9 : w < 9) : topCells[w.toNat]? = some (.int .u64 (top w)) := by
  have : w = 1 ∨ w = 2 ∨ w = 3 ∨ w = 4 ∨ w = 5 ∨ w = 6 ∨ w = 7 ∨ w = 8 := by omega
  rcases this with rfl | rfl | rfl | rfl | rfl | rfl | rfl | rfl <;> rfl

/-- The last k of the m bytes of a number. -/
def dig (n : Int) (m k : Nat) : List Int := (List.range m).map fun j => if m - 1 - j < k then n / 256 ^ (m - 1 - j) % 256 else 0
@[go_sem] theorem dig_length (n : Int) (m k : Nat) : (dig n m k).length = m := by simp [dig]
theorem dig_zero (n : Int) (m : Nat) : (dig n m 0).map (PV.int .u8) = List.replicate m (.int .u8 0) := by
  simp [dig, List.map_const']
theorem dig_step (n : Int) (m k : Nat) (h : k < m) : (dig n m k).set (m - 1 - k) (n / 256 ^ k % 256) = dig n m (k + 1) := by
  apply List.ext_getElem?
  intro i
  simp only [dig, List.getElem?_set, List.getElem?_map, List.length_map, List.length_range]
  by_cases h1 : i < m
  · simp only [List.getElem?_range h1, Option.map_some]
    by_cases h2 : m - 1 - k = i
    · subst h2
      simp only [if_true, if_pos h1]
      rw [if_pos (by omega)]
      have : m - 1 - (m - 1 - k) = k := by omega
      rw [this]
    · rw [if_neg h2]
      by_cases h3 : m - 1 - i < k
      · rw [if_pos h3, if_pos (by omega)]
      · rw [if_neg h3, if_neg (by omega)]
  · rw [List.getElem?_eq_none (by simp; omega)]
    simp
    omega
theorem shr_byte (n : Int) (k : Nat) (hk : k < 8) : n.fdiv (2 ^ min (8 * (k : Int)).toNat 64) % 256 = n / 256 ^ k % 256 := by
  have e : min (8 * (k : Int)).toNat 64 = 8 * k := by omega
  rw [e, Int.fdiv_eq_ediv_of_nonneg _ (Int.pow_nonneg (by omega)), Int.pow_mul]
  rfl

/-- The bytes and the error of a number. -/
def numB (n w : Int) : List Int := if 1 ≤ w ∧ w < 9 ∧ n ≤ top w then dig n w.toNat w.toNat else []
def numE (n w : Int) : Int := if 1 ≤ w ∧ w < 9 then if n ≤ top w then 0 else 16 else 2
end Go.Proofs.Ytpafcjffkbihfaa
