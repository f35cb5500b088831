/- Contracts of functions that the statement reaches: each told as values, for all arguments that its hypotheses let in. -/
import Derived.Test.YtpafcjffkbihfaaO4
set_option linter.unusedSimpArgs false
set_option linter.unusedVariables false
set_option maxHeartbeats 4000000
set_option maxRecDepth 100000
namespace Go.Proofs.Ytpafcjffkbihfaa
open Go Hm Go.ChangeShapes Go.WideShapes Go.ChangeAt Go.RowKit
theorem div_step (n : Int) (k : Nat) (h0 : 0 ≤ n) (h1 : n < 18446744073709551616) : (n / 256 ^ k).tdiv 256 % 18446744073709551616 = n / 256 ^ (k + 1) := by
  have hp : (0 : Int) < 256 ^ k := Int.pow_pos (by omega)
  have a : 0 ≤ n / 256 ^ k := Int.ediv_nonneg h0 (Int.le_of_lt hp)
  have b : n / 256 ^ k ≤ n := Int.ediv_le_self _ h0
  rw [Int.tdiv_eq_ediv_of_nonneg a, Int.pow_succ, ← Int.ediv_ediv_of_nonneg (Int.le_of_lt hp)]
  generalize n / 256 ^ k = m at *
  omega
theorem fits_top (n w : Int) (h0 : 0 ≤ n) (h : 1 ≤ w) (h9 : w < 9) : n / 256 ^ w.toNat = 0 ↔ n ≤ top w := by
  have : w = 1 ∨ w = 2 ∨ w = 3 ∨ w = 4 ∨ w = 5 ∨ w = 6 ∨ w = 7 ∨ w = 8 := by omega
  rcases this with rfl | rfl | rfl | rfl | rfl | rfl | rfl | rfl
  · exact (by omega : n / 256 = 0 ↔ n ≤ 255)
  · exact (by omega : n / 65536 = 0 ↔ n ≤ 65535)
  · exact (by omega : n / 16777216 = 0 ↔ n ≤ 16777215)
  · exact (by omega : n / 4294967296 = 0 ↔ n ≤ 4294967295)
  · exact (by omega : n / 1099511627776 = 0 ↔ n ≤ 1099511627775)
  · exact (by omega : n / 281474976710656 = 0 ↔ n ≤ 281474976710655)
  · exact (by omega : n / 72057594037927936 = 0 ↔ n ≤ 72057594037927935)
  · exact (by omega : n / 18446744073709551616 = 0 ↔ n ≤ 18446744073709551615)
/-- The bytes and the error of a string. -/
def strB (l : List Int) (w : Int) : List Int := if 1 ≤ w ∧ w < 9 ∧ l.length ≤ 20000 ∧ (l.length : Int) ≤ top w then dig l.length w.toNat w.toNat ++ l else []
def strE (l : List Int) (w : Int) : Int := if 1 ≤ w ∧ w < 9 then if l.length ≤ 20000 then if (l.length : Int) ≤ top w then 0 else 16 else 4 else 2
end Go.Proofs.Ytpafcjffkbihfaa
