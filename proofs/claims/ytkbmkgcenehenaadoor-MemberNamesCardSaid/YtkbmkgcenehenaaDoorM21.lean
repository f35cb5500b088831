/- Records read: what both Reads answer, told as plain lists. -/
import Derived.Test.YtkbmkgcenehenaaDoorM12
set_option linter.unusedSimpArgs false
set_option linter.unusedVariables false
set_option maxHeartbeats 4000000
set_option maxRecDepth 100000
namespace Go.Proofs.YtkbmkgcenehenaaDoor
open Go Hm Go.ChangeShapes Go.WideShapes Go.ChangeAt Go.RowKit
attribute [local go_sem] Int.reduceEq Int.reduceNe Int.reduceLT Int.reduceLE Int.reduceNeg Int.reduceToNat Int.reduceAdd Int.reduceSub Int.reduceMul Int.reducePow Int.reduceDiv Int.reduceMod ite_eq_left_iff ite_eq_right_iff imp_false Nat.reduceLT Nat.reduceEqDiff Nat.reduceAdd Nat.reduceSub Nat.reduceMul Nat.reduceLeDiff Nat.reduceBEq reduceIte
/-- There are too few bytes for a record. -/
def rdC (b : List Int) (at' : Nat) : Prop := b.length ≤ at' ∨ (b.length : Int) - at' - 1 < b.getD at' 0 + 22
noncomputable instance (b : List Int) (n : Nat) : Decidable (rdC b n) := Classical.propDecidable _
/-- The record that begins at a place. -/
def rdR (b : List Int) (at' : Nat) : Rec :=
  ⟨bs ((b.drop (at' + 1)).take (b.getD at' 0).toNat), b.getD (at' + 1 + (b.getD at' 0).toNat) 0 * 256 + b.getD (at' + 2 + (b.getD at' 0).toNat) 0,
   ⟨(List.range 20).map fun i => b.getD (at' + 3 + (b.getD at' 0).toNat + i) 0, by simp⟩⟩
noncomputable def rdN (b : List Int) : Nat → Option (List Rec × Nat)
  | 0 => some ([], 0)
  | i + 1 => match rdN b i with
    | none => none
    | some (L, at') => if rdC b at' then none else some (L ++ [rdR b at'], at' + (b.getD at' 0).toNat + 23)
theorem rdN_none {b : List Int} {i : Nat} (h : rdN b i = none) : ∀ k, rdN b (i + k) = none
  | 0 => h
  | k + 1 => by
    have := rdN_none h k
    show rdN b ((i + k) + 1) = none
    rw [rdN, this]
theorem rdN_fail {b : List Int} {i n at' : Nat} {L : List Rec} (h : rdN b i = some (L, at')) (hc : rdC b at') (hn : i < n) : rdN b n = none := by
  have h1 : rdN b (i + 1) = none := by rw [rdN, h]; exact if_pos hc
  have := rdN_none h1 (n - (i + 1))
  rwa [show i + 1 + (n - (i + 1)) = n by omega] at this
theorem rdN_next {b : List Int} {i at' : Nat} {L : List Rec} (h : rdN b i = some (L, at')) (hc : ¬ rdC b at') : rdN b (i + 1) = some (L ++ [rdR b at'], at' + (b.getD at' 0).toNat + 23) := by
  rw [rdN, h]; exact if_neg hc
/-- What is known of the records that were read. -/
structure RdOk (b : List Int) (i : Nat) (L : List Rec) (at' : Nat) : Prop where
  len : L.length = i
  le : at' ≤ b.length
  nm : ∀ j, j < L.length → (L.getD j default).name.size ≤ 255
theorem rdN_ok {b : List Int} (hB : Byt b) : ∀ {i L at'}, rdN b i = some (L, at') → RdOk b i L at'
  | 0, L, at', h => by
    simp only [rdN, Option.some.injEq, Prod.mk.injEq] at h
    obtain ⟨rfl, rfl⟩ := h
    exact ⟨rfl, by omega, fun j hj => by simp at hj⟩
  | i + 1, L, at', h => by
    rw [rdN] at h
    split at h
    · cases h
    · rename_i L0 at0 h0
      have ih := rdN_ok hB h0
      split at h
      · cases h
      · rename_i hc
        simp only [Option.some.injEq, Prod.mk.injEq] at h
        obtain ⟨rfl, rfl⟩ := h
        unfold rdC at hc
        have h1 : at0 < b.length := by omega
        have h2 := hB.get h1
        refine ⟨by rw [List.length_append, ih.len]; rfl, by omega, fun j hj => ?_⟩
        rw [List.length_append, List.length_singleton] at hj
        by_cases e : j < L0.length
        · rw [getD_app _ _ _ e]; exact ih.nm j e
        · have : j = L0.length := by omega
          subst this
          have e2 : (L0 ++ [rdR b at0]).getD L0.length default = rdR b at0 := by simp
          rw [e2]
          show (bs _).size ≤ 255
          rw [← sb_length, sb_bs ((hB.drop _).take _), List.length_take]
          omega
theorem take20 {b : List Int} {p : Nat} (h : p + 20 ≤ b.length) : (b.drop p).take 20 = (List.range 20).map fun i => b.getD (p + i) 0 := by
  apply List.ext_getElem
  · simp; omega
  · intro i h1 h2
    have hi : i < 20 := by simpa using h2
    simp only [List.getElem_take, List.getElem_drop, List.getElem_map, List.getElem_range]
    rw [getD_get _ _ (by omega)]
end Go.Proofs.YtkbmkgcenehenaaDoor
