/- Records written and read: what the law MemberBack needs. -/
import Derived.Test.YtkbmkgcenehenaaDoorM28
set_option linter.unusedSimpArgs false
set_option linter.unusedVariables false
set_option maxHeartbeats 4000000
set_option maxRecDepth 100000
namespace Go.Proofs.YtkbmkgcenehenaaDoor
open Go Hm Go.ChangeShapes Go.WideShapes Go.ChangeAt Go.RowKit
attribute [local go_sem] Int.reduceEq Int.reduceNe Int.reduceLT Int.reduceLE Int.reduceNeg Int.reduceToNat Int.reduceAdd Int.reduceSub Int.reduceMul Int.reducePow Int.reduceDiv Int.reduceMod ite_eq_left_iff ite_eq_right_iff imp_false Nat.reduceLT Nat.reduceEqDiff Nat.reduceAdd Nat.reduceSub Nat.reduceMul Nat.reduceLeDiff Nat.reduceBEq reduceIte
theorem Byt.append {a b : List Int} (h : Byt a) (k : Byt b) : Byt (a ++ b) := fun x hx => by
  rcases List.mem_append.1 hx with hx | hx
  · exact h x hx
  · exact k x hx
theorem rd_write {l : List Rec} (hv : vldR l = 0) {t : List Int} (ht : (bytesR l ++ t).length ≤ 50000) : rdE (bytesR l ++ t) l.length = 0 ∧ rdL (bytesR l ++ t) l.length = l ∧ rdA (bytesR l ++ t) l.length = (bytesR l).length := by
  obtain ⟨h16, hg, _, _⟩ := vldR_ok hv
  have h := rdN_bytes hg t l.length (Nat.le_refl _)
  rw [List.take_length] at h
  have e := rdE_some h16 (by omega) h
  rw [if_pos hv] at e
  obtain ⟨h1, h2⟩ := rd_good e h
  exact ⟨e, h1, h2⟩
theorem rd_cut {l : List Rec} (hv : vldR l = 0) (hB : Byt (bytesR l)) (hl : (bytesR l).length ≤ 50000) {i : Nat} (hi : i < (bytesR l).length) : rdE ((bytesR l).take i) l.length = 18 := by
  obtain ⟨h16, hg, _, _⟩ := vldR_ok hv
  exact rdE_none h16 (by rw [List.length_take]; omega) (rdN_cut hg hB hi)
theorem rd_back {b : List Int} (hB : Byt b) {n : Int} (h : rdE b n = 0) : ∃ m k : Nat, n = m ∧ (rdL b n).length = m ∧ m ≤ 16 ∧ vldR (rdL b n) = 0 ∧ rdA b n = k ∧ k ≤ b.length ∧ bytesR (rdL b n) = b.take k ∧ SmallR (rdL b n) := by
  have hn : ¬ (n < 0 ∨ 16 < n) := fun h' => by
    unfold rdE at h
    rw [if_pos h'] at h
    cases h
  have hb : ¬ 50000 < b.length := fun h' => by
    unfold rdE at h
    rw [if_neg hn, if_pos h'] at h
    cases h
  obtain ⟨m, rfl⟩ := Int.eq_ofNat_of_zero_le (show 0 ≤ n by omega)
  have hm : m ≤ 16 := by omega
  cases hx : rdN b m with
  | none =>
    rw [rdE_none hm hb hx] at h
    cases h
  | some x =>
    obtain ⟨h1, h2⟩ := rd_good h hx
    obtain ⟨L, p⟩ := x
    have ok := rdN_ok hB hx
    have e := rdE_some hm hb hx
    rw [h] at e
    have hv : vldR L = 0 := by
      split at e
      · assumption
      · cases e
    have hL := ok.len
    refine ⟨m, p, rfl, ?_⟩
    simp only at h1 h2
    rw [h1, h2]
    exact ⟨hL, hm, hv, rfl, ok.le, bytes_rdN hB hx, ⟨by omega, fun i hi => Nat.le_trans (ok.nm i hi) (by omega)⟩⟩
end Go.Proofs.YtkbmkgcenehenaaDoor
