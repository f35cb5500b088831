/- Records of valid members: plain laws. -/
import Derived.Test.YtkbmkgcenehenaaDoorM17
import Derived.Test.YtkbmkgcenehenaaDoorM19
set_option linter.unusedSimpArgs false
set_option linter.unusedVariables false
set_option maxHeartbeats 4000000
set_option maxRecDepth 100000
namespace Go.Proofs.YtkbmkgcenehenaaDoor
open Go Hm Go.ChangeShapes Go.WideShapes Go.ChangeAt Go.RowKit
attribute [local go_sem] Int.reduceEq Int.reduceNe Int.reduceLT Int.reduceLE Int.reduceNeg Int.reduceToNat Int.reduceAdd Int.reduceSub Int.reduceMul Int.reducePow Int.reduceDiv Int.reduceMod ite_eq_left_iff ite_eq_right_iff imp_false Nat.reduceLT Nat.reduceEqDiff Nat.reduceAdd Nat.reduceSub Nat.reduceMul Nat.reduceLeDiff Nat.reduceBEq reduceIte
def xS : ByteArray := ⟨#[120]⟩
theorem sumD_ge {l : List Mem} {i : Nat} (h : i < l.length) : ((l.getD i default).data.length : Int) ≤ sumD l := by
  induction l generalizing i with
  | nil => simp at h
  | cons a t ih =>
    have hn : ∀ t : List Mem, 0 ≤ sumD t := fun t => by
      unfold sumD
      induction t with
      | nil => simp
      | cons a t ih => simp; omega
    have e : sumD (a :: t) = a.data.length + sumD t := by simp [sumD]
    cases i with
    | zero => have := hn t; simp only [List.getD_cons_zero]; omega
    | succ i =>
      have := ih (i := i) (by simpa using h)
      simp only [List.getD_cons_succ]; omega
theorem chkM_ok {l : List Mem} (h : chkM l = 0) : l.length ≤ 16 ∧ sumD l ≤ 8192 ∧ (∀ i, i < l.length → NmP (l.getD i default).name) ∧ (names l).Nodup := by
  unfold chkM at h
  split at h
  · cases h
  · split at h
    · cases h
    · split at h
      · cases h
      · rename_i h1 h2 h3
        refine ⟨by omega, by omega, fun i hi => Classical.byContradiction fun h' => h2 ⟨i, hi, h'⟩, by simpa using h3⟩
theorem rec_getD (l : List Mem) (i : Nat) (h : i < l.length) : (l.map recM).getD i default = recM (l.getD i default) := by
  rw [getD_get _ _ (by simpa using h), getD_get _ _ h, List.getElem_map]
theorem good_rec {m : Mem} (h1 : NmP m.name) (h2 : m.data.length ≤ 8192) : ¬ badR (recM m) := by
  unfold badR
  rintro (h | h | h | ⟨h, h'⟩)
  · exact h h1
  · have : (0 : Int) ≤ m.data.length := Int.natCast_nonneg _
    exact absurd h (Int.not_lt.2 this)
  · have : ((m.data.length : Int)) ≤ 8192 := by omega
    exact absurd h (Int.not_lt.2 this)
  · apply h'
    have h0 : (m.data.length : Int) = 0 := h
    have : m.data = [] := List.eq_nil_of_length_eq_zero (by omega)
    show shaL m.data = shaL []
    rw [this]
theorem vld_rec {l : List Mem} (h : chkM l = 0) : vldR (l.map recM) = 0 := by
  obtain ⟨h1, h2, h3, h4⟩ := chkM_ok h
  have e1 : sumR (l.map recM) = sumD l := by simp only [sumR, sumD, List.map_map]; rfl
  have e2 : namesR (l.map recM) = names l := by simp only [namesR, names, List.map_map]; rfl
  unfold vldR
  rw [List.length_map, if_neg (by omega), if_neg, if_neg (by omega), if_neg (by rw [e2]; exact fun h => h h4)]
  rintro ⟨i, hi, hb⟩
  rw [List.length_map] at hi
  rw [rec_getD l i hi] at hb
  have := sumD_ge hi
  exact good_rec (h3 i hi) (by omega) hb
theorem vld_rec1 {m : Mem} (h1 : NmP m.name) (h2 : m.data.length ≤ 8192) : vldR [recM m] = 0 := by
  have h0 : chkM [m] = 0 := by
    unfold chkM
    rw [if_neg (by simp [sumD]; omega), if_neg (fun ⟨i, h, h'⟩ => h' (by rw [getD1 _ _ h]; exact h1)), if_neg (fun h => h (by simp [names]))]
  exact vld_rec h0
theorem rec_sum_at (l : List Rec) (k : Nat) (h : k < l.length) : ((l.flatMap Rec.c).drop (k * 22 + 2)).take 20 = (l.getD k default).sum.1.map (PV.int .u8) := by
  rw [flat_sub Rec.c_len l default k 2 20 h (by decide)]
  generalize l.getD k default = r
  have hr := r.sum.2
  show (r.sum.1.map (PV.int .u8)).take 20 = _
  exact List.take_of_length_le (by rw [List.length_map]; omega)
end Go.Proofs.YtkbmkgcenehenaaDoor
