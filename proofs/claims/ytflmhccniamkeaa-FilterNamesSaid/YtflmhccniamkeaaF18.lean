/- Filters and chains have their inverse: plain laws. -/
import Derived.Test.YtflmhccniamkeaaF14
set_option linter.unusedSimpArgs false
set_option linter.unusedVariables false
set_option maxHeartbeats 4000000
set_option maxRecDepth 100000
namespace Go.Proofs.Ytflmhccniamkeaa
open Go Hm Go.ChangeShapes Go.WideShapes Go.ChangeAt Go.RowKit
attribute [local go_sem] Int.reduceEq Int.reduceNe Int.reduceLT Int.reduceLE Int.reduceNeg Int.reduceToNat Int.reduceAdd Int.reduceSub Int.reduceMul Int.reducePow Int.reduceDiv Int.reduceMod ite_eq_left_iff ite_eq_right_iff imp_false Nat.reduceLT Nat.reduceEqDiff Nat.reduceAdd Nat.reduceSub Nat.reduceMul Nat.reduceLeDiff Nat.reduceBEq reduceIte
theorem bk_fo {k n : Int} {b : List Int} (h : flE k n = 0) (hB : Byt b) (hl : b.length ≤ 10125) : bkK k (fo k n b) = true ∧ bk k n (fo k n b) = b := by
  rcases flE_cases h with ⟨rfl, m, rfl, h1, h2⟩ | ⟨rfl, rfl⟩ | ⟨rfl, rfl⟩
  · exact ⟨rfl, sms_dlt m (by omega) b hB⟩
  · exact ⟨rfl, nms_frs hB⟩
  · have e : spl (cnt b) = b := spl_cnt b
    refine ⟨?_, e⟩
    show decide _ = true
    rw [decide_eq_true_eq]
    show (spl (cnt b)).length ≤ 10125 ∧ cnt (spl (cnt b)) = cnt b
    rw [e]
    exact ⟨hl, rfl⟩
theorem fo_bk {k n : Int} {b : List Int} (h : flE k n = 0) (hB : Byt b) (hK : bkK k b = true) : fo k n (bk k n b) = b := by
  rcases flE_cases h with ⟨rfl, m, rfl, h1, h2⟩ | ⟨rfl, rfl⟩ | ⟨rfl, rfl⟩
  · exact dlt_sms m (by omega) b hB
  · exact frs_nms hB
  · have e2 : spK b = true := hK
    unfold spK at e2
    rw [decide_eq_true_eq] at e2
    exact e2.2
theorem bkK_three {k n : Int} {b : List Int} (h : flE k n = 0) (hK : ¬ bkK k b = true) : k = 3 := by
  unfold bkK at hK
  split at hK
  · assumption
  · exact absurd rfl hK
theorem fl_inv {k n : Int} {b : List Int} (h : flE k n = 0) (hB : Byt b) (hl : b.length ≤ 300) : ∃ x, Byt x ∧ x.length ≤ 20000 ∧ oneE k n b = 0 ∧ oneL k n b = x ∧ bckE k n x = 0 ∧ bckL k n x = b ∧ ((bckE k n b = 12 ∧ k = 3 ∧ bckL k n b = []) ∨ ∃ z, Byt z ∧ z.length ≤ 20000 ∧ bckE k n b = 0 ∧ bckL k n b = z ∧ oneE k n z = 0 ∧ oneL k n z = b) := by
  have h1 := bk_fo h hB (by omega)
  have h2 := fo_len k n b
  have e1 : oneE k n b = 0 := by unfold oneE; rw [if_pos h, if_neg (by omega)]
  have e2 : oneL k n b = fo k n b := by unfold oneL; rw [if_pos e1]
  have e3 : bckE k n (fo k n b) = 0 := by unfold bckE; rw [if_pos h, if_neg (by omega), if_pos h1.1]
  have e4 : bckL k n (fo k n b) = b := by unfold bckL; rw [if_pos e3]; exact h1.2
  refine ⟨fo k n b, fo_byt k n hB, by omega, e1, e2, e3, e4, ?_⟩
  by_cases hK : bkK k b = true
  · have h3 := fo_bk h hB hK
    have h4 := bk_len h hK
    have e5 : bckE k n b = 0 := by unfold bckE; rw [if_pos h, if_neg (by omega), if_pos hK]
    have e6 : bckL k n b = bk k n b := by unfold bckL; rw [if_pos e5]
    have e7 : oneE k n (bk k n b) = 0 := by unfold oneE; rw [if_pos h, if_neg (by omega)]
    have e8 : oneL k n (bk k n b) = b := by unfold oneL; rw [if_pos e7]; exact h3
    exact .inr ⟨bk k n b, bk_byt k n hB, by omega, e5, e6, e7, e8⟩
  · have e5 : bckE k n b = 12 := by unfold bckE; rw [if_pos h, if_neg (by omega), if_neg hK]
    have e6 : bckL k n b = [] := by unfold bckL; rw [if_neg (by omega)]
    exact .inl ⟨e5, bkK_three h hK, e6⟩
theorem un_ap : ∀ (l : List Fl), (∀ f ∈ l, flE f.kind f.n = 0) → ∀ b : List Int, Byt b → 3 ^ l.length * b.length ≤ 2 ^ l.length * 10125 → un l (ap l b) = some b
  | [], _, b, _, _ => rfl
  | f :: r, h, b, hB, hl => by
    have hf := h f (List.mem_cons_self ..)
    have h2 := fo_len f.kind f.n b
    rw [List.length_cons, Nat.pow_succ, Nat.pow_succ] at hl
    have p1 : 2 ^ r.length ≤ 3 ^ r.length := Nat.pow_le_pow_left (by omega) _
    have p2 : 0 < 3 ^ r.length := Nat.pow_pos (by omega)
    have hb : b.length ≤ 10125 := by
      have p3 := Nat.mul_le_mul_right 10125 (Nat.mul_le_mul p1 (show 2 ≤ 3 by omega))
      exact Nat.le_of_mul_le_mul_left (Nat.le_trans hl p3) (Nat.mul_pos p2 (show 0 < 3 by omega))
    have h3 : 3 ^ r.length * (fo f.kind f.n b).length ≤ 2 ^ r.length * 10125 := by
      have h4 : 3 ^ r.length * (2 * (fo f.kind f.n b).length) ≤ 3 ^ r.length * (3 * b.length) := Nat.mul_le_mul_left _ h2
      have h5 : 3 ^ r.length * (3 * b.length) = 3 ^ r.length * 3 * b.length := by rw [Nat.mul_assoc]
      have h6 : 3 ^ r.length * (2 * (fo f.kind f.n b).length) = 2 * (3 ^ r.length * (fo f.kind f.n b).length) := by rw [Nat.mul_left_comm]
      have h7 : 2 ^ r.length * 2 * 10125 = 2 * (2 ^ r.length * 10125) := by rw [Nat.mul_comm (2 ^ r.length) 2, Nat.mul_assoc]
      omega
    have ih := un_ap r (fun g hg => h g (List.mem_cons_of_mem _ hg)) (fo f.kind f.n b) (fo_byt _ _ hB) h3
    have e : un (f :: r) (ap (f :: r) b) = unS f (un r (ap r (fo f.kind f.n b))) := rfl
    have h8 := bk_fo hf hB hb
    rw [e, ih, unS, Option.bind_some, if_pos h8.1, h8.2]
theorem ap_un : ∀ (l : List Fl), (∀ f ∈ l, flE f.kind f.n = 0) → ∀ b z : List Int, Byt b → un l b = some z → ap l z = b ∧ Byt z
  | [], _, b, z, hB, h => by cases h; exact ⟨rfl, hB⟩
  | f :: r, h, b, z, hB, hu => by
    have hf := h f (List.mem_cons_self ..)
    have e : un (f :: r) b = unS f (un r b) := rfl
    rw [e] at hu
    cases hr : un r b with
    | none => rw [hr] at hu; cases hu
    | some x =>
      rw [hr, unS, Option.bind_some] at hu
      have ih := ap_un r (fun g hg => h g (List.mem_cons_of_mem _ hg)) b x hB hr
      split at hu
      · rename_i hK
        cases hu
        refine ⟨?_, bk_byt _ _ ih.2⟩
        show ap r (fo f.kind f.n (bk f.kind f.n x)) = b
        rw [fo_bk hf ih.2 hK]
        exact ih.1
      · cases hu
theorem chE_all {l : List Fl} (h : chE l = 0) : l.length ≤ 4 ∧ ∀ f ∈ l, flE f.kind f.n = 0 := by
  refine ⟨(chE_ok h).1, fun f hf => ?_⟩
  obtain ⟨i, hi, rfl⟩ := List.mem_iff_getElem.1 hf
  have := (chE_ok h).2 i hi
  rwa [getD_get l default hi] at this
theorem chE_of {l : List Fl} (h4 : l.length ≤ 4) (h : ∀ f ∈ l, flE f.kind f.n = 0) : chE l = 0 :=
  chE_good h4 fun i hi => by rw [getD_get l default hi]; exact h _ (List.getElem_mem hi)
theorem un_ap' {l : List Fl} (h : chE l = 0) {b : List Int} (hB : Byt b) (hl : b.length ≤ 2000) : un l (ap l b) = some b := by
  refine un_ap l (chE_all h).2 b hB ?_
  have h4 := (chE_all h).1
  have : l.length = 0 ∨ l.length = 1 ∨ l.length = 2 ∨ l.length = 3 ∨ l.length = 4 := by omega
  rcases this with e | e | e | e | e <;> rw [e] <;> simp <;> omega
theorem ch_inv {l : List Fl} {b : List Int} (h : chE l = 0) (hB : Byt b) (hl : b.length ≤ 2000) : ∃ x, Byt x ∧ x.length ≤ 10125 ∧ apE l b = 0 ∧ apL l b = x ∧ unE l x = 0 ∧ unL l x = b ∧ ((unE l b = 12 ∧ unL l b = []) ∨ ∃ z, Byt z ∧ z.length ≤ 2000 ∧ unE l b = 0 ∧ unL l b = z ∧ apE l z = 0 ∧ apL l z = b) := by
  have h1 := un_ap' h hB hl
  have h2 := ap_le (chE_all h).1 hl
  have e1 : apE l b = 0 := by unfold apE; rw [if_pos h, if_neg (by omega)]
  have e2 : apL l b = ap l b := by unfold apL; rw [if_pos e1]
  have e3 : unE l (ap l b) = 0 := by rw [unE_eq h (by omega), h1]; exact if_neg (by omega)
  have e4 : unL l (ap l b) = b := by rw [unL_some h1 h (by omega), if_neg (by omega)]
  refine ⟨ap l b, ap_byt l hB, h2, e1, e2, e3, e4, ?_⟩
  cases hu : un l b with
  | none =>
    have e5 : unE l b = 12 := by rw [unE_eq h (by omega), hu]
    exact .inl ⟨e5, unL_none hu⟩
  | some z =>
    by_cases hz : 2000 < z.length
    · have e5 : unE l b = 12 := by rw [unE_eq h (by omega), hu]; exact if_pos hz
      exact .inl ⟨e5, by rw [unL_some hu h (by omega), if_pos hz]⟩
    · have h3 := ap_un l (chE_all h).2 b z hB hu
      have e5 : unE l b = 0 := by rw [unE_eq h (by omega), hu]; exact if_neg hz
      have e7 : apE l z = 0 := by unfold apE; rw [if_pos h, if_neg hz]
      exact .inr ⟨z, h3.2, by omega, e5, by rw [unL_some hu h (by omega), if_neg hz], e7, by unfold apL; rw [if_pos e7]; exact h3.1⟩
theorem ap_parts {l : List Fl} (h : chE l = 0) (k : Nat) {b : List Int} (hB : Byt b) (hl : b.length ≤ 300) : ∃ x y, Byt x ∧ Byt y ∧ x.length ≤ 2000 ∧ y.length ≤ 10125 ∧ apE l b = 0 ∧ apL l b = y ∧ apE (l.take k) b = 0 ∧ apL (l.take k) b = x ∧ apE (l.drop k) x = 0 ∧ apL (l.drop k) x = y ∧ unE (l.drop k) y = 0 ∧ unL (l.drop k) y = x ∧ apE [] b = 0 ∧ apL [] b = b := by
  have ha := chE_all h
  have h1 : chE (l.take k) = 0 := chE_of (by rw [List.length_take]; omega) fun f hf => ha.2 f (List.mem_of_mem_take hf)
  have h2 : chE (l.drop k) = 0 := chE_of (by rw [List.length_drop]; omega) fun f hf => ha.2 f (List.mem_of_mem_drop hf)
  have h3 : chE [] = 0 := chE_of (by simp) (by simp)
  have lx : (ap (l.take k) b).length ≤ 2000 := by
    have h := ap_len (l.take k) b
    have h4 : (l.take k).length ≤ 4 := by rw [List.length_take]; omega
    have : (l.take k).length = 0 ∨ (l.take k).length = 1 ∨ (l.take k).length = 2 ∨ (l.take k).length = 3 ∨ (l.take k).length = 4 := by omega
    rcases this with e | e | e | e | e <;> rw [e] at h <;> simp at h <;> omega
  have e : ap (l.drop k) (ap (l.take k) b) = ap l b := by
    unfold ap
    rw [← List.foldl_append, List.take_append_drop]
  have bx := ap_byt (l.take k) hB
  obtain ⟨y, y1, y2, y3, y4, y5, y6, _⟩ := ch_inv h2 bx lx
  have e4 : apL (l.drop k) (ap (l.take k) b) = ap l b := by unfold apL; rw [if_pos y3]; exact e
  have c1 : apE l b = 0 := by unfold apE; rw [if_pos h, if_neg (by omega)]
  have c2 : apE (l.take k) b = 0 := by unfold apE; rw [if_pos h1, if_neg (by omega)]
  have c3 : apE [] b = 0 := by unfold apE; rw [if_pos h3, if_neg (by omega)]
  refine ⟨ap (l.take k) b, y, bx, y1, lx, y2, c1, ?_, c2, ?_, y3, y4, y5, y6, c3, ?_⟩
  · rw [← y4, e4]; unfold apL; rw [if_pos c1]
  · unfold apL; rw [if_pos c2]
  · unfold apL; rw [if_pos c3]; rfl
end Go.Proofs.Ytflmhccniamkeaa
