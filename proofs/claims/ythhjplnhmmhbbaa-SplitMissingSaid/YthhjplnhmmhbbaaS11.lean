/- What is missing: plain laws of the law SplitMissing. -/
import Derived.Test.YthhjplnhmmhbbaaS9
set_option linter.unusedSimpArgs false
set_option linter.unusedVariables false
set_option maxHeartbeats 4000000
set_option maxRecDepth 100000
namespace Go.Proofs.Ythhjplnhmmhbbaa
open Go Hm Go.ChangeShapes Go.WideShapes Go.ChangeAt Go.RowKit
attribute [local go_sem] Int.reduceEq Int.reduceNe Int.reduceLT Int.reduceLE Int.reduceNeg Int.reduceToNat Int.reduceAdd Int.reduceSub Int.reduceMul Int.reducePow Int.reduceDiv Int.reduceMod ite_eq_left_iff ite_eq_right_iff imp_false Nat.reduceLT Nat.reduceEqDiff Nat.reduceAdd Nat.reduceSub Nat.reduceMul Nat.reduceLeDiff Nat.reduceBEq reduceIte
/-- What is known of the gaps of a member. -/
structure GpOk (l : List Pc) (i : Int) (n : Nat) : Prop where
  ok : ∀ p ∈ gp l i n, p.mem = i ∧ 0 ≤ p.off ∧ 1 ≤ p.raw ∧ p.off + p.raw ≤ n ∧ ∀ x : Int, p.off ≤ x → x < p.off + p.raw → cov l i x = false
  pw : (gp l i n).Pairwise fun p q => p.off + p.raw < q.off
  last : n ≠ 0 → cov l i (n - 1 : Nat) = false → ∃ (r : List Pc) (p : Pc), gp l i n = r ++ [p] ∧ p.off + p.raw = (n : Int)
  all : ∀ x : Nat, x < n → cov l i x = false → ∃ p ∈ gp l i n, p.off ≤ x ∧ (x : Int) < p.off + p.raw
theorem gp_ok (l : List Pc) (i : Int) : ∀ n, GpOk l i n
  | 0 => ⟨fun p hp => by simp [gp] at hp, by simp [gp], fun h => absurd rfl h, fun x hx => absurd hx (Nat.not_lt_zero _)⟩
  | a + 1 => by
    have ih := gp_ok l i a
    by_cases hc : cov l i a = true
    · have e : gp l i (a + 1) = gp l i a := by rw [gp_succ, if_pos hc]
      refine ⟨?_, ?_, ?_, ?_⟩
      · intro p hp
        rw [e] at hp
        obtain ⟨h1, h2, h3, h4, h5⟩ := ih.ok p hp
        exact ⟨h1, h2, h3, by omega, h5⟩
      · rw [e]; exact ih.pw
      · intro _ h
        rw [show a + 1 - 1 = a by omega, hc] at h
        cases h
      · intro x hx h
        rw [e]
        by_cases ex : x = a
        · subst ex; rw [hc] at h; cases h
        · exact ih.all x (by omega) h
    · have hc' : cov l i a = false := by simpa using hc
      by_cases h0 : a ≠ 0 ∧ cov l i (a - 1 : Nat) = false
      · obtain ⟨r, p, hr, hp⟩ := ih.last h0.1 h0.2
        have e : gp l i (a + 1) = r ++ [⟨p.mem, p.off, p.raw + 1⟩] := by rw [gp_succ, if_neg hc, if_pos h0, hr, bump_snoc]
        have hok := ih.ok
        have hpw := ih.pw
        have hall := ih.all
        rw [hr] at hok hpw hall
        obtain ⟨k1, k2, k3, k4, k5⟩ := hok p (by simp)
        obtain ⟨q1, _, q2⟩ := List.pairwise_append.1 hpw
        refine ⟨?_, ?_, ?_, ?_⟩
        · intro q hq
          rw [e] at hq
          rcases List.mem_append.1 hq with hq | hq
          · obtain ⟨h1, h2, h3, h4, h5⟩ := hok q (by simp [hq])
            exact ⟨h1, h2, h3, by omega, h5⟩
          · rw [List.mem_singleton.1 hq]
            refine ⟨k1, k2, by show 1 ≤ p.raw + 1; omega, by show p.off + (p.raw + 1) ≤ _; omega, fun x h1 h2 => ?_⟩
            have h1' : p.off ≤ x := h1
            have h2' : x < p.off + (p.raw + 1) := h2
            by_cases ex : x < p.off + p.raw
            · exact k5 x h1' ex
            · rw [show x = (a : Int) by omega]; exact hc'
        · rw [e]
          refine List.pairwise_append.2 ⟨q1, by simp, fun q hq b hb => ?_⟩
          rw [List.mem_singleton.1 hb]
          exact q2 q hq p (by simp)
        · intro _ _
          exact ⟨r, _, e, by show p.off + (p.raw + 1) = _; omega⟩
        · intro x hx h
          rw [e]
          by_cases ex : x = a
          · subst ex
            exact ⟨⟨p.mem, p.off, p.raw + 1⟩, by simp, by show p.off ≤ _; omega, by show _ < p.off + (p.raw + 1); omega⟩
          · obtain ⟨q, hq, h1, h2⟩ := hall x (by omega) h
            rcases List.mem_append.1 hq with hq | hq
            · exact ⟨q, by simp [hq], h1, h2⟩
            · rw [List.mem_singleton.1 hq] at h1 h2
              exact ⟨⟨p.mem, p.off, p.raw + 1⟩, by simp, h1, by show _ < p.off + (p.raw + 1); omega⟩
      · have e : gp l i (a + 1) = gp l i a ++ [⟨i, a, 1⟩] := by rw [gp_succ, if_neg hc, if_neg h0]
        refine ⟨?_, ?_, ?_, ?_⟩
        · intro q hq
          rw [e] at hq
          rcases List.mem_append.1 hq with hq | hq
          · obtain ⟨h1, h2, h3, h4, h5⟩ := ih.ok q hq
            exact ⟨h1, h2, h3, by omega, h5⟩
          · rw [List.mem_singleton.1 hq]
            refine ⟨rfl, Int.natCast_nonneg _, Int.le_refl _, by show (a : Int) + 1 ≤ _; omega, fun x h1 h2 => ?_⟩
            have h1' : (a : Int) ≤ x := h1
            have h2' : x < (a : Int) + 1 := h2
            rw [show x = (a : Int) by omega]; exact hc'
        · rw [e]
          refine List.pairwise_append.2 ⟨ih.pw, by simp, fun q hq b hb => ?_⟩
          rw [List.mem_singleton.1 hb]
          show q.off + q.raw < (a : Int)
          obtain ⟨h1, h2, h3, h4, h5⟩ := ih.ok q hq
          by_cases ee : q.off + q.raw = a
          · exact absurd ⟨by omega, by have := h5 ((a - 1 : Nat) : Int) (by omega) (by omega); exact this⟩ h0
          · omega
        · intro _ _
          exact ⟨_, _, e, by show (a : Int) + 1 = _; omega⟩
        · intro x hx h
          rw [e]
          by_cases ex : x = a
          · subst ex
            exact ⟨⟨i, x, 1⟩, by simp, Int.le_refl _, by show (x : Int) < (x : Int) + 1; omega⟩
          · obtain ⟨q, hq, h1, h2⟩ := ih.all x (by omega) h
            exact ⟨q, by simp [hq], h1, h2⟩
theorem mem_misN {L : List Int} {l : List Pc} {p : Pc} {k : Nat} (h : p ∈ misN L l k) : ∃ i : Nat, i < k ∧ p ∈ gp l i (L.getD i 0).toNat := by
  obtain ⟨i, hi, hp⟩ := List.mem_flatMap.1 h
  exact ⟨i, List.mem_range.1 hi, hp⟩
theorem mis_win {L : List Int} (hL : ∀ i, i < L.length → 0 ≤ L.getD i 0) {l : List Pc} (hw : ∀ q ∈ l, Win L q) {p : Pc} (h : p ∈ mis L l) : Win L p ∧ ∀ q ∈ l, ¬ (q.mem = p.mem ∧ q.off < p.off + p.raw ∧ p.off < q.off + q.raw) := by
  obtain ⟨i, hi, hp⟩ := mem_misN (k := L.length) h
  obtain ⟨h1, h2, h3, h4, h5⟩ := (gp_ok l i _).ok p hp
  have h0 := hL i hi
  refine ⟨⟨by omega, by omega, h2, by omega, ?_⟩, fun q hq ⟨c1, c2, c3⟩ => ?_⟩
  · rw [h1, Int.toNat_natCast]; omega
  · by_cases e : p.off ≤ q.off
    · exact cov_no.1 (h5 q.off e c2) q hq ⟨by omega, Int.le_refl _, by have := (hw q hq).2.2.2.1; omega⟩
    · exact cov_no.1 (h5 p.off (Int.le_refl _) (by omega)) q hq ⟨by omega, by omega, c3⟩
theorem misN_pw (L : List Int) (l : List Pc) : ∀ k, (misN L l k).Pairwise fun p q => p.mem < q.mem ∨ p.mem = q.mem ∧ p.off + p.raw < q.off
  | 0 => by simp [misN]
  | k + 1 => by
    rw [misN_snoc]
    refine List.pairwise_append.2 ⟨misN_pw L l k, ?_, fun p hp q hq => ?_⟩
    · have hk := gp_ok l k (L.getD k 0).toNat
      refine List.Pairwise.imp_of_mem (fun {p q} hp hq h => ?_) hk.pw
      exact .inr ⟨by rw [(hk.ok p hp).1, (hk.ok q hq).1], h⟩
    · obtain ⟨i, hi, hp⟩ := mem_misN hp
      have h1 := ((gp_ok l i _).ok p hp).1
      have h2 := ((gp_ok l k _).ok q hq).1
      exact .inl (by omega)
theorem mis_again {L : List Int} (hL : ∀ i, i < L.length → 0 ≤ L.getD i 0) (l : List Pc) : mis L (l ++ mis L l) = [] := by
  unfold mis
  rw [List.flatMap_eq_nil_iff]
  intro i hi
  have hi' := List.mem_range.1 hi
  have := gp_cov (l := l ++ mis L l) (i := i) (E := 0) (m := (L.getD i 0).toNat) (fun x _ hx => by
    rw [cov_append]
    by_cases hc : cov l i x = true
    · rw [hc]; rfl
    · have hc' : cov l i x = false := by simpa using hc
      obtain ⟨p, hp, h1, h2⟩ := (gp_ok l i (L.getD i 0).toNat).all x (by omega) hc'
      rw [hc', Bool.false_or]
      exact cov_iff.2 ⟨p, List.mem_flatMap.2 ⟨i, hi, hp⟩, ((gp_ok l i _).ok p hp).1, h1, h2⟩)
  rw [Nat.zero_add] at this
  exact this
end Go.Proofs.Ythhjplnhmmhbbaa
