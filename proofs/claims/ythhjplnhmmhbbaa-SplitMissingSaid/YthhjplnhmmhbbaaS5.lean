/- What is missing: plain laws of gaps. -/
import Derived.Test.YthhjplnhmmhbbaaS1
set_option linter.unusedSimpArgs false
set_option linter.unusedVariables false
set_option maxHeartbeats 4000000
set_option maxRecDepth 100000
namespace Go.Proofs.Ythhjplnhmmhbbaa
open Go Hm Go.ChangeShapes Go.WideShapes Go.ChangeAt Go.RowKit
attribute [local go_sem] Int.reduceEq Int.reduceNe Int.reduceLT Int.reduceLE Int.reduceNeg Int.reduceToNat Int.reduceAdd Int.reduceSub Int.reduceMul Int.reducePow Int.reduceDiv Int.reduceMod ite_eq_left_iff ite_eq_right_iff imp_false Nat.reduceLT Nat.reduceEqDiff Nat.reduceAdd Nat.reduceSub Nat.reduceMul Nat.reduceLeDiff Nat.reduceBEq reduceIte
/-- The pieces cover a byte of a member. -/
def cov (l : List Pc) (i x : Int) : Bool := l.any fun p => decide (p.mem = i ∧ p.off ≤ x ∧ x < p.off + p.raw)
theorem cov_iff {l : List Pc} {i x : Int} : cov l i x = true ↔ ∃ p ∈ l, p.mem = i ∧ p.off ≤ x ∧ x < p.off + p.raw := by simp [cov]
theorem cov_no {l : List Pc} {i x : Int} : cov l i x = false ↔ ∀ p ∈ l, ¬ (p.mem = i ∧ p.off ≤ x ∧ x < p.off + p.raw) := by
  rw [← Bool.not_eq_true, cov_iff]
  constructor
  · intro h p hp hc; exact h ⟨p, hp, hc⟩
  · rintro h ⟨p, hp, hc⟩; exact h p hp hc
theorem cov_perm {l m : List Pc} (h : l.Perm m) (i x : Int) : cov l i x = cov m i x := by
  rw [Bool.eq_iff_iff, cov_iff, cov_iff]
  constructor
  · rintro ⟨p, hp, hc⟩; exact ⟨p, h.mem_iff.1 hp, hc⟩
  · rintro ⟨p, hp, hc⟩; exact ⟨p, h.mem_iff.2 hp, hc⟩
theorem cov_append (l m : List Pc) (i x : Int) : cov (l ++ m) i x = (cov l i x || cov m i x) := by simp [cov]
/-- The last piece is one byte longer. -/
def bump (l : List Pc) : List Pc := l.dropLast ++ (match l.getLast? with | some p => [⟨p.mem, p.off, p.raw + 1⟩] | none => [])
theorem bump_snoc (l : List Pc) (p : Pc) : bump (l ++ [p]) = l ++ [⟨p.mem, p.off, p.raw + 1⟩] := by simp [bump]
/-- The gaps of a member, below a place. -/
def gp (l : List Pc) (i : Int) : Nat → List Pc
  | 0 => []
  | a + 1 => if cov l i a then gp l i a else if a ≠ 0 ∧ cov l i (a - 1 : Nat) = false then bump (gp l i a) else gp l i a ++ [⟨i, a, 1⟩]
theorem gp_succ (l : List Pc) (i : Int) (a : Nat) : gp l i (a + 1) = if cov l i a then gp l i a else if a ≠ 0 ∧ cov l i (a - 1 : Nat) = false then bump (gp l i a) else gp l i a ++ [⟨i, a, 1⟩] := rfl
theorem gp_cov {l : List Pc} {i : Int} {E : Nat} : ∀ {m : Nat}, (∀ x : Nat, E ≤ x → x < E + m → cov l i x = true) → gp l i (E + m) = gp l i E
  | 0, _ => rfl
  | m + 1, h => by
    have ih := gp_cov (m := m) fun x h1 h2 => h x h1 (by omega)
    rw [show E + (m + 1) = (E + m) + 1 from rfl, gp_succ, if_pos (h (E + m) (by omega) (by omega)), ih]
theorem gp_gap {l : List Pc} {i : Int} {E : Nat} (h0 : E = 0 ∨ cov l i (E - 1 : Nat) = true) : ∀ {m : Nat}, (∀ x : Nat, E ≤ x → x < E + (m + 1) → cov l i x = false) → gp l i (E + (m + 1)) = gp l i E ++ [⟨i, E, (m + 1 : Nat)⟩]
  | 0, h => by
    rw [show E + (0 + 1) = E + 1 from rfl, gp_succ, h E (by omega) (by omega), if_neg (by decide), if_neg]
    · rfl
    · rintro ⟨h1, h2⟩
      rcases h0 with h0 | h0
      · exact h1 h0
      · rw [h2] at h0; cases h0
  | m + 1, h => by
    have ih := gp_gap h0 (m := m) fun x h1 h2 => h x h1 (by omega)
    rw [show E + (m + 1 + 1) = (E + (m + 1)) + 1 from rfl, gp_succ, h (E + (m + 1)) (by omega) (by omega), if_neg (by decide), if_pos ⟨by omega, h _ (by omega) (by omega)⟩, ih, bump_snoc]
    simp
theorem gp_congr {l m : List Pc} {i : Int} : ∀ {n : Nat}, (∀ x : Nat, x < n → cov l i x = cov m i x) → gp l i n = gp m i n
  | 0, _ => rfl
  | n + 1, h => by
    have ih := gp_congr (n := n) fun x hx => h x (by omega)
    rw [gp_succ, gp_succ, h n (by omega), ih]
    by_cases h0 : n = 0
    · subst h0; rfl
    · rw [h (n - 1) (by omega)]
/-- A piece lies within sizes. -/
def Win (L : List Int) (p : Pc) : Prop := 0 ≤ p.mem ∧ p.mem < L.length ∧ 0 ≤ p.off ∧ 0 < p.raw ∧ p.off + p.raw ≤ L.getD p.mem.toNat 0
/-- What is missing. -/
def mis (L : List Int) (l : List Pc) : List Pc := (List.range L.length).flatMap fun i : Nat => gp l i (L.getD i 0).toNat
def misN (L : List Int) (l : List Pc) (k : Nat) : List Pc := (List.range k).flatMap fun i : Nat => gp l i (L.getD i 0).toNat
theorem misN_snoc (L : List Int) (l : List Pc) (k : Nat) : misN L l (k + 1) = misN L l k ++ gp l k (L.getD k 0).toNat := by
  simp [misN, List.range_succ]
/-- Sorted by members and offsets. -/
def pLt (p q : Pc) : Prop := p.mem < q.mem ∨ p.mem = q.mem ∧ p.off < q.off
/-- Where the sorted pieces have been looked at as far as k: the end, and that all below it is told of. -/
structure GpAt (l d : List Pc) (i : Int) (k E : Nat) : Prop where
  h0 : E = 0 ∨ cov l i (E - 1 : Nat) = true
  le : ∀ j, j < k → (d.getD j default).mem = i → (d.getD j default).off + (d.getD j default).raw ≤ E
theorem gpAt_0 (l d : List Pc) (i : Int) : GpAt l d i 0 0 := ⟨.inl rfl, fun j hj => by omega⟩
theorem GpAt.skip {l d : List Pc} {i : Int} {k E : Nat} (h : GpAt l d i k E) (hk : (d.getD k default).mem ≠ i) : GpAt l d i (k + 1) E :=
  ⟨h.h0, fun j hj hm => by
    by_cases e : j = k
    · subst e; exact absurd hm hk
    · exact h.le j (by omega) hm⟩
theorem mem_getD {d : List Pc} {p : Pc} (h : p ∈ d) : ∃ j, j < d.length ∧ d.getD j default = p := by
  obtain ⟨j, hj, rfl⟩ := List.getElem_of_mem h
  exact ⟨j, hj, by simp [hj]⟩
theorem pw_getD {d : List Pc} (h : d.Pairwise fun p q => ¬ pLt q p) {i j : Nat} (hij : i < j) (hj : j < d.length) : ¬ pLt (d.getD j default) (d.getD i default) := by
  have := (List.pairwise_iff_getElem.1 h) i j (by omega) hj hij
  simpa [List.getD, List.getElem?_eq_getElem hj, List.getElem?_eq_getElem (Nat.lt_trans hij hj)] using this
/-- A piece that begins behind the end: a gap. -/
theorem GpAt.gap {l d : List Pc} {i : Int} {k E : Nat} (hp : d.Perm l) (hs : d.Pairwise fun p q => ¬ pLt q p) (h : GpAt l d i k E) (hk : k < d.length) {o : Nat} (hm : (d.getD k default).mem = i) (ho : (d.getD k default).off = o) (hE : E < o) :
    gp l i o = gp l i E ++ [⟨i, E, ((o - E : Nat) : Int)⟩] := by
  obtain ⟨m, rfl⟩ : ∃ m, o = E + (m + 1) := ⟨o - E - 1, by omega⟩
  rw [show E + (m + 1) - E = m + 1 by omega]
  refine gp_gap h.h0 fun x h1 h2 => cov_no.2 fun p hpl hc => ?_
  obtain ⟨j, hj, rfl⟩ := mem_getD (hp.mem_iff.2 hpl)
  obtain ⟨c1, c2, c3⟩ := hc
  by_cases e : j < k
  · have := h.le j e c1
    omega
  · by_cases e2 : j = k
    · subst e2; omega
    · have := pw_getD hs (i := k) (j := j) (by omega) hj
      unfold pLt at this
      omega
/-- A piece, looked at. -/
theorem GpAt.step {l d : List Pc} {i : Int} {k E : Nat} (hp : d.Perm l) (h : GpAt l d i k E) (hk : k < d.length) {o r : Nat} (hm : (d.getD k default).mem = i) (ho : (d.getD k default).off = o) (hr : (d.getD k default).raw = r) (hr0 : 0 < r) :
    GpAt l d i (k + 1) (max E (o + r)) ∧ gp l i (max E (o + r)) = gp l i (max E o) := by
  have hc : ∀ x : Nat, o ≤ x → x < o + r → cov l i x = true := fun x h1 h2 => cov_iff.2 ⟨d.getD k default, hp.mem_iff.1 (by
    have : d.getD k default = d[k] := by simp [hk]
    rw [this]; exact List.getElem_mem hk), hm, by omega, by omega⟩
  refine ⟨⟨?_, fun j hj hjm => ?_⟩, ?_⟩
  · by_cases e : o + r ≤ E
    · rw [Nat.max_eq_left e]; exact h.h0
    · rw [Nat.max_eq_right (by omega)]
      exact .inr (hc _ (by omega) (by omega))
  · by_cases e : j = k
    · subst e; omega
    · have := h.le j (by omega) hjm
      omega
  · by_cases e : o + r ≤ E
    · rw [Nat.max_eq_left e, Nat.max_eq_left (by omega)]
    · obtain ⟨m, hm'⟩ : ∃ m, o + r = max E o + m := ⟨o + r - max E o, by omega⟩
      rw [Nat.max_eq_right (by omega), hm']
      exact gp_cov fun x h1 h2 => hc x (by omega) (by omega)
/-- All pieces have been looked at. -/
theorem GpAt.last {l d : List Pc} {i : Int} {E n : Nat} (hp : d.Perm l) (h : GpAt l d i d.length E) (hE : E < n) : gp l i n = gp l i E ++ [⟨i, E, ((n - E : Nat) : Int)⟩] := by
  obtain ⟨m, rfl⟩ : ∃ m, n = E + (m + 1) := ⟨n - E - 1, by omega⟩
  rw [show E + (m + 1) - E = m + 1 by omega]
  refine gp_gap h.h0 fun x h1 h2 => cov_no.2 fun p hpl hc => ?_
  obtain ⟨j, hj, rfl⟩ := mem_getD (hp.mem_iff.2 hpl)
  have := h.le j hj hc.1
  omega
end Go.Proofs.Ythhjplnhmmhbbaa
