/- The law MarkerJoins. -/
import Derived.Test.YtmgjogbpmaiahaaK5
set_option linter.unusedSimpArgs false
set_option linter.unusedVariables false
set_option maxHeartbeats 4000000
set_option maxRecDepth 100000
namespace Go.Proofs.Ytmgjogbpmaiahaa
open Go Hm Go.ChangeShapes Go.WideShapes Go.ChangeAt Go.RowKit
section
variable {mx : Int}
theorem mk_first : ∀ d : Nat, d < 13 → 0 < d → mk.getD d 0 ≠ mk.getD 0 0 := by decide
theorem PartP.getD {l : List Int} {q k : Nat} (h : PartP l q) (hq : q ≤ 13) (hk : k < q) : l.getD (l.length - q + k) 0 = mk.getD k 0 := by
  have h1 := h.2
  have h2 : k < (l.drop (l.length - q)).length := by rw [List.length_drop]; have := h.1; omega
  have h3 : k < (mk.take q).length := by rw [List.length_take, mk_len]; omega
  have : (l.drop (l.length - q)).getD k 0 = (mk.take q).getD k 0 := by rw [h1]
  rw [getD_get _ 0 h2, getD_get _ 0 h3, List.getElem_drop, List.getElem_take] at this
  rw [getD_get l 0 (by have := h.1; omega), getD_get mk 0 (by rw [mk_len]; omega)]
  exact this
theorem PartP.uniq {l : List Int} {q r : Nat} (h : PartP l q) (k : PartP l r) (hq : 0 < q) (hr : r ≤ 12) : ¬ q < r := by
  intro hlt
  have e1 := h.getD (k := 0) (by omega) hq
  have e2 := k.getD (k := r - q) (by omega) (by omega)
  have := k.1
  rw [show l.length - r + (r - q) = l.length - q by omega] at e2
  rw [Nat.add_zero, e2] at e1
  exact mk_first (r - q) (by omega) (by omega) e1
theorem ptd_spec (l : List Int) : ∀ n, (ptd l n = 0 ∧ ∀ k, 0 < k → k ≤ n → ¬ PartP l k) ∨ (0 < ptd l n ∧ ptd l n ≤ n ∧ PartP l (ptd l n))
  | 0 => .inl ⟨rfl, fun k h1 h2 => by omega⟩
  | n + 1 => by
    by_cases h : PartP l (n + 1)
    · rw [ptd, if_pos h]
      exact .inr ⟨by omega, by omega, h⟩
    · rw [ptd, if_neg h]
      rcases ptd_spec l n with ⟨h1, h2⟩ | ⟨h1, h2, h3⟩
      · refine .inl ⟨h1, fun k k1 k2 => ?_⟩
        by_cases h4 : k ≤ n
        · exact h2 k k1 h4
        · obtain rfl : k = n + 1 := by omega
          exact h
      · exact .inr ⟨h1, by omega, h3⟩
theorem ptd_of {l : List Int} {q : Nat} (h : PartP l q) (h0 : 0 < q) (h12 : q ≤ 12) : ptd l 12 = q := by
  rcases ptd_spec l 12 with ⟨_, h2⟩ | ⟨h1, h2, h3⟩
  · exact absurd h (h2 q h0 h12)
  · have := h.uniq h3 h0 h2
    have := h3.uniq h h1 h12
    omega
theorem ptd_le (l : List Int) : ptd l 12 ≤ 12 ∧ ptd l 12 ≤ l.length := by
  rcases ptd_spec l 12 with ⟨h1, _⟩ | ⟨_, h2, h3⟩
  · omega
  · exact ⟨h2, h3.1⟩
/-- The mark stands across the border. -/
def Crs (l m : List Int) : Prop := 0 < ptd l 12 ∧ 13 - ptd l 12 ≤ m.length ∧ m.take (13 - ptd l 12) = mk.drop (ptd l 12)
instance (l m : List Int) : Decidable (Crs l m) := by unfold Crs; infer_instance
theorem AtP_app {l m : List Int} {i : Nat} (hi : i < l.length) : AtP (l ++ m) i ↔ AtP l i ∨ (Crs l m ∧ i = l.length - ptd l 12) := by
  by_cases h13 : i + 13 ≤ l.length
  · have e : ((l ++ m).drop i).take 13 = (l.drop i).take 13 := by
      rw [List.drop_append_of_le_length (by omega), List.take_append_of_le_length (by rw [List.length_drop]; omega)]
    have := (ptd_le l).1
    constructor
    · intro h
      left
      unfold AtP at h ⊢
      rwa [e] at h
    · rintro (h | ⟨hc, h⟩)
      · unfold AtP at h ⊢
        rwa [e]
      · omega
  · obtain ⟨q, hq⟩ : ∃ q, q = l.length - i := ⟨_, rfl⟩
    have hld : (l.drop i).length = q := by rw [List.length_drop, hq]
    have e : ((l ++ m).drop i).take 13 = l.drop i ++ m.take (13 - q) := by
      rw [List.drop_append_of_le_length (by omega), List.take_append, hld, List.take_of_length_le (by omega)]
    have hno : ¬ AtP l i := fun h => h13 h.le
    constructor
    · intro h
      right
      unfold AtP at h
      rw [e] at h
      have h1 : l.drop i = mk.take q := by rw [← h, List.take_append_of_le_length (by omega), List.take_of_length_le (by omega)]
      have h2 : m.take (13 - q) = mk.drop q := by rw [← h, List.drop_append_of_le_length (by omega), List.drop_of_length_le (by omega), List.nil_append]
      have hp : PartP l q := ⟨by omega, by rw [show l.length - q = i by omega]; exact h1⟩
      have hpt := ptd_of hp (by omega) (by omega)
      refine ⟨⟨by omega, ?_, by rw [hpt]; exact h2⟩, by omega⟩
      have := congrArg List.length h2
      rw [List.length_take, List.length_drop, mk_len] at this
      rw [hpt]
      omega
    · rintro (h | ⟨⟨c1, c2, c3⟩, h⟩)
      · exact absurd h hno
      · have hqp : q = ptd l 12 := by have := ptd_le l; omega
        rw [← hqp] at c1 c2 c3
        unfold AtP
        rw [e, c3]
        rcases ptd_spec l 12 with ⟨h1, _⟩ | ⟨_, _, h3⟩
        · omega
        · rw [← hqp] at h3
          have h4 := h3.2
          rw [show l.length - q = i by omega] at h4
          rw [h4, List.take_append_drop]
theorem AtP_snd (l m : List Int) (i : Nat) : AtP (l ++ m) (l.length + i) ↔ AtP m i := by
  unfold AtP
  rw [List.drop_append, List.drop_of_length_le (by omega), List.nil_append, Nat.add_sub_cancel_left]
theorem pl_congr {l m : List Int} {n : Nat} (h : ∀ i, i < n → (AtP l i ↔ AtP m i)) : pl l n = pl m n := by
  unfold pl
  congr 1
  refine List.filter_congr fun i hi => ?_
  rw [List.mem_range] at hi
  exact decide_eq_decide.2 (h i hi)
/-- The places in both, the one across the border among them. -/
def jn0 (l m : List Int) : List Int := alL l ++ if Crs l m then [((l.length - ptd l 12 : Nat) : Int)] else []
theorem pl_app1 (l m : List Int) : pl (l ++ m) l.length = pl l l.length ++ if Crs l m then [((l.length - ptd l 12 : Nat) : Int)] else [] := by
  have hp := ptd_le l
  by_cases hc : Crs l m
  · rw [if_pos hc]
    obtain ⟨a, ha⟩ : ∃ a, a = l.length - ptd l 12 := ⟨_, rfl⟩
    have c1 := hc.1
    have e1 := pl_no (l := l ++ m) (a := a + 1) (l.length - (a + 1)) fun j j1 j2 hj => by
      rcases (AtP_app (by omega)).1 hj with h | ⟨_, h⟩
      · have := h.le; omega
      · omega
    rw [Nat.add_sub_cancel' (by omega), pl_succ, if_pos ((AtP_app (by omega)).2 (.inr ⟨hc, ha⟩))] at e1
    have e2 := pl_no (l := l) (a := a) (l.length - a) fun j j1 j2 hj => by have := hj.le; omega
    rw [Nat.add_sub_cancel' (by omega)] at e2
    have e3 : pl (l ++ m) a = pl l a := pl_congr fun i hi => by
      rw [AtP_app (by omega)]
      exact ⟨fun h => h.resolve_right fun h => by omega, .inl⟩
    rw [e1, e2, e3, ha]
  · rw [if_neg hc, List.append_nil]
    exact pl_congr fun i hi => by
      rw [AtP_app hi]
      exact ⟨fun h => h.resolve_right fun h => hc h.1, .inl⟩
theorem pl_app2 (l m : List Int) : ∀ b, pl (l ++ m) (l.length + b) = pl (l ++ m) l.length ++ (pl m b).map ((l.length : Int) + ·)
  | 0 => by simp [pl_zero]
  | b + 1 => by
    rw [← Nat.add_assoc, pl_succ, pl_app2 l m b, pl_succ, List.map_append, List.append_assoc]
    congr 2
    by_cases h : AtP m b
    · rw [if_pos ((AtP_snd l m b).2 h), if_pos h]; simp
    · rw [if_neg (fun h' => h ((AtP_snd l m b).1 h')), if_neg h]; simp
theorem alL_app {l m : List Int} (hl : l.length ≤ 500) (hm : m.length ≤ 500) : alL (l ++ m) = jn0 l m ++ (alL m).map ((l.length : Int) + ·) := by
  have a1 : alL (l ++ m) = pl (l ++ m) (l ++ m).length := if_neg (by rw [List.length_append]; omega)
  have a2 : alL l = pl l l.length := if_neg (by omega)
  have a3 : alL m = pl m m.length := if_neg (by omega)
  unfold jn0
  rw [a1, a2, a3, List.length_append, pl_app2, pl_app1]
theorem alL_bd {m : List Int} (hm : m.length ≤ 500) {k : Nat} (hk : k < (alL m).length) : 0 ≤ (alL m).getD k 0 ∧ (alL m).getD k 0 < m.length := by
  have hm' := List.getElem_mem hk
  rw [getD_get _ 0 hk]
  generalize (alL m)[k] = x at *
  have a3 : alL m = pl m m.length := if_neg (by omega)
  rw [a3] at hm'
  unfold pl at hm'
  obtain ⟨j, hj, e⟩ := List.mem_map.1 hm'
  rw [List.mem_filter, List.mem_range] at hj
  omega
def jn (Z P : List Int) (a : Int) (k : Nat) : List Int := Z ++ (P.take k).map (a + ·)
@[go_sem] theorem jn_zero (Z P : List Int) (a : Int) : jn Z P a 0 = Z := by simp [jn]
theorem jn_succ (Z P : List Int) (a : Int) (k : Nat) (h : k < P.length) : jn Z P a (k + 1) = jn Z P a k ++ [a + P.getD k 0] := by
  unfold jn
  rw [take_snocD P 0 h, List.map_append, ← List.append_assoc]
  rfl
theorem jn_len (Z P : List Int) (a : Int) (k : Nat) (h : k ≤ P.length) : (jn Z P a k).length = Z.length + k := by
  unfold jn
  rw [List.length_append, List.length_map, List.length_take, Nat.min_eq_left h]
end
end Go.Proofs.Ytmgjogbpmaiahaa
