/- The mark: bytes.Index, and what the functions that look at one place answer. -/
import Derived.Test.YtmgjogbpmaiahaaKG
set_option linter.unusedSimpArgs false
set_option linter.unusedVariables false
set_option maxHeartbeats 4000000
set_option maxRecDepth 100000
namespace Go.Proofs.Ytmgjogbpmaiahaa
open Go Hm Go.ChangeShapes Go.WideShapes Go.ChangeAt Go.RowKit
open Go.Lib in
section
variable {mx : Int}
theorem asl_bytes {w : World} {ok : Bool → Nat → Prop} {l : List Int} {v : Value} (h : Imm w ok (.asl true (l.map (PV.int .u8)) l.length) v) : (l = [] ∧ v = .slice none 0 0) ∨ ∃ a cap, v = .slice (some a) l.length cap ∧ l.length ≤ cap ∧ ∀ i, i < l.length → w.cell? (a.add i) = some (.int .u8 (l.getD i 0)) := by
  generalize hn : l.length = n at h
  generalize hc : l.map (PV.int .u8) = cs at h
  cases h with
  | asl0 => exact .inl ⟨List.eq_nil_of_length_eq_zero hn, rfl⟩
  | asl f cells len v h =>
    refine .inr ?_
    cases h with
    | slz f cells a cap => exact ⟨a, cap, rfl, by omega, fun i hi => by omega⟩
    | sl f cells len blk off cap vs hl h1 hcc hv =>
      refine ⟨_, cap, rfl, hl, fun i hi => ?_⟩
      subst hn
      subst hc
      have e : (⟨blk, off, none⟩ : Addr).add i = ⟨blk, off + i, none⟩ := by
        unfold Addr.add; split
        · rename_i h; simp [h]
        · rfl
      rw [e, (hcc i (by simpa using hi)).2]
      have := hv i (.int .u8 (l.getD i 0)) (by rw [List.getElem?_map, List.getElem?_eq_getElem hi, getD_get l 0 hi]; rfl)
      generalize vs i = z at this
      cases this
      rfl
theorem index0_sum (xs ys : List Int) (hx : Byt xs) (hy : Byt ys) (h2 : 2 ≤ ys.length) (hl : xs.length < 4294967281) (hk : ys.length ≤ 9223372036854775807) : Sum Try.prog (Gm mx) 28 [.asl true (xs.map (PV.int .u8)) xs.length, .asl true (ys.map (PV.int .u8)) ys.length] (Is (.pv (.int .i64 (Lib.index (Lib.bytesOf xs) (Lib.bytesOf ys)))) []) := by
  refine ⟨⟨_, Try.func28, rfl, rfl⟩, fun w vs hG hlen hv => ?_⟩
  obtain ⟨v1, v2, rfl⟩ : ∃ v1 v2, vs = [v1, v2] := by
    match vs, hlen with
    | [a, b], _ => exact ⟨a, b, rfl⟩
  have i1 := hv 0 _ v1 rfl rfl
  have i2 := hv 1 _ v2 rfl rfl
  have hm : w.cell? ⟨0, 0, none⟩ = some (.int .i64 mx) := by
    have := hG 0 _ rfl
    cases this with
    | ip f cs off blk o vs h1 hc hv =>
      have h3 := (hc 0 (by simp)).2
      have h4 := hv 0 _ rfl
      generalize vs 0 = z at h3 h4
      cases h4
      simpa using h3
  have key : ∀ r : Int, (Calls Try.prog 28 #[v1, v2] w fun e w' => e = .returned (.int .i64 r) ∧ ∃ q, w' = w.drewN q) → Calls Try.prog 28 #[v1, v2] w fun e w' => ∃ v lv H β, e = .returned v ∧ Is (.pv (.int .i64 r)) [] lv H ∧ Pack w w' H β ∧ LR β H.length w' (okFr w β H w') lv v := by
    intro r h
    refine h.mono ?_
    rintro e w' ⟨rfl, q, rfl⟩
    refine ⟨_, _, [], id, rfl, ⟨rfl, rfl⟩, ⟨⟨rfl, rfl, rfl, Nat.le_refl _, fun _ _ => rfl⟩, by simp, by simp, by simp, by simp, by simp⟩, .pv (.int _ _)⟩
  refine key _ ?_
  rcases asl_bytes i2 with ⟨rfl, rfl⟩ | ⟨a2, c2, rfl, hc2, hd2⟩
  · simp at h2
  rcases asl_bytes i1 with ⟨rfl, rfl⟩ | ⟨a1, c1, rfl, hc1, hd1⟩
  · rw [show Lib.index (Lib.bytesOf []) (Lib.bytesOf ys) = -1 from Lib.index_past (i := 0) (fun h => by have h' : (Lib.bytesOf ys).length = 0 := by { rw [h]; rfl }; rw [Lib.bytesOf, List.length_map] at h'; omega) (fun _ h => absurd h (Nat.not_lt_zero _)) (by rw [Lib.bytesOf, Lib.bytesOf, List.length_map, List.length_map, List.length_nil]; omega)]
    exact (Any.bytes_Index_nil { Try.slLays with } (some a2) _ c2 w hk (fun h => by omega)).mono fun e w' ⟨he, hw⟩ => ⟨by rw [he, if_neg (by omega)], 0, hw⟩
  · exact Any.bytes_Index_at { Try.slLays with } a1 a2 _ c1 _ c2 xs ys mx w rfl rfl hx hy hd1 hd2 hc1 hl hk hm
def mk : List Int := [183, 98, 105, 116, 108, 111, 102, 116, 32, 98, 108, 107, 10]
@[go_sem] theorem mk_len : mk.length = 13 := rfl
theorem mk_byt : Byt mk := by unfold Byt mk; decide
/-- The mark stands at a place. -/
def AtP (l : List Int) (i : Nat) : Prop := (l.drop i).take 13 = mk
instance (l : List Int) (i : Nat) : Decidable (AtP l i) := by unfold AtP; infer_instance
theorem AtP.le {l : List Int} {i : Nat} (h : AtP l i) : i + 13 ≤ l.length := by
  have := congrArg List.length h
  simp only [List.length_take, List.length_drop, mk_len] at this
  omega
theorem map_f8_inj {l m : List Int} (h : Byt l) (k : Byt m) : l.map f8 = m.map f8 ↔ l = m := by
  constructor
  · intro e
    exact (bs_inj h k).1 (by unfold bs; rw [e])
  · rintro rfl; rfl
theorem occ_iff {l : List Int} (h : Byt l) (i : Nat) : Lib.occAt (Lib.bytesOf l) (Lib.bytesOf mk) i = true ↔ AtP l i := by
  have e : ∀ l : List Int, Lib.bytesOf l = l.map f8 := fun l => rfl
  unfold Lib.occAt
  rw [List.isPrefixOf_iff_prefix, List.prefix_iff_eq_take, e, e, ← List.map_drop, List.length_map, ← List.map_take, map_f8_inj mk_byt (fun x hx => h x (List.mem_of_mem_drop (List.mem_of_mem_take hx)))]
  exact ⟨fun h => h.symm, fun h => h.symm⟩
/-- The first place of the mark from one place on; the length, if there is none. -/
def nxt (l : List Int) (a : Nat) : Nat := a + (List.range' a (l.length - a)).findIdx fun i => decide (AtP l i)
theorem nxt_hit {l : List Int} {a i : Nat} (ha : a ≤ i) (h : AtP l i) (hn : ∀ j, a ≤ j → j < i → ¬ AtP l j) : nxt l a = i := by
  have hl := h.le
  have : (List.range' a (l.length - a)).findIdx (fun i => decide (AtP l i)) = i - a := by
    have hlt : i - a < (List.range' a (l.length - a)).length := by rw [List.length_range']; omega
    rw [List.findIdx_eq hlt]
    refine ⟨?_, fun j hj => ?_⟩
    · rw [List.getElem_range', Nat.one_mul, Nat.add_sub_cancel' ha]; exact decide_eq_true h
    · rw [List.getElem_range', Nat.one_mul]; exact decide_eq_false (hn _ (by omega) (by omega))
  unfold nxt
  omega
theorem nxt_none {l : List Int} {a : Nat} (ha : a ≤ l.length) (hn : ∀ j, a ≤ j → ¬ AtP l j) : nxt l a = l.length := by
  have : (List.range' a (l.length - a)).findIdx (fun i => decide (AtP l i)) = (List.range' a (l.length - a)).length := by
    rw [List.findIdx_eq_length]
    intro x hx
    rw [List.mem_range'_1] at hx
    exact decide_eq_false (hn x hx.1)
  unfold nxt
  rw [this, List.length_range']
  omega
theorem nxt_spec (l : List Int) (a : Nat) (ha : a ≤ l.length) : (nxt l a = l.length ∧ ∀ j, a ≤ j → ¬ AtP l j) ∨ (a ≤ nxt l a ∧ AtP l (nxt l a) ∧ ∀ j, a ≤ j → j < nxt l a → ¬ AtP l j) := by
  by_cases h : ∃ j, a ≤ j ∧ AtP l j
  · have key : ∀ n, (∃ j, a ≤ j ∧ j < a + n ∧ AtP l j) → ∃ j, a ≤ j ∧ AtP l j ∧ ∀ k, a ≤ k → k < j → ¬ AtP l k := by
      intro n
      induction n with
      | zero => rintro ⟨j, h1, h2, _⟩; omega
      | succ n ih =>
        rintro ⟨j, h1, h2, h3⟩
        by_cases h4 : ∃ j, a ≤ j ∧ j < a + n ∧ AtP l j
        · exact ih h4
        · exact ⟨j, h1, h3, fun k k1 k2 k3 => h4 ⟨k, k1, by omega, k3⟩⟩
    obtain ⟨j, h1, h2⟩ := h
    obtain ⟨j, h1, h2, h3⟩ := key (j + 1 - a) ⟨j, h1, by omega, h2⟩
    rw [nxt_hit h1 h2 h3]
    exact .inr ⟨h1, h2, h3⟩
  · have hn : ∀ j, a ≤ j → ¬ AtP l j := fun j h1 h2 => h ⟨j, h1, h2⟩
    exact .inl ⟨nxt_none ha hn, hn⟩
theorem AtP_drop (l : List Int) (a i : Nat) : AtP (l.drop a) i ↔ AtP l (a + i) := by unfold AtP; rw [List.drop_drop]
theorem index_nxt {l : List Int} (h : Byt l) (a : Nat) (ha : a ≤ l.length) : Lib.index (Lib.bytesOf (l.drop a)) (Lib.bytesOf mk) = if nxt l a = l.length then -1 else ((nxt l a - a : Nat) : Int) := by
  have hd : Byt (l.drop a) := fun x hx => h x (List.mem_of_mem_drop hx)
  rcases nxt_spec l a ha with ⟨h1, h2⟩ | ⟨h1, h2, h3⟩
  · rw [if_pos h1]
    refine Lib.index_none fun j _ => Bool.eq_false_iff.2 fun hc => ?_
    exact h2 _ (by omega) ((AtP_drop l a j).1 ((occ_iff hd j).1 hc))
  · have := h2.le
    rw [if_neg (by omega)]
    refine Lib.index_first ?_ ?_ fun j hj => Bool.eq_false_iff.2 fun hc => ?_
    · simp [Lib.bytesOf]; omega
    · rw [occ_iff hd, AtP_drop]
      rwa [Nat.add_sub_cancel' h1]
    · exact h3 _ (by omega) (by omega) ((AtP_drop l a j).1 ((occ_iff hd j).1 hc))
theorem index_sum (l : List Int) (h : Byt l) (hl : l.length ≤ 50000) (a : Nat) (ha : a ≤ l.length) : Sum Try.prog (Gm mx) 28 [.asl true ((l.drop a).map (PV.int .u8)) (l.length - a), .asl true (mk.map (PV.int .u8)) 13] (Is (.pv (.int .i64 (if nxt l a = l.length then -1 else ((nxt l a - a : Nat) : Int)))) []) := by
  have hd : Byt (l.drop a) := fun x hx => h x (List.mem_of_mem_drop hx)
  have := index0_sum (mx := mx) (l.drop a) mk hd mk_byt (by decide) (by rw [List.length_drop]; omega) (by decide)
  rw [index_nxt h a ha, List.length_drop] at this
  exact this
end
end Go.Proofs.Ytmgjogbpmaiahaa
