/- Records written and read: plain laws. -/
import Derived.Test.YtkbmkgcenehenaaDoorM16
import Derived.Test.YtkbmkgcenehenaaDoorM25
set_option linter.unusedSimpArgs false
set_option linter.unusedVariables false
set_option maxHeartbeats 4000000
set_option maxRecDepth 100000
namespace Go.Proofs.YtkbmkgcenehenaaDoor
open Go Hm Go.ChangeShapes Go.WideShapes Go.ChangeAt Go.RowKit
attribute [local go_sem] Int.reduceEq Int.reduceNe Int.reduceLT Int.reduceLE Int.reduceNeg Int.reduceToNat Int.reduceAdd Int.reduceSub Int.reduceMul Int.reducePow Int.reduceDiv Int.reduceMod ite_eq_left_iff ite_eq_right_iff imp_false Nat.reduceLT Nat.reduceEqDiff Nat.reduceAdd Nat.reduceSub Nat.reduceMul Nat.reduceLeDiff Nat.reduceBEq reduceIte
theorem getD_drop0 (b : List Int) (p i : Nat) : b.getD (p + i) 0 = (b.drop p).getD i 0 := by simp [List.getD, List.getElem?_drop]
theorem getD_appr (x y : List Int) (i : Nat) : (x ++ y).getD (x.length + i) 0 = y.getD i 0 := by
  simp [List.getD, List.getElem?_append_right]
theorem rd_rec {b t : List Int} {p : Nat} {r : Rec} (hd : b.drop p = recB r ++ t) (hg : ¬ badR r) : ¬ rdC b p ∧ rdR b p = r ∧ (b.getD p 0).toNat = r.name.size := by
  obtain ⟨g1, g2, g3, g4⟩ := goodR hg
  have hn := g1.2.1
  have hlen := congrArg List.length hd
  rw [List.length_drop, List.length_append, recB_len hg] at hlen
  have e : recB r ++ t = [(r.name.size : Int) % 256] ++ (sb r.name ++ ([r.size.fdiv 256 % 256] ++ ([r.size % 256] ++ (r.sum.1 ++ t)))) := by simp [recB]
  rw [e] at hd
  have h0 : b.getD p 0 = (r.name.size : Int) := by
    have := getD_drop0 b p 0
    rw [hd] at this
    rw [show p + 0 = p from rfl] at this
    rw [this]
    show (r.name.size : Int) % 256 = _
    omega
  have hnn : (b.getD p 0).toNat = r.name.size := by rw [h0]; rfl
  have d1 : b.drop (p + 1) = sb r.name ++ ([r.size.fdiv 256 % 256] ++ ([r.size % 256] ++ (r.sum.1 ++ t))) := by
    rw [← List.drop_drop, hd]; rfl
  have d2 : b.drop (p + 1 + r.name.size) = [r.size.fdiv 256 % 256] ++ ([r.size % 256] ++ (r.sum.1 ++ t)) := by
    rw [← List.drop_drop, d1, ← sb_length, List.drop_left]
  have d3 : b.drop (p + 3 + r.name.size) = r.sum.1 ++ t := by
    rw [show p + 3 + r.name.size = p + 1 + r.name.size + 2 by omega, ← List.drop_drop, d2]; rfl
  have v1 : b.getD (p + 1 + r.name.size) 0 = r.size.fdiv 256 % 256 := by
    have := getD_drop0 b (p + 1 + r.name.size) 0
    rw [d2] at this
    exact this
  have v2 : b.getD (p + 2 + r.name.size) 0 = r.size % 256 := by
    have := getD_drop0 b (p + 1 + r.name.size) 1
    rw [d2, show p + 1 + r.name.size + 1 = p + 2 + r.name.size by omega] at this
    exact this
  have vs : (b.getD (p + 1 + r.name.size) 0) * 256 + b.getD (p + 2 + r.name.size) 0 = r.size := by
    rw [v1, v2, Int.fdiv_eq_ediv_of_nonneg _ (by decide)]; omega
  refine ⟨fun h => ?_, ?_, hnn⟩
  · unfold rdC at h
    rw [h0] at h
    omega
  · unfold rdR
    rw [hnn, vs, d1, ← sb_length, List.take_left, bs_sb]
    obtain ⟨nm, sz, ⟨sm, hsm⟩⟩ := r
    simp only at d3 ⊢
    congr 1
    apply Subtype.ext
    simp only
    apply List.ext_getElem
    · simp [hsm]
    · intro i h1 h2
      rw [List.getElem_map, List.getElem_range, sb_length, getD_drop0, d3, getD_app _ _ _ h2, getD_get _ _ h2]
theorem bytesR_append (l m : List Rec) : bytesR (l ++ m) = bytesR l ++ bytesR m := by simp [bytesR]
theorem rdN_bytes {l : List Rec} (hg : ∀ i, i < l.length → ¬ badR (l.getD i default)) (t : List Int) : ∀ k, k ≤ l.length → rdN (bytesR l ++ t) k = some (l.take k, (bytesR (l.take k)).length)
  | 0, _ => by simp [rdN, bytesR]
  | k + 1, hk => by
    have ih := rdN_bytes hg t k (by omega)
    have e0 : l = l.take k ++ (l.getD k default :: l.drop (k + 1)) := by
      rw [getD_get _ _ (by omega), ← List.drop_eq_getElem_cons, List.take_append_drop]
    have hd : (bytesR l ++ t).drop (bytesR (l.take k)).length = recB (l.getD k default) ++ (bytesR (l.drop (k + 1)) ++ t) := by
      have : bytesR l = bytesR (l.take k) ++ (recB (l.getD k default) ++ bytesR (l.drop (k + 1))) := by
        conv => lhs; rw [e0, bytesR_append]
        rfl
      rw [this, List.append_assoc, List.drop_left, List.append_assoc]
    obtain ⟨h1, h2, h3⟩ := rd_rec hd (hg k (by omega))
    rw [rdN_next ih h1, h2, h3, take_snocD l default (by omega), bytesR_append]
    have : bytesR [l.getD k default] = recB (l.getD k default) := by simp [bytesR]
    rw [this, List.length_append, recB_len (hg k (by omega))]
    congr 2
    omega
theorem rdN_mono {b t : List Int} (hB : Byt b) : ∀ {k x}, rdN b k = some x → rdN (b ++ t) k = some x
  | 0, x, h => by simpa [rdN] using h
  | k + 1, x, h => by
    rw [rdN] at h
    split at h
    · cases h
    · rename_i L p h0
      have ih := rdN_mono (t := t) hB h0
      split at h
      · cases h
      · rename_i hc
        have hc0 := hc
        unfold rdC at hc
        have hp : p < b.length := by omega
        have hb := hB.get hp
        have g : ∀ i, i < b.length → (b ++ t).getD i 0 = b.getD i 0 := fun i hi => getD_app _ _ _ hi
        have hc2 : ¬ rdC (b ++ t) p := by
          unfold rdC
          rw [g p hp, List.length_append]
          omega
        have hr : rdR (b ++ t) p = rdR b p := by
          unfold rdR
          rw [g p hp, g (p + 1 + (b.getD p 0).toNat) (by omega), g (p + 2 + (b.getD p 0).toNat) (by omega)]
          congr 1
          · rw [List.drop_append_of_le_length (by omega), List.take_append_of_le_length (by rw [List.length_drop]; omega)]
          · apply Subtype.ext
            show List.map _ _ = List.map _ _
            apply List.map_congr_left
            intro i hi
            have := List.mem_range.1 hi
            exact g _ (by omega)
        rw [rdN_next ih hc2, hr, g p hp]
        exact h
theorem rdN_cut {l : List Rec} (hg : ∀ i, i < l.length → ¬ badR (l.getD i default)) (hB : Byt (bytesR l)) {i : Nat} (hi : i < (bytesR l).length) : rdN ((bytesR l).take i) l.length = none := by
  cases h : rdN ((bytesR l).take i) l.length with
  | none => rfl
  | some x =>
    have h1 := rdN_mono (t := (bytesR l).drop i) (hB.take i) h
    rw [List.take_append_drop] at h1
    have h2 := rdN_bytes hg [] l.length (Nat.le_refl _)
    rw [List.append_nil, h1, List.take_length] at h2
    obtain ⟨L, p⟩ := x
    have h3 := (rdN_ok (hB.take i) h).le
    simp only [Option.some.injEq, Prod.mk.injEq] at h2
    rw [List.length_take] at h3
    omega
theorem recB_rdR {b : List Int} (hB : Byt b) {p : Nat} (hc : ¬ rdC b p) : recB (rdR b p) = (b.drop p).take ((b.getD p 0).toNat + 23) := by
  unfold rdC at hc
  have hp : p < b.length := by omega
  have hb := hB.get hp
  obtain ⟨n, hn⟩ : ∃ n : Nat, b.getD p 0 = n := ⟨(b.getD p 0).toNat, by omega⟩
  have b1 := hB.get (k := p + 1 + n) (by omega)
  have b2 := hB.get (k := p + 2 + n) (by omega)
  have hs : (bs ((b.drop (p + 1)).take n)).size = n := by
    rw [← sb_length, sb_bs ((hB.drop _).take _), List.length_take, List.length_drop]; omega
  have hf : (b.getD (p + 1 + n) 0 * 256 + b.getD (p + 2 + n) 0).fdiv 256 % 256 = b.getD (p + 1 + n) 0 := by
    rw [Int.fdiv_eq_ediv_of_nonneg _ (by decide)]; omega
  have hm : (b.getD (p + 1 + n) 0 * 256 + b.getD (p + 2 + n) 0) % 256 = b.getD (p + 2 + n) 0 := by omega
  have hnn : (b.getD p 0).toNat = n := by omega
  unfold recB rdR
  simp only [hnn, hs, hf, hm, sb_bs ((hB.drop _).take _)]
  rw [show (n : Int) % 256 = b.getD p 0 by omega, ← take20 (b := b) (p := p + 3 + n) (by omega)]
  have s1 : b.drop p = b.getD p 0 :: b.drop (p + 1) := by
    rw [getD_get _ _ hp]; exact List.drop_eq_getElem_cons hp
  have s2 : b.drop (p + 1 + n) = b.getD (p + 1 + n) 0 :: b.getD (p + 2 + n) 0 :: b.drop (p + 3 + n) := by
    have q1 : p + 1 + n < b.length := by omega
    have q2 : p + 2 + n < b.length := by omega
    rw [getD_get _ _ q1, getD_get _ _ q2, List.drop_eq_getElem_cons q1, show p + 1 + n + 1 = p + 2 + n by omega, List.drop_eq_getElem_cons q2, show p + 2 + n + 1 = p + 3 + n by omega]
  have s3 : b.drop (p + 1) = (b.drop (p + 1)).take n ++ b.drop (p + 1 + n) := by
    have e : b.drop (p + 1 + n) = (b.drop (p + 1)).drop n := by rw [List.drop_drop]
    rw [e, List.take_append_drop]
  have hl : ((b.drop (p + 1)).take n).length = n := by rw [List.length_take, List.length_drop]; omega
  rw [s1, show n + 23 = (n + 22) + 1 by omega, List.take_succ_cons]
  conv => rhs; rw [s3]
  rw [show n + 22 = ((b.drop (p + 1)).take n).length + 22 by omega, List.take_length_add_append, s2]
  simp
theorem bytes_rdN {b : List Int} (hB : Byt b) : ∀ {k L p}, rdN b k = some (L, p) → bytesR L = b.take p
  | 0, L, p, h => by
    simp only [rdN, Option.some.injEq, Prod.mk.injEq] at h
    obtain ⟨rfl, rfl⟩ := h
    simp [bytesR]
  | k + 1, L, p, h => by
    rw [rdN] at h
    split at h
    · cases h
    · rename_i L0 p0 h0
      have ih := bytes_rdN hB h0
      split at h
      · cases h
      · rename_i hc
        simp only [Option.some.injEq, Prod.mk.injEq] at h
        obtain ⟨rfl, rfl⟩ := h
        rw [bytesR_append, ih]
        have : bytesR [rdR b p0] = recB (rdR b p0) := by simp [bytesR]
        rw [this, recB_rdR hB hc, show p0 + (b.getD p0 0).toNat + 23 = p0 + ((b.getD p0 0).toNat + 23) by omega]
        exact List.take_add.symm
end Go.Proofs.YtkbmkgcenehenaaDoor
