/- The machine without memory, part 2: plain laws about the model, no program in sight. -/
import Derived.Test.YtkbmkgcenehenaaDoorHm1
import Derived.ChangeArms
import Derived.ChangeSlices
import Derived.DataElems
import Derived.Carry
import Derived.ChangeOld
import Derived.FnData
import Derived.ProofKit
import Derived.LaidLaws
import Derived.Handed
set_option linter.unusedVariables false
set_option linter.unusedSimpArgs false
namespace Hm
open Go Go.RowKit

section
variable {P : Program} {T : TypeId → Option TI} {G : Nat → Option (List PV)} {w0 : World} {β : Nat → Nat} {s : St} {acts : List Act} {a : Act} {w : World}

theorem CR.take {α : Type} {one : α → Bool} {R : α → Value → Prop} {cs : List α} {arr : Array Value} (h : CR one R cs arr) (m : Nat) : CR one R (cs.take m) (arr.extract 0 m) := by
  have := h.len
  refine ⟨by simp; omega, fun i p hp => ?_, fun i p v hp hv => ?_⟩
  · rw [List.getElem?_take] at hp
    split at hp
    · exact h.one _ _ hp
    · cases hp
  · rw [List.getElem?_take] at hp
    rw [Array.getElem?_extract] at hv
    split at hp
    · split at hv
      · exact h.rel _ _ _ hp (by simpa using hv)
      · cases hv
    · cases hp

theorem copyP_sound (hT : TOk P T) (hr : Rel G w0 β s acts a w) {t ty : TypeId} {x y lv : LV} {vx vy : Value} {H' : List Blk} {ts : Array TypeId} {args : Array Value} (ht0 : ts[0]? = some t) (ha0 : args[0]? = some vx) (ha1 : args[1]? = some vy)
    (hx : LR β s.H.length w (okOf w0 β s.H w) x vx) (hy : LR β s.H.length w (okOf w0 β s.H w) y vy) (h : copyP T s t x y = some (lv, H')) :
    ∃ v w', (Builtin.copy_ ts ty args).run P w = .ok v w' ∧ Rel G w0 β { s with H := H' } acts a w' ∧ LR β H'.length w' (okOf w0 β H' w') lv v := by
  unfold copyP at h
  split at h
  · cases h
  · rename_i i ht
    split at h
    · rename_i e he
      split at h
      · cases h
      · rename_i j hj
        have hpos : 0 < j.size := by
          obtain ⟨_, _, _, _, _, _, _, _, _, _, _, h2⟩ := (hT _ _ hj).info
          exact h2
        split at h
        · rename_i n new b off len esz hsrc
          split at h
          · rename_i hes
            subst hes
            split at h
            · rename_i cs hB
              split at h
              · rename_i hle
                simp only [Option.some.injEq, Prod.mk.injEq] at h
                obtain ⟨rfl, rfl⟩ := h
                obtain ⟨hnew, hlen, arr, hcr, hfirst⟩ := srcP_sound (P := P) hr hpos hy hsrc
                have hf := hfirst (min n len) w (Nat.min_le_left _ _) rfl
                have hct := hcr.take (min n len * j.size)
                have hm1 : min n len * j.size ≤ len * j.size := Nat.mul_le_mul_right _ (Nat.min_le_right _ _)
                have hm2 : min n len * j.size ≤ n * j.size := Nat.mul_le_mul_right _ (Nat.min_le_left _ _)
                have hlt : (new.take (min n len * j.size)).length = min n len * j.size := by simp; omega
                have hpl : off + (new.take (min n len * j.size)).length ≤ cs.length := by omega
                obtain ⟨c, E, fz, h1, h2, h3, h4⟩ := (hr.blk b _ hB rfl).row rfl
                have hal : (arr.extract 0 (min n len * j.size)).size = min n len * j.size := by rw [← hct.len, hlt]
                have hst := hr.store (o := off) (B' := .p (putA cs off (new.take (min n len * j.size)))) (vs := (arr.extract 0 (min n len * j.size)).toList) (lvs := (new.take (min n len * j.size)).map .pv) hB rfl rfl rfl rfl
                  (fun c' E' fz' h => by
                    rw [h1] at h
                    simp only [Option.some.injEq, Obj.cells.injEq] at h
                    obtain ⟨rfl, rfl, rfl⟩ := h
                    simp only [Blk.len]
                    rw [putA_length hpl]
                    exact h3)
                  (fun k hk => by
                    simp only [Blk.get, putA_get hpl, Array.length_toList, hal, hlt, get_map_pv]
                    split <;> rfl)
                  (fun k lv hk => by
                    simp only [List.getElem?_map, Option.map_eq_some_iff] at hk
                    obtain ⟨q, h5, rfl⟩ := hk
                    exact hct.one _ _ h5)
                  (fun k lv v hk hv => by
                    simp only [List.getElem?_map, Option.map_eq_some_iff] at hk
                    obtain ⟨q, h5, rfl⟩ := hk
                    exact .pv (hct.rel _ _ _ h5 (by rw [← Array.getElem?_toList]; exact hv)))
                have hrunc : (storeCells ⟨β b, off, none⟩ (arr.extract 0 (min n len * j.size)).toList).run P w = .ok () (w.setCells (β b) off (arr.extract 0 (min n len * j.size)).toList) :=
                  run_cells (P := P) h1 h2 (by simp only [Array.length_toList, hal]; simp only [Blk.len] at h3; omega) (hct.ones fun p v h1 h2 => imm_one h2 h1)
                have hmin : ∀ a b : Nat, Nat.min a b = min a b := fun _ _ => rfl
                rcases sl_ref_form hx with ⟨cap, c', E', fz', rfl, hbn, hh, hlc, hcap⟩ | ⟨rfl, hbn, off', rfl⟩
                · refine ⟨.int .i64 (min n len : Nat), _, ?_, hst, .pv (.int _ _)⟩
                  simp only [Builtin.copy_, ht0, ha0, ha1, Sem.run_bind, hT.under ht, Result.andThen_ok, he, hlen, hmin, hT.sizeOf hj, hf, hrunc, Sem.run_pure, goInt]
                · refine ⟨.int .i64 (min n 0 : Nat), _, ?_, hst, .pv (.int _ _)⟩
                  have e0 : min n 0 = 0 := by omega
                  have e1 : arr.extract 0 (min n 0 * j.size) = #[] := by rw [e0]; simp
                  rw [e1] at hf ⊢
                  simp only [Builtin.copy_, ht0, ha0, ha1, Sem.run_bind, hT.under ht, Result.andThen_ok, he, hlen, hmin, hT.sizeOf hj, hf, Sem.run_pure, goInt, storeCells, World.setCells]
              · cases h
            · cases h
          · cases h
        · cases h
    · cases h

theorem fz_sound (hr : Rel G w0 β s acts a w) {ok' : Bool → Nat → Prop} (hok : ∀ f k, okOf w0 β s.H w f k → ok' f k) {lv : LV} {v : Value} {p : PV} (hk : ∀ b ∈ lv.fzR, ∀ B, s.H[b]? = some B → B.live = true → ok' false (β b))
    (h : LR β s.H.length w (okOf w0 β s.H w) lv v) (hf : lv.fz s.H = some p) (h1 : lv.one = true) : p.one = true ∧ Imm w ok' p v := by
  have row : ∀ (b : Nat) (B : Blk) (cs : List PV) (off len cap : Nat) (sub : List PV), b ∈ lv.fzR → s.H[b]? = some B → (∀ k, B.get k = (cs[k]?).map .pv) → B.len = cs.length → (0 < cs.length → B.live = true) → B.isRow = true → off + sub.length ≤ cs.length → (∀ (i : Nat) p, sub[i]? = some p → cs[off + i]? = some p) → len ≤ cap →
      Imm w ok' (.sl false sub len) (.slice (some ⟨β b, off, none⟩) len cap) := fun b B cs off len cap sub hb hB hg hBl hlv hR hle hsub hlc => by
    by_cases h0 : sub.length = 0
    · have e0 : sub = [] := List.eq_nil_of_length_eq_zero h0
      subst e0
      exact .sl false [] len _ off cap (fun _ => undef) hlc (by simp) (by simp) (by simp)
    · have hl := hlv (by omega)
      obtain ⟨vs, hvs⟩ := hr.cells hB hl hR
      refine .sl false sub len _ off cap (fun i => vs (off + i)) hlc (fun i p hi => ?_) (fun i hi => ⟨hk b hb B hB hl, (hvs (off + i) (by omega)).1⟩) (fun i p hi => ?_)
      · have h2 := hsub i p hi
        have := (hvs (off + i) (by have := (List.getElem?_eq_some_iff.1 h2).1; omega)).2 (.pv p) (by rw [hg, h2]; rfl)
        exact this.1
      · have h2 := hsub i p hi
        have := (hvs (off + i) (by have := (List.getElem?_eq_some_iff.1 h2).1; omega)).2 (.pv p) (by rw [hg, h2]; rfl)
        cases this.2 with | pv h => exact h.mono (fun _ _ _ => rfl) hok
  have rowB : ∀ (b : Nat) (cs : List PV), rowOf s.H b = some cs → ∃ B, s.H[b]? = some B ∧ (∀ k, B.get k = (cs[k]?).map .pv) ∧ B.len = cs.length ∧ (0 < cs.length → B.live = true) ∧ B.isRow = true := fun b cs h => by
    unfold rowOf at h
    split at h
    · rename_i c hB; simp only [Option.some.injEq] at h; subst h; exact ⟨_, hB, fun _ => rfl, rfl, fun _ => rfl, rfl⟩
    · rename_i c hB; simp only [Option.some.injEq] at h; subst h; exact ⟨_, hB, fun _ => rfl, rfl, fun h => by cases c <;> first | (simp at h; done) | rfl, rfl⟩
    · cases h
  cases lv with
  | pv q =>
    simp only [LV.fz, Option.some.injEq] at hf
    subst hf
    cases h with | pv h => exact ⟨h1, h.mono (fun _ _ _ => rfl) hok⟩
  | ref b off len esz =>
    simp only [LV.fz] at hf
    split at hf
    · rename_i cs hcs
      obtain ⟨B, hB, hg, hBl, hlv, hR⟩ := rowB b cs hcs
      cases h with
      | ref _ _ _ _ cap c E fz hb hh hl hs =>
        split at hf
        · rename_i h0
          obtain ⟨rfl, h0⟩ := h0
          simp only [Option.some.injEq] at hf
          subst hf
          exact ⟨rfl, row b B cs 0 len cap cs (by simp [LV.fzR]) hB hg hBl hlv hR (by omega) (fun i p hi => by rw [Nat.zero_add]; exact hi) hl⟩
        · split at hf
          · simp only [Option.some.injEq] at hf
            subst hf
            exact ⟨rfl, row b B cs off len cap _ (by simp [LV.fzR]) hB hg hBl hlv hR (by simp; omega) (fun i p hi => get_take_drop hi) hl⟩
          · cases hf
      | refz _ _ _ off' hb =>
        have z : ∀ sub : List PV, sub.length = 0 → Imm w ok' (.sl false sub 0) (.slice (some off') 0 0) := fun sub h0 => by
          have e0 : sub = [] := List.eq_nil_of_length_eq_zero h0
          subst e0
          exact .slz _ _ _ _
        split at hf
        · rename_i h0
          simp only [Option.some.injEq] at hf
          subst hf
          exact ⟨rfl, z _ (by omega)⟩
        · split at hf
          · simp only [Option.some.injEq] at hf
            subst hf
            exact ⟨rfl, z _ (by simp)⟩
          · cases hf
    · cases hf
  | nref b len esz =>
    simp only [LV.fz] at hf
    split at hf
    · rename_i cs hB
      split at hf
      · rename_i hlen
        simp only [Option.some.injEq] at hf
        subst hf
        cases h with
        | nref0 _ _ a =>
          have e0 : cs = [] := List.eq_nil_of_length_eq_zero (by omega)
          subst e0
          cases a with
          | none => exact ⟨rfl, .asl0 _ _⟩
          | some a => exact ⟨rfl, .asl _ _ _ _ (.slz _ _ _ _)⟩
        | nref _ _ _ _ h0 h =>
          cases h with
          | ref _ _ _ _ cap c E fz hb hh hl hs =>
            exact ⟨rfl, .asl _ _ _ _ (row b _ cs 0 len cap cs (by simp [LV.fzR]) hB (fun _ => rfl) rfl (fun h => by cases cs <;> first | (simp at h; done) | rfl) rfl (by omega) (fun i p hi => by rw [Nat.zero_add]; exact hi) hl)⟩
          | refz => omega
      · cases hf
    · cases hf
  | emp =>
    simp only [LV.fz, Option.some.injEq] at hf
    subst hf
    cases h with | emp a => exact ⟨rfl, .slz _ _ _ _⟩
  | _ => cases hf
theorem killL_get : ∀ (R : List Nat) {H : List Blk} {i : Nat} {C : Blk}, (killL R H)[i]? = some C → (C = .gone ∧ i ∈ R) ∨ (i ∉ R ∧ H[i]? = some C)
  | [], H, i, C, h => .inr ⟨by simp, h⟩
  | b :: R, H, i, C, h => by
    rcases killL_get R h with ⟨h1, h2⟩ | ⟨h1, h2⟩
    · exact .inl ⟨h1, .tail _ h2⟩
    · by_cases e : b = i
      · subst e
        by_cases hb : b < H.length
        · rw [List.getElem?_set_self hb] at h2
          exact .inl ⟨by simpa using h2.symm, by simp⟩
        · rw [List.set_eq_of_length_le (by omega)] at h2
          exact absurd (List.getElem?_eq_some_iff.1 h2).1 hb
      · rw [List.getElem?_set_ne e] at h2
        exact .inr ⟨by simp [h1, Ne.symm e], h2⟩
theorem killL_length : ∀ (R : List Nat) (H : List Blk), (killL R H).length = H.length
  | [], _ => rfl
  | b :: R, H => by rw [killL, killL_length R, List.length_set]
theorem mapFz_get {H : List Blk} : ∀ {cs : List LV} {ps : List PV}, mapFz H cs = some ps → ps.length = cs.length ∧ ∀ (i : Nat) p, ps[i]? = some p → ∃ lv, cs[i]? = some lv ∧ lv.fz H = some p ∧ ∀ b ∈ lv.fzR, b ∈ fzRs cs
  | [], ps, h => by simp [mapFz] at h; subst h; simp
  | x :: r, ps, h => by
    simp only [mapFz] at h
    split at h
    · rename_i p ps' h1 h2
      simp only [Option.some.injEq] at h
      subst h
      obtain ⟨h3, h4⟩ := mapFz_get h2
      refine ⟨by simp [h3], fun i q hq => ?_⟩
      cases i with
      | zero => simp at hq; subst hq; exact ⟨x, rfl, h1, fun b hb => by simp [fzRs, hb]⟩
      | succ i =>
        obtain ⟨lv, h5, h6, h7⟩ := h4 i q (by simpa using hq)
        exact ⟨lv, by simpa using h5, h6, fun b hb => by simp [fzRs, h7 b hb]⟩
    · cases h
theorem Rel.frz (hr : Rel G w0 β s acts a w) {b : Nat} {H' : List Blk} (h : frzB s.H b = some H') : Rel G w0 β { s with H := H' } acts a w ∧ (∀ lv v, LR β s.H.length w (okOf w0 β s.H w) lv v → LR β H'.length w (okOf w0 β H' w) lv v) := by
  unfold frzB at h
  split at h
  · rename_i cs hB
    split at h
    · rename_i ps hps
      split at h
      · cases h
      · rename_i hnb
        simp only [Option.some.injEq] at h
        subst h
        have hnb' : b ∉ fzRs cs := by simpa using hnb
        have hbl : b < s.H.length := (List.getElem?_eq_some_iff.1 hB).1
        have hlen : ((killL (fzRs cs) s.H).set b (.p ps)).length = s.H.length := by rw [List.length_set, killL_length]
        have hget : ∀ i C, ((killL (fzRs cs) s.H).set b (.p ps))[i]? = some C → C.live = true → (i = b ∧ C = .p ps) ∨ (i ≠ b ∧ i ∉ fzRs cs ∧ s.H[i]? = some C) := fun i C hi hl => by
          rcases getElem?_set (by rw [killL_length]; exact hbl) hi with ⟨h1, h2⟩ | ⟨h1, h2⟩
          · exact .inl ⟨h1, h2⟩
          · rcases killL_get _ h2 with ⟨h3, _⟩ | ⟨h3, h4⟩
            · subst h3; cases hl
            · exact .inr ⟨h1, h3, h4⟩
        have hok : ∀ f k, okOf w0 β s.H w f k → okOf w0 β ((killL (fzRs cs) s.H).set b (.p ps)) w f k := fun f k hk => ⟨hk.1, hk.2.1, fun i C hi hl => by
          rcases hget i C hi hl with ⟨rfl, rfl⟩ | ⟨_, _, h⟩
          · exact hk.2.2 _ _ hB rfl
          · exact hk.2.2 i C h hl⟩
        have hmono : ∀ lv v, LR β s.H.length w (okOf w0 β s.H w) lv v → LR β ((killL (fzRs cs) s.H).set b (.p ps)).length w (okOf w0 β ((killL (fzRs cs) s.H).set b (.p ps)) w) lv v := fun lv v h =>
          h.mono (by rw [hlen]; exact Nat.le_refl _) (fun _ _ => rfl) (fun _ c _ fz h => ⟨c, fz, h, rfl⟩) (fun _ _ _ => rfl) hok
        have hfree : ∀ k ∈ fzRs cs, ∀ B, s.H[k]? = some B → B.live = true → okOf w0 β ((killL (fzRs cs) s.H).set b (.p ps)) w false (β k) := fun k hk B hB' hl => by
          refine ⟨hr.lt k B hB' hl, fun _ => hr.ge k B hB' hl, fun i C hi hlC e => ?_⟩
          rcases hget i C hi hlC with ⟨rfl, rfl⟩ | ⟨_, h1, h2⟩
          · have := hr.inj _ k _ B hB rfl hB' hl e
            subst this
            exact hnb' hk
          · have := hr.inj i k C B h2 hlC hB' hl e
            subst this
            exact h1 hk
        refine ⟨hr.step (by rw [hlen]; exact Nat.le_refl _) (fun _ _ => rfl) (Below.refl _ _) (fun _ c _ fz h => ⟨c, fz, h, rfl⟩) (fun _ _ _ => rfl) hok ?_ ?_ ?_ ?_, hmono⟩
        · intro i C hi hl
          rcases hget i C hi hl with ⟨rfl, rfl⟩ | ⟨_, _, h⟩
          · exact hr.ge _ _ hB rfl
          · exact hr.ge i C h hl
        · intro i C hi hl
          rcases hget i C hi hl with ⟨rfl, rfl⟩ | ⟨_, _, h⟩
          · exact hr.lt _ _ hB rfl
          · exact hr.lt i C h hl
        · intro i j C D hi hl hj hl' he
          rcases hget i C hi hl with ⟨rfl, rfl⟩ | ⟨_, _, h⟩
          · rcases hget j D hj hl' with ⟨rfl, rfl⟩ | ⟨_, _, h'⟩
            · rfl
            · exact hr.inj _ j _ D hB rfl h' hl' he
          · rcases hget j D hj hl' with ⟨rfl, rfl⟩ | ⟨_, _, h'⟩
            · exact hr.inj i _ C _ h hl hB rfl he
            · exact hr.inj i j C D h hl h' hl' he
        · intro i C hi hl
          rcases hget i C hi hl with ⟨rfl, rfl⟩ | ⟨_, _, h⟩
          · obtain ⟨c, E, fz, k1, k2, k3, k4⟩ := (hr.blk _ _ hB rfl).row rfl
            obtain ⟨m1, m2⟩ := mapFz_get hps
            refine BlkRow.rel (hB := rfl) ⟨c, E, fz, k1, k2, by show ps.length ≤ _; rw [m1]; exact k3, fun j lv hj => ?_⟩
            simp only [Blk.get, Option.map_eq_some_iff] at hj
            obtain ⟨p, hp, rfl⟩ := hj
            obtain ⟨lv0, n1, n2, n3⟩ := m2 j p hp
            obtain ⟨o1, v, o2, o3⟩ := k4 j lv0 n1
            obtain ⟨q1, q2⟩ := fz_sound hr hok (fun k hk B hB' hl' => hfree k (n3 k hk) B hB' hl') o3 n2 o1
            exact ⟨q1, v, o2, .pv q2⟩
          · exact (hr.blk i C h hl).trans rfl hmono
    · cases h
  · cases h
theorem Rel.frzH (hr : Rel G w0 β s acts a w) (y : LV) : Rel G w0 β { s with H := frzH s.H y } acts a w ∧ (∀ lv v, LR β s.H.length w (okOf w0 β s.H w) lv v → LR β (frzH s.H y).length w (okOf w0 β (frzH s.H y) w) lv v) := by
  unfold Hm.frzH
  split
  · split
    · rename_i H' h
      exact hr.frz h
    · exact ⟨hr, fun _ _ h => h⟩
  · exact ⟨hr, fun _ _ h => h⟩
theorem Rel.setMap (hr : Rel G w0 β s acts a w) {b : Nat} {kvs kvs' : List (PV × PV)} {es es' : Array MapEntry} {clock clock' : Nat} (hB : s.H[b]? = some (.m kvs)) (hh : w.heap[β b]? = some (.map es clock))
    (hkv : KV w (okOf w0 β s.H w) kvs' es') : Rel G w0 β { s with H := s.H.set b (.m kvs') } acts a { w with heap := w.heap.setIfInBounds (β b) (.map es' clock') } := by
  have hl : (Blk.m kvs).live = true := rfl
  have hbl : b < s.H.length := (List.getElem?_eq_some_iff.1 hB).1
  have hset : ∀ i C, (s.H.set b (.m kvs'))[i]? = some C → (i = b ∧ C = .m kvs') ∨ (i ≠ b ∧ s.H[i]? = some C) := fun i C h => getElem?_set hbl h
  have hlt := hr.lt b _ hB hl
  have hsz : (w.heap.setIfInBounds (β b) (.map es' clock')).size = w.heap.size := by simp
  have hother : ∀ k, k ≠ β b → (w.heap.setIfInBounds (β b) (.map es' clock'))[k]? = w.heap[k]? := fun k hk => by
    rw [Array.getElem?_setIfInBounds, if_neg (Ne.symm hk)]
  have hok' : ∀ f k, okOf w0 β s.H w f k → k ≠ β b := fun f k hk e => hk.2.2 b _ hB hl e.symm
  have hkeep : ∀ f k, okOf w0 β s.H w f k → ({ w with heap := w.heap.setIfInBounds (β b) (.map es' clock') } : World).heap[k]? = w.heap[k]? := fun f k hk => hother _ (hok' f k hk)
  have hok : ∀ f k, okOf w0 β s.H w f k → okOf w0 β (s.H.set b (.m kvs')) { w with heap := w.heap.setIfInBounds (β b) (.map es' clock') } f k := fun f k hk => by
    refine ⟨by show k < (w.heap.setIfInBounds _ _).size; rw [hsz]; exact hk.1, hk.2.1, fun i C hi hlC => ?_⟩
    rcases hset i C hi with ⟨rfl, rfl⟩ | ⟨_, h⟩
    · exact hk.2.2 _ _ hB hl
    · exact hk.2.2 i C h hlC
  have hrow : ∀ (k : Nat) (d : Array Value) (F : TypeId) (gz : Nat × Nat), w.heap[k]? = some (.cells d F gz) → ∃ (d' : Array Value) (gz' : Nat × Nat), ({ w with heap := w.heap.setIfInBounds (β b) (.map es' clock') } : World).heap[k]? = some (.cells d' F gz') ∧ d'.size = d.size := fun k d F gz h => by
    by_cases e : k = β b
    · subst e; rw [hh] at h; cases h
    · exact ⟨d, gz, by rw [← h]; exact hother _ e, rfl⟩
  have hmono : ∀ lv v, LR β s.H.length w (okOf w0 β s.H w) lv v → LR β (s.H.set b (.m kvs')).length { w with heap := w.heap.setIfInBounds (β b) (.map es' clock') } (okOf w0 β (s.H.set b (.m kvs')) { w with heap := w.heap.setIfInBounds (β b) (.map es' clock') }) lv v :=
    fun lv v h => h.mono (by simp) (fun _ _ => rfl) hrow hkeep hok
  have hge := hr.ge b _ hB hl
  refine hr.step (by simp) (fun _ _ => rfl) ⟨rfl, rfl, rfl, by show _ ≤ (w.heap.setIfInBounds _ _).size; rw [hsz]; exact Nat.le_refl _, fun k hk => hother k (by omega)⟩ hrow hkeep hok ?_ ?_ ?_ ?_
  · intro i C hi hlC
    rcases hset i C hi with ⟨rfl, rfl⟩ | ⟨_, h⟩
    · exact hge
    · exact hr.ge i C h hlC
  · intro i C hi hlC
    show _ < (w.heap.setIfInBounds _ _).size
    rw [hsz]
    rcases hset i C hi with ⟨rfl, rfl⟩ | ⟨_, h⟩
    · exact hlt
    · exact hr.lt i C h hlC
  · intro i j C D hi hlC hj hlD he
    rcases hset i C hi with ⟨rfl, rfl⟩ | ⟨_, h⟩
    · rcases hset j D hj with ⟨rfl, rfl⟩ | ⟨_, h'⟩
      · rfl
      · exact hr.inj _ j _ D hB hl h' hlD he
    · rcases hset j D hj with ⟨rfl, rfl⟩ | ⟨_, h'⟩
      · exact hr.inj i _ C _ h hlC hB hl he
      · exact hr.inj i j C D h hlC h' hlD he
  · intro i C hi hlC
    rcases hset i C hi with ⟨rfl, rfl⟩ | ⟨hne, h⟩
    · refine ⟨fun hR => (by cases hR), fun kvs2 e => ?_⟩
      cases e
      refine ⟨es', clock', by show (w.heap.setIfInBounds _ _)[_]? = _; simp [hlt], hkv.1, fun j kv e h h' => ?_⟩
      obtain ⟨k1, k2⟩ := hkv.2 j kv e h h'
      exact ⟨k1.mono hkeep hok, k2.mono hkeep hok⟩
    · exact (hr.blk i C h hlC).trans (hother _ fun e => hne (hr.inj i b C _ h hlC hB hl e)) hmono
theorem mapUpdP_sound (hT : TOk P T) (hr : Rel G w0 β s acts a w) {t : TypeId} {m k v : LV} {vm vk vv : Value} {H' : List Blk} (hm : LR β s.H.length w (okOf w0 β s.H w) m vm) (hk : LR β s.H.length w (okOf w0 β s.H w) k vk)
    (hv : LR β s.H.length w (okOf w0 β s.H w) v vv) (h : mapUpdP T s t m k v = some H') : ∃ w', (Instr.mapUpdate t vm vk vv).run P w = .ok () w' ∧ Rel G w0 β { s with H := H' } acts a w' := by
  unfold mapUpdP at h
  split at h
  · rename_i i b k v ht
    cases hm with | mref _ hb =>
    cases hk with | pv hk =>
    cases hv with | pv hv =>
    split at h
    · rename_i kt et hu
      split at h
      · rename_i ki kvs hki hH
        split at h
        · rename_i hkd
          have hmap := (hT t i ht).und
          rw [hu] at hmap
          obtain ⟨es, clock, k1, k2, k3⟩ := (hr.blk b _ hH rfl).2 kvs rfl
          have hkey := keyD_run (P := P) hk (hT kt ki hki).und hkd false
          cases hf : findP ki.und k kvs 0 with
          | none => rw [hf] at h; cases h
          | some r =>
          rw [hf] at h
          rcases findP_sound hk kvs es.toList 0 r (by simpa using k2) (fun j kv e h h' => k3 j kv e h (by simpa using h')) hf with ⟨rfl, h1⟩ | ⟨j, p, e, rfl, h0, h1, h2, h3, h4⟩
          · simp only [Option.some.injEq] at h
            subst h
            refine ⟨{ w with heap := w.heap.setIfInBounds (β b) (.map (es.push { key := vk, val := vv, born := clock }) (clock + 1)) }, ?_, hr.setMap hH k1 ⟨by simp [k2], fun j kv e h h' => ?_⟩⟩
            · simp only [Instr.mapUpdate, Sem.run_bind, run_under hmap, Result.andThen_ok, MapKept.run_getObj_map k1, hkey, Instr.findKey, run_under (hT kt ki hki).und, h1, Sem.run_pure, MapKept.run_setObj_map _ k1]
            · rcases getElem?_snoc h with ⟨h5, h6⟩ | ⟨h5, rfl⟩
              · refine k3 j kv e h6 ?_
                rw [Array.getElem?_push, if_neg (by omega)] at h'
                exact h'
              · rw [Array.getElem?_push, if_pos (by omega)] at h'
                simp only [Option.some.injEq] at h'
                subst h'
                exact ⟨hk, hv⟩
          · simp only [Nat.zero_add, Option.some.injEq] at h h1
            subst h
            have hj : es[j]? = some e := by simpa using h0
            refine ⟨{ w with heap := w.heap.setIfInBounds (β b) (.map (es.modify j fun e => { e with key := vk, val := vv }) clock) }, ?_, hr.setMap hH k1 ⟨by simp [k2], fun n kv e' h h' => ?_⟩⟩
            · simp only [Instr.mapUpdate, Sem.run_bind, run_under hmap, Result.andThen_ok, MapKept.run_getObj_map k1, hkey, Instr.findKey, run_under (hT kt ki hki).und, h1, Sem.run_pure, hj, Option.map_some, Option.getD_some, h3, Instr.keyThatStays, h4 9999, if_true, MapKept.run_setObj_map _ k1]
            · rw [Array.getElem?_modify] at h'
              by_cases e0 : j = n
              · subst e0
                rw [if_pos rfl, hj] at h'
                simp only [Option.map_some, Option.some.injEq] at h'
                subst h'
                have hlt : j < kvs.length := by have := (Array.getElem?_eq_some_iff.1 hj).1; omega
                rw [List.getElem?_set_self hlt] at h
                simp only [Option.some.injEq] at h
                subst h
                exact ⟨hk, hv⟩
              · rw [if_neg e0] at h'
                rw [List.getElem?_set_ne e0] at h
                exact k3 n kv e' h h'
        · cases h
      · cases h
    · cases h
  · cases h
/-- What an operation comes to. -/
theorem opF_sound (hT : TOk P T) (hr : Rel G w0 β s acts a w) {o : Oper} {lv : LV} {H' : List Blk} (h : opF T s (s.ev G) o.op = some (lv, H')) : Out P G w0 s acts a w o lv H' := by
  have hv : ∀ {x : Sem Value} {v : Value} {w' : World}, x.run P w = .ok v w' → (do pure (Next.value (← x)) : Sem Next).run P w = .ok (.value v) w' := fun h => by rw [Sem.run_bind, h]; rfl
  have plain : ∀ lv, opP T s (s.ev G) o.op = some lv → Out P G w0 s acts a w o lv s.H := fun lv h => by
    obtain ⟨v, h1, h2⟩ := opP_sound hT hr h
    exact ⟨v, w, β, h1, hr, h2⟩
  obtain ⟨dst, op, type, pos, after, guard⟩ := o
  have fallback : opF T s (s.ev G) op = (opP T s (s.ev G) op).map (fun v => (v, s.H)) → Out P G w0 s acts a w ⟨dst, op, type, pos, after, guard⟩ lv H' := fun e => by
    simp only at h
    rw [e] at h
    simp only [Option.map_eq_some_iff, Prod.mk.injEq] at h
    obtain ⟨v, h1, rfl, rfl⟩ := h
    exact plain v h1
  cases op with
  | alloc t =>
    simp only [opF, Option.map_eq_some_iff, Prod.mk.injEq] at h
    obtain ⟨i, ht, rfl, rfl⟩ := h
    obtain ⟨v, w', β', h1, h2, h3⟩ := allocP_sound hT hr ht
    exact ⟨v, w', β', hv h1, h2, h3⟩
  | makeMap t r =>
    cases r with
    | some r => exact fallback rfl
    | none =>
      simp only [opF, Option.some.injEq, Prod.mk.injEq] at h
      obtain ⟨rfl, rfl⟩ := h
      obtain ⟨h1, h2⟩ := hr.allocO (B := .m []) (.map #[] 0) (fun ho _ => ⟨fun hR => (by cases hR), fun kvs e => by cases e; exact ⟨#[], 0, ho, rfl, fun _ _ _ h => by simp at h⟩⟩)
      refine ⟨.map (some w.heap.size), w.alloc (.map #[] 0), _, hv ?_, h1, ?_⟩
      · rfl
      · have e : ext β s.H.length w.heap.size s.H.length = w.heap.size := ext_eq
        have := LR.mref (β := ext β s.H.length w.heap.size) (n := (s.H ++ [Blk.m []]).length) (w := w.alloc (.map #[] 0)) (ok := okOf w0 (ext β s.H.length w.heap.size) (s.H ++ [Blk.m []]) (w.alloc (.map #[] 0))) s.H.length (by simp)
        rw [e] at this
        exact this
  | box t x =>
    simp only [opF, Option.map_eq_some_iff, Prod.mk.injEq] at h
    obtain ⟨B, hB, rfl, rfl⟩ := h
    obtain ⟨v, w', β', h1, h2, h3⟩ := boxP_sound (P := P) (t := t) hr (hr.ev x) hB
    exact ⟨v, w', β', hv h1, h2, h3⟩
  | build t parts =>
    simp only [opF, Option.map_eq_some_iff, Prod.mk.injEq] at h
    obtain ⟨v', h0, rfl, rfl⟩ := h
    obtain ⟨hl, hp⟩ := hr.parts parts
    obtain ⟨v, h1, h2⟩ := buildP_sound (P := P) (w := w) hT hl hp h0
    exact ⟨v, w, β, hv h1, hr, h2⟩
  | buildSlice t len parts =>
    obtain ⟨hl, hp⟩ := hr.parts parts
    obtain ⟨v, w', β', h1, h2, h3⟩ := buildSliceP_sound (P := P) hT hr hl hp h
    exact ⟨v, w', β', hv h1, h2, h3⟩
  | makeSlice t l c =>
    obtain ⟨v, w', β', h1, h2, h3⟩ := makeSliceP_sound (P := P) hT hr (hr.ev l) (hr.ev c) h
    exact ⟨v, w', β', hv h1, h2, h3⟩
  | convert src dst x =>
    simp only [opF] at h
    split at h
    · rename_i r hr0
      simp only [Option.some.injEq] at h
      subst h
      obtain ⟨v, w', β', h1, h2, h3⟩ := convBytesP_sound (P := P) hT hr (hr.ev x) hr0
      exact ⟨v, w', β', hv h1, h2, h3⟩
    · simp only [Option.map_eq_some_iff, Prod.mk.injEq] at h
      obtain ⟨v, h1, rfl, rfl⟩ := h
      exact plain v h1
  | call c =>
    obtain ⟨callee, args, ts⟩ := c
    cases callee with
    | builtin b =>
      cases b with
      | append =>
        simp only [opF] at h
        split at h
        · rename_i x y t t2 ha hts
          obtain ⟨hr2, hm2⟩ := hr.frzH (s.ev G y)
          obtain ⟨v, w', β', h1, h2, h3⟩ := appendP_sound (P := P) (ty := type) hT hr2 (hm2 _ _ (hr.ev x)) (hm2 _ _ (hr.ev y)) h
          have ea : args = #[x, y] := by rw [← Array.toArray_toList (xs := args), ha]
          have et : ts = #[t, t2] := by rw [← Array.toArray_toList (xs := ts), hts]
          subst ea
          subst et
          refine ⟨v, w', β', ?_, h2, h3⟩
          simp only [execOp, resolve, invoke, builtin, Sem.run_bind, Sem.run_pure, Result.andThen_ok, List.map_toArray, List.map_cons, List.map_nil, h1]
        · cases h
      | copy =>
        simp only [opF] at h
        split at h
        · rename_i x y t tr ha hts
          have ea : args = #[x, y] := by rw [← Array.toArray_toList (xs := args), ha]
          have et : ts[0]? = some t := by rw [← Array.toArray_toList (xs := ts), hts]; rfl
          subst ea
          obtain ⟨v, w', h1, h2, h3⟩ := copyP_sound (P := P) (ty := type) (args := #[a.eval x, a.eval y]) hT hr et rfl rfl (hr.ev x) (hr.ev y) h
          refine ⟨v, w', β, ?_, h2, h3⟩
          simp only [execOp, resolve, invoke, builtin, Sem.run_bind, Sem.run_pure, Result.andThen_ok, List.map_toArray, List.map_cons, List.map_nil, h1]
        · cases h
      | _ => exact fallback rfl
    | _ => exact fallback rfl
  | _ => exact fallback rfl
end
end Hm
namespace Hm
open Go Go.RowKit

/-- 'o' has come to something that meets K. -/
def bindK {α : Type} (o : Option α) (K : α → Prop) : Prop := ∃ x, o = some x ∧ K x
theorem bindK_some {α : Type} (x : α) (K : α → Prop) : bindK (some x) K = K x := by simp [bindK]
theorem bindK_none {α : Type} (K : α → Prop) : bindK (none : Option α) K = False := by simp [bindK]
theorem bindK_map {α γ : Type} (o : Option α) (f : α → γ) (K : γ → Prop) : bindK (o.map f) K = bindK o (fun x => K (f x)) := by
  cases o <;> simp [bindK]
theorem bindK_ite {α : Type} (c : Prop) {_ : Decidable c} (x : Option α) (K : α → Prop) : bindK (if c then x else none) K = (c ∧ bindK x K) := by
  by_cases h : c <;> simp [bindK, h]

def St.put (s : St) (d : Option Nat) (lv : LV) : St :=
  match d with
  | none => s
  | some d => { s with fr := (d, lv) :: s.fr }

def dstOk (d : Option Nat) (n : Nat) : Prop :=
  match d with
  | none => True
  | some d => d < n

/-- Which functions are called as their bodies are entered. -/
def FnOk (P : Program) (f : FuncId) : Prop := ∃ fn, P.funcs[f]? = some fn ∧ fn.body.isSome = true ∧ (fn.name == "runtime.NumGoroutine") = false

/-- A call, of a Go function or of one that the machine has by itself. -/
def Runs (P : Program) (f : FuncId) (vs : Array Value) (w : World) (R : Ending → World → Prop) : Prop :=
  ((callFunc f vs).run P w = .ok (.enter f vs) w ∧ Calls P f vs w R) ∨ ∃ v w', (callFunc f vs).run P w = .ok (.value v) w' ∧ R (.returned v) w'
theorem Runs.mono {P : Program} {f : FuncId} {vs : Array Value} {w : World} {R R' : Ending → World → Prop} (h : Runs P f vs w R) (hR : ∀ e w', R e w' → R' e w') : Runs P f vs w R' := by
  rcases h with ⟨h1, h2⟩ | ⟨v, w', h1, h2⟩
  · exact .inl ⟨h1, h2.mono hR⟩
  · exact .inr ⟨v, w', h1, hR _ _ h2⟩

/-- A call of a Go function, whatever the caller's temporaries hold. -/
def ACall (P : Program) (G : Nat → Option (List PV)) (f : FuncId) (args : List LV) (s : St) (K : LV → List Blk → Prop) : Prop :=
  ∀ s1 w0 β acts a w (vs : List Value), s1.H = s.H → s1.up = s.up → Rel G w0 β s1 acts a w → args.length = vs.length →
    (∀ (i : Nat) lv v, args[i]? = some lv → vs[i]? = some v → LR β s.H.length w (okOf w0 β s.H w) lv v) →
    Runs P f vs.toArray w fun e w' => ∃ v lv H' β', e = .returned v ∧ K lv H' ∧ Rel G w0 β' { s1 with H := H' } acts a w' ∧ LR β' H'.length w' (okOf w0 β' H' w') lv v

def callK (P : Program) (G : Nat → Option (List PV)) (f : LV) (args : List LV) (s : St) (K : LV → List Blk → Prop) : Prop :=
  match f with
  | .pv (.fn f cap) => ACall P G f (args ++ cap.map .pv) s K
  | .fn f cap => ACall P G f (args ++ cap) s K
  | _ => False

def stepOp (P : Program) (T : TypeId → Option TI) (G : Nat → Option (List PV)) (o : Oper) (s : St) (K : St → Prop) : Prop :=
  dstOk o.dst s.n ∧
  match o.op with
  | .store t x v => bindK (storeP T s t (s.ev G x) (s.ev G v)) fun H' => K ({ s with H := H' }.put o.dst .dead)
  | .mapUpdate t m k v => bindK (mapUpdP T s t (s.ev G m) (s.ev G k) (s.ev G v)) fun H' => K ({ s with H := H' }.put o.dst .dead)
  | .insert t m k v => bindK (mapUpdP T s t (s.ev G m) (s.ev G k) (s.ev G v)) fun H' => K ({ s with H := H' }.put o.dst .dead)
  | .call { callee := .value f, args := args, argTypes := _ } => callK P G (s.ev G f) (args.toList.map (s.ev G)) s fun lv H' => K ({ s with H := H' }.put o.dst lv)
  | op => bindK (opF T s (s.ev G) op) fun r => K ({ s with H := r.2 }.put o.dst r.1)

/-- What a guard finds: a bool, or nothing, where the operation that it names was not wanted. -/
def gv (lv : LV) (want : Bool) : Option Bool :=
  match lv with
  | .pv (.bool b) => some b
  | .tup [] => some (!want)
  | _ => none
def guardVal (ds : List (Option Nat)) (s : St) (j : Nat) (want : Bool) : Option Bool :=
  match ds[j]? with
  | some (some d) => gv (slot s.fr d) want
  | _ => none

/-- It keeps simp out of X and Y: their types hang together. -/
inductive Tag2 (X Y : Prop) : Type
  | mk
/-- The two ways of a guarded operation. -/
def guardK (b want : Bool) (X Y : Prop) (_ : Tag2 X Y := .mk) : Prop := (b = true → if want = true then X else Y) ∧ (b = false → if want = true then Y else X)
theorem guardK_out {b want : Bool} {X Y : Prop} (h : guardK b want X Y) : (b = want → X) ∧ (b ≠ want → Y) := by
  cases b <;> cases want <;> simp_all [guardK]

/-- The operations of a region, in the text's order. -/
def runOps (P : Program) (T : TypeId → Option TI) (G : Nat → Option (List PV)) (ds : List (Option Nat)) : List Oper → St → (St → Prop) → Prop
  | [], s, K => K s
  | o :: rest, s, K => match o.guard with
    | none => stepOp P T G o s fun s' => runOps P T G ds rest s' K
    | some (j, want) => bindK (guardVal ds s j want) fun b => guardK b want (stepOp P T G o s fun s' => runOps P T G ds rest s' K) (dstOk o.dst s.n ∧ runOps P T G ds rest (s.put o.dst (.tup [])) K)

section
variable {P : Program} {T : TypeId → Option TI} {G : Nat → Option (List PV)} {w0 : World} {β : Nat → Nat} {s : St} {acts : List Act} {a : Act} {w : World}

theorem Rel.putO (hr : Rel G w0 β s acts a w) {d : Option Nat} {lv : LV} {v : Value} (hd : dstOk d s.n) (h : LR β s.H.length w (okOf w0 β s.H w) lv v) : Rel G w0 β (s.put d lv) acts (a.put d v) w := by
  cases d with
  | none => exact hr
  | some d => exact hr.put hd h

theorem run_call {f : FuncId} {args : Array Value} (hf : FnOk P f) : (callFunc f args).run P w = .ok (.enter f args) w := by
  obtain ⟨fn, h1, h2, h3⟩ := hf
  have h4 : fn.body.isNone = false := by cases hb : fn.body <;> simp_all
  simp only [callFunc, Sem.run_bind, run_program, Result.andThen_ok, h1, h3, Bool.false_eq_true, if_false, h4]
  rfl
theorem Runs.of {f : FuncId} {args : Array Value} {R : Ending → World → Prop} (hf : FnOk P f) (h : Calls P f args w R) : Runs P f args w R := .inl ⟨run_call hf, h⟩
theorem upon_returned {o : Oper} {next : Act → World → Prop} {Q' : Exit → Act → World → Prop} {f : FuncId} {args : Array Value} {R : Ending → World → Prop} (h : Calls P f args w R) (hR : ∀ e w', R e w' → ∃ v, e = .returned v ∧ next (a.put o.dst v) w') :
    o.upon P a next Q' (.ok (.enter f args) w) := by
  rw [Oper.upon_enter]
  refine h.mono fun e w' he => ?_
  obtain ⟨v, rfl, h⟩ := hR e w' he
  exact h

theorem args_rel (hr : Rel G w0 β s acts a w) (args : Array Operand) {cap : List LV} {cv : Array Value} (hl : cap.length = cv.size) (hc : ∀ (i : Nat) p v, cap[i]? = some p → cv[i]? = some v → LR β s.H.length w (okOf w0 β s.H w) p v) :
    (args.toList.map (s.ev G) ++ cap).length = ((args.map a.eval).toList ++ cv.toList).length ∧
    ∀ (i : Nat) lv v, (args.toList.map (s.ev G) ++ cap)[i]? = some lv → ((args.map a.eval).toList ++ cv.toList)[i]? = some v → LR β s.H.length w (okOf w0 β s.H w) lv v := by
  have e : (args.map a.eval).toList = args.toList.map a.eval := by simp
  rw [e]
  refine ⟨by simp [hl], fun i lv v h1 h2 => ?_⟩
  rw [List.getElem?_append] at h1 h2
  simp only [List.length_map] at h1 h2
  split at h1
  · rename_i hi
    rw [if_pos hi] at h2
    exact hr.evs args.toList i lv v h1 h2
  · rename_i hi
    rw [if_neg hi] at h2
    exact hc _ _ _ h1 (by simpa using h2)

theorem stepOp_sound (hT : TOk P T) (hr : Rel G w0 β s acts a w) {o : Oper} {K : St → Prop} (h : stepOp P T G o s K) {next : Act → World → Prop} {Q' : Exit → Act → World → Prop}
    (hK : ∀ s' β' a' w', K s' → Rel G w0 β' s' acts a' w' → next a' w') : o.wp P a w next Q' := by
  obtain ⟨hd, h⟩ := h
  have gen : bindK (opF T s (s.ev G) o.op) (fun r => K ({ s with H := r.2 }.put o.dst r.1)) → o.wp P a w next Q' := fun ⟨⟨lv, H'⟩, h1, h2⟩ => by
    obtain ⟨v, w', β', h3, h4, h5⟩ := opF_sound hT hr h1
    unfold Oper.wp
    rw [h3, Oper.upon_value]
    exact hK _ β' _ _ h2 (h4.putO hd h5)
  obtain ⟨dst, op, type, pos, after, guard⟩ := o
  cases op with
  | store t x v =>
    obtain ⟨H', h1, h2⟩ := h
    obtain ⟨w', h3, h4⟩ := storeP_sound (P := P) hT hr (hr.ev x) (hr.ev v) h1
    unfold Oper.wp
    have : (execOp a.eval ⟨dst, .store t x v, type, pos, after, guard⟩).run P w = .ok .skip w' := by
      simp only [execOp, Sem.run_bind, h3, Result.andThen_ok, Sem.run_pure]
    rw [this, Oper.upon_skip]
    exact hK _ β _ _ h2 (h4.putO hd (.dead _))
  | mapUpdate t m k v =>
    obtain ⟨H', h1, h2⟩ := h
    obtain ⟨w', h3, h4⟩ := mapUpdP_sound (P := P) hT hr (hr.ev m) (hr.ev k) (hr.ev v) h1
    unfold Oper.wp
    have : (execOp a.eval ⟨dst, .mapUpdate t m k v, type, pos, after, guard⟩).run P w = .ok .skip w' := by
      simp only [execOp, Sem.run_bind, h3, Result.andThen_ok, Sem.run_pure]
    rw [this, Oper.upon_skip]
    exact hK _ β _ _ h2 (h4.putO hd (.dead _))
  | insert t m k v =>
    obtain ⟨H', h1, h2⟩ := h
    obtain ⟨w', h3, h4⟩ := mapUpdP_sound (P := P) hT hr (hr.ev m) (hr.ev k) (hr.ev v) h1
    unfold Oper.wp
    have : (execOp a.eval ⟨dst, .insert t m k v, type, pos, after, guard⟩).run P w = .ok .skip w' := by
      simp only [execOp, Sem.run_bind, h3, Result.andThen_ok, Sem.run_pure]
    rw [this, Oper.upon_skip]
    exact hK _ β _ _ h2 (h4.putO hd (.dead _))
  | call c =>
    obtain ⟨callee, args, ts⟩ := c
    cases callee with
    | value f =>
      simp only [callK] at h
      have h0 := hr.ev f
      split at h
      · rename_i g cap hf
        rw [hf] at h0
        cases h0 with | pv h0 =>
        generalize hz : a.eval f = z at h0
        cases h0 with | fn _ _ cv hl hv =>
        obtain ⟨h1, h2⟩ := args_rel hr args (cap := cap.map .pv) (cv := cv) (by simpa using hl) (fun i p v h3 h4 => by
          simp only [List.getElem?_map, Option.map_eq_some_iff] at h3
          obtain ⟨q, h5, rfl⟩ := h3
          exact .pv (hv i q v h5 h4))
        have hrun : (execOp a.eval ⟨dst, .call ⟨.value f, args, ts⟩, type, pos, after, guard⟩).run P w = (callFunc g ((args.map a.eval).toList ++ cv.toList).toArray).run P w := by
          have e : ((args.map a.eval).toList ++ cv.toList).toArray = args.map a.eval ++ cv := by simp
          rw [e]
          simp only [execOp, resolve, Deferred.ofValue, hz, Sem.run_bind, Sem.run_pure, Result.andThen_ok, invoke, Array.empty_append]
        unfold Oper.wp
        rw [hrun]
        rcases h s w0 β acts a w _ rfl rfl hr h1 h2 with ⟨hc, hq⟩ | ⟨v, w', hc, hq⟩
        · rw [hc]
          refine upon_returned hq ?_
          rintro e w' ⟨v, lv, H', β', rfl, h3, h5, h6⟩
          exact ⟨v, rfl, hK _ β' _ _ h3 (h5.putO hd h6)⟩
        · rw [hc, Oper.upon_value]
          obtain ⟨v', lv, H', β', e, h3, h5, h6⟩ := hq
          cases e
          exact hK _ β' _ _ h3 (h5.putO hd h6)
      · rename_i g cap hf
        rw [hf] at h0
        generalize hz : a.eval f = z at h0
        cases h0 with | fn _ _ cv hl hv =>
        obtain ⟨h1, h2⟩ := args_rel hr args (cap := cap) (cv := cv) hl hv
        have hrun : (execOp a.eval ⟨dst, .call ⟨.value f, args, ts⟩, type, pos, after, guard⟩).run P w = (callFunc g ((args.map a.eval).toList ++ cv.toList).toArray).run P w := by
          have e : ((args.map a.eval).toList ++ cv.toList).toArray = args.map a.eval ++ cv := by simp
          rw [e]
          simp only [execOp, resolve, Deferred.ofValue, hz, Sem.run_bind, Sem.run_pure, Result.andThen_ok, invoke, Array.empty_append]
        unfold Oper.wp
        rw [hrun]
        rcases h s w0 β acts a w _ rfl rfl hr h1 h2 with ⟨hc, hq⟩ | ⟨v, w', hc, hq⟩
        · rw [hc]
          refine upon_returned hq ?_
          rintro e w' ⟨v, lv, H', β', rfl, h3, h5, h6⟩
          exact ⟨v, rfl, hK _ β' _ _ h3 (h5.putO hd h6)⟩
        · rw [hc, Oper.upon_value]
          obtain ⟨v', lv, H', β', e, h3, h5, h6⟩ := hq
          cases e
          exact hK _ β' _ _ h3 (h5.putO hd h6)
      · exact h.elim
    | invoke r m => exact gen h
    | builtin b => exact gen h
  | _ => exact gen h

theorem LR.non {n : Nat} {ok : Bool → Nat → Prop} : LR β n w ok (.tup []) undef := .tup _ _ rfl (by simp)
theorem guardVal_sound (hr : Rel G w0 β s acts a w) {ops : Array Oper} {ds : List (Option Nat)} (hds : ops.toList.map (·.dst) = ds) {j : Nat} {b want : Bool} (h : guardVal ds s j want = some b) : (yielded ops a.tmps j == some want) = (b == want) := by
  unfold guardVal at h
  split at h
  · rename_i d hd
    have h4 : (ops[j]?).bind (·.dst) = some d := by
      rw [← hds, List.getElem?_map] at hd
      simp only [Option.map_eq_some_iff, Array.getElem?_toList] at hd
      obtain ⟨o, h5, h6⟩ := hd
      rw [h5]; exact h6
    unfold gv at h
    split at h
    · rename_i t ht
      simp only [Option.some.injEq] at h
      subst h
      have h1 := hr.slot d
      rw [ht] at h1
      have h2 : a.tmps.getD d undef = .bool t := by cases h1 with | pv h1 => generalize a.tmps.getD d undef = z at h1; cases h1; rfl
      have h3 : a.tmps[d]? = some (.bool t) := by
        rcases Nat.lt_or_ge d a.tmps.size with h' | h'
        · simp [h'] at h2; simp [h', h2]
        · simp [Array.getElem?_eq_none h', undef] at h2
      simp only [yielded, h4, Option.bind_some, h3]
      cases t <;> cases want <;> rfl
    · rename_i ht
      simp only [Option.some.injEq] at h
      subst h
      have h1 := hr.slot d
      rw [ht] at h1
      have h2 : ∃ vs, a.tmps.getD d undef = .tuple vs := by generalize a.tmps.getD d undef = z at h1; cases h1; exact ⟨_, rfl⟩
      obtain ⟨vs, h2⟩ := h2
      have h3 : a.tmps[d]? = none ∨ a.tmps[d]? = some (.tuple vs) := by
        rcases Nat.lt_or_ge d a.tmps.size with h' | h'
        · simp [h'] at h2; simp [h', h2]
        · exact .inl (Array.getElem?_eq_none h')
      have h5 : yielded ops a.tmps j = none := by
        rcases h3 with h3 | h3 <;> simp only [yielded, h4, Option.bind_some, h3]
      rw [h5]
      cases want <;> rfl
    · cases h
  · cases h

theorem runOps_sound (hT : TOk P T) {ops : Array Oper} {ds : List (Option Nat)} (hds : ops.toList.map (·.dst) = ds) {K : St → Prop} {Q' : Exit → Act → World → Prop} {w0 : World} {acts : List Act}
    (hQ : ∀ s' β' a' w', K s' → Rel G w0 β' s' acts a' w' → Q' .normal a' w') : ∀ (l : List Oper) (s : St) (β : Nat → Nat) (a : Act) (w : World), runOps P T G ds l s K → Rel G w0 β s acts a w → wpList P ops Q' l a w
  | [], s, β, a, w, h, hr => hQ s β a w h hr
  | o :: rest, s, β, a, w, h, hr => by
    simp only [runOps] at h
    unfold wpList
    have step : stepOp P T G o s (fun s' => runOps P T G ds rest s' K) → o.wp P a w (wpList P ops Q' rest) Q' := fun h =>
      stepOp_sound hT hr h fun s' β' a' w' h' hr' => runOps_sound hT hds hQ rest s' β' a' w' h' hr'
    split at h
    · rename_i hg
      rw [if_pos (by simp [Region.wanted, hg])]
      exact .inl (step h)
    · rename_i j want hg
      obtain ⟨b, hb, h⟩ := h
      obtain ⟨h1, h2⟩ := guardK_out h
      have hy := guardVal_sound hr hds hb
      by_cases hbw : b = want
      · rw [if_pos (by simp [Region.wanted, hg, hy, hbw])]
        exact .inl (step (h1 hbw))
      · rw [if_neg (by simp [Region.wanted, hg, hy, hbw])]
        obtain ⟨hd, h3⟩ := h2 hbw
        exact runOps_sound hT hds hQ rest _ β _ w h3 (hr.putO hd .non)

/-- A region whose order is the text's. -/
theorem AWp.region (hT : TOk P T) {id : Nat} {l : List Oper} {ds : List (Option Nat)} (hds : l.map (·.dst) = ds) {Q : Exit → St → Prop} (h : runOps P T G ds l s (fun s' => Q .normal s')) : AWp P G (.region id l.toArray false) Q s :=
  fun _ β _ a w hr => wp_region_lit (runOps_sound hT (by simpa using hds) (fun s' β' _ _ hK hr' => ⟨s', β', hK, hr'⟩) l s β a w h hr)

theorem AWp.cond {c : Operand} {x y : Code} {Q : Exit → St → Prop} (h : bindK (match s.ev G c with | .pv (.bool b) => some b | _ => none) fun b => (b = true → AWp P G x Q s) ∧ (b = false → AWp P G y Q s)) : AWp P G (.cond c x y) Q s := by
  obtain ⟨b, h1, h2, h3⟩ := h
  intro w0 β acts a w hr
  have h0 := hr.ev c
  split at h1
  · rename_i t ht
    simp only [Option.some.injEq] at h1
    subst h1
    rw [ht] at h0
    have h4 : a.eval c = .bool t := by cases h0 with | pv h0 => generalize a.eval c = z at h0; cases h0; rfl
    exact wp_cond_split h4 (fun e => h2 e w0 β acts a w hr) (fun e => h3 e w0 β acts a w hr)
  · cases h1
end
end Hm
namespace Hm
open Go Go.RowKit

mutual
/-- A value as a callee sees it: its memory was there when the call began. -/
def PV.old : PV → PV
  | .sl _ cs n => .sl true (PV.olds cs) n
  | .nsl _ cs n => .nsl true (PV.olds cs) n
  | .asl _ cs n => .asl true (PV.olds cs) n
  | .agg cs => .agg (PV.olds cs)
  | .fn f cap => .fn f (PV.olds cap)
  | .ip _ cs o => .ip true (PV.olds cs) o
  | .ifc t v => .ifc t v.old
  | .int k n => .int k n
  | .bool b => .bool b
  | .str s => .str s
  | .nil => .nil
  | .nilfn => .nilfn
  | .nilp => .nilp
  | .nilif => .nilif
  | .nilmap => .nilmap
  | .raw v => .raw v
def PV.olds : List PV → List PV
  | [] => []
  | p :: r => p.old :: PV.olds r
end

theorem olds_eq (l : List PV) : PV.olds l = l.map PV.old := by
  induction l with
  | nil => rfl
  | cons p r ih => rw [PV.olds, ih]; rfl

mutual
/-- No part of it lies in old memory. -/
def PV.fresh : PV → Bool
  | .sl f cs _ => !f && PV.freshs cs
  | .nsl f cs _ => !f && PV.freshs cs
  | .asl f cs _ => !f && PV.freshs cs
  | .agg cs => PV.freshs cs
  | .fn _ cap => PV.freshs cap
  | .ip f cs _ => !f && PV.freshs cs
  | .ifc _ v => v.fresh
  | .int _ _ => true
  | .bool _ => true
  | .str _ => true
  | .nil => true
  | .nilfn => true
  | .nilp => true
  | .nilif => true
  | .nilmap => true
  | .raw _ => false
def PV.freshs : List PV → Bool
  | [] => true
  | p :: r => p.fresh && PV.freshs r
end

theorem freshs_eq (l : List PV) : PV.freshs l = l.all PV.fresh := by
  induction l with
  | nil => rfl
  | cons p r ih => rw [PV.freshs, ih]; rfl

theorem freshs_get {l : List PV} (h : PV.freshs l = true) {i : Nat} {p : PV} (hp : l[i]? = some p) : p.fresh = true := by
  rw [freshs_eq, List.all_eq_true] at h
  exact h p (List.mem_of_getElem? hp)

theorem old_one (p : PV) : p.old.one = p.one := by cases p <;> rfl

theorem olds_get {l : List PV} {i : Nat} {q : PV} (h : (PV.olds l)[i]? = some q) : ∃ p, l[i]? = some p ∧ q = p.old := by
  rw [olds_eq, List.getElem?_map, Option.map_eq_some_iff] at h
  obtain ⟨p, h1, h2⟩ := h
  exact ⟨p, h1, h2.symm⟩

theorem olds_length (l : List PV) : (PV.olds l).length = l.length := by rw [olds_eq]; simp

theorem Imm.toOld {w : World} {ok ok' : Bool → Nat → Prop} (ho : ∀ f b, ok f b → ok' true b) {p : PV} {v : Value} (h : Imm w ok p v) : Imm w ok' p.old v := by
  induction h with
  | int => exact .int _ _
  | bool => exact .bool _
  | str => exact .str _
  | nil => exact .nil
  | sl f cells len blk off cap vs hl h1 hc hv ih =>
    refine .sl true _ len blk off cap vs hl (fun i q hq => ?_) (fun i hi => ?_) (fun i q hq => ?_)
    · obtain ⟨p, h2, rfl⟩ := olds_get hq; rw [old_one]; exact h1 i p h2
    · rw [olds_length] at hi; exact ⟨ho _ _ (hc i hi).1, (hc i hi).2⟩
    · obtain ⟨p, h2, rfl⟩ := olds_get hq; exact ih i p h2
  | nsl0 f cells => exact .nsl0 true _
  | nsl f cells len v h0 h ih => exact .nsl true _ len v h0 ih
  | asl0 f cells => exact .asl0 true _
  | slz f cells a cap => exact .slz true _ a cap
  | asl f cells len v h ih => exact .asl true _ len v ih
  | agg cells vs hl h1 hv ih =>
    refine .agg _ vs (by rw [olds_length]; exact hl) (fun i q hq => ?_) (fun i q u hq hu => ?_)
    · obtain ⟨p, h2, rfl⟩ := olds_get hq; rw [old_one]; exact h1 i p h2
    · obtain ⟨p, h2, rfl⟩ := olds_get hq; exact ih i p u h2 hu
  | fn f cap vs hl hv ih =>
    refine .fn f _ vs (by rw [olds_length]; exact hl) (fun i q u hq hu => ?_)
    obtain ⟨p, h2, rfl⟩ := olds_get hq; exact ih i p u h2 hu
  | nilfn => exact .nilfn
  | nilp => exact .nilp
  | ip f cells off blk o vs h1 hc hv ih =>
    refine .ip true _ off blk o vs (fun i q hq => ?_) (fun i hi => ?_) (fun i q hq => ?_)
    · obtain ⟨p, h2, rfl⟩ := olds_get hq; rw [old_one]; exact h1 i p h2
    · rw [olds_length] at hi; exact ⟨ho _ _ (hc i hi).1, (hc i hi).2⟩
    · obtain ⟨p, h2, rfl⟩ := olds_get hq; exact ih i p h2
  | ifc t p v h ih => exact .ifc t _ v ih
  | nilif => exact .nilif
  | nilmap => exact .nilmap
  | raw v h => exact .raw v h

theorem Imm.toFresh {w : World} {ok ok' : Bool → Nat → Prop} (ho : ∀ b, ok false b → ok' false b) {p : PV} {v : Value} (h : Imm w ok p v) (hf : p.fresh = true) : Imm w ok' p v := by
  induction h with
  | int => exact .int _ _
  | bool => exact .bool _
  | str => exact .str _
  | nil => exact .nil
  | sl f cells len blk off cap vs hl h1 hc hv ih =>
    simp only [PV.fresh, Bool.and_eq_true, Bool.not_eq_true'] at hf
    obtain ⟨rfl, hf⟩ := hf
    exact .sl false _ len blk off cap vs hl h1 (fun i hi => ⟨ho _ (hc i hi).1, (hc i hi).2⟩) (fun i p hp => ih i p hp (freshs_get hf hp))
  | nsl0 f cells => exact .nsl0 f _
  | nsl f cells len v h0 h ih =>
    exact .nsl f _ len v h0 (ih hf)
  | asl0 f cells => exact .asl0 f _
  | slz f cells a cap => exact .slz f _ a cap
  | asl f cells len v h ih => exact .asl f _ len v (ih hf)
  | agg cells vs hl h1 hv ih => exact .agg _ vs hl h1 (fun i p u hp hu => ih i p u hp hu (freshs_get hf hp))
  | fn f cap vs hl hv ih => exact .fn f _ vs hl (fun i p u hp hu => ih i p u hp hu (freshs_get hf hp))
  | nilfn => exact .nilfn
  | nilp => exact .nilp
  | ip f cells off blk o vs h1 hc hv ih =>
    simp only [PV.fresh, Bool.and_eq_true, Bool.not_eq_true'] at hf
    obtain ⟨rfl, hf⟩ := hf
    exact .ip false _ off blk o vs h1 (fun i hi => ⟨ho _ (hc i hi).1, (hc i hi).2⟩) (fun i p hp => ih i p hp (freshs_get hf hp))
  | ifc t p v h ih => exact .ifc t _ v (ih hf)
  | nilif => exact .nilif
  | nilmap => exact .nilmap
  | raw v h => simp [PV.fresh] at hf

/-- What lies in a callee's own new memory. -/
def okFr (w : World) (β : Nat → Nat) (H : List Blk) (w' : World) (f : Bool) (b : Nat) : Prop := f = false ∧ okOf w β H w' false b

def Blk.cells? : Blk → Option (List PV)
  | .p cs => some cs
  | .n cs => some cs
  | _ => none

/-- What a callee hands back: its new blocks. -/
structure Pack (w w' : World) (H : List Blk) (β : Nat → Nat) : Prop where
  below : Below w.heap.size w w'
  flat : ∀ (i : Nat) (B : Blk), H[i]? = some B → B.live = true → B.cells?.isSome = true
  ge : ∀ (i : Nat) (B : Blk), H[i]? = some B → B.live = true → w.heap.size ≤ β i
  lt : ∀ (i : Nat) (B : Blk), H[i]? = some B → B.live = true → β i < w'.heap.size
  inj : ∀ (i j : Nat) (B C : Blk), H[i]? = some B → B.live = true → H[j]? = some C → C.live = true → β i = β j → i = j
  blk : ∀ (i : Nat) (B : Blk), H[i]? = some B → B.live = true → BlkRel β H.length w' (okFr w β H w') B (β i)

def GOk (G : Nat → Option (List PV)) (w : World) : Prop :=
  ∀ g cells, G g = some cells → Imm w (fun f b => f = true ∧ b < w.heap.size) (.ip true cells 0) (.pointer (some ⟨g, 0, none⟩))

/-- WHAT A GO FUNCTION DOES, called with values without memory: its result and its new blocks meet 'Post'. -/
def Sum (P : Program) (G : Nat → Option (List PV)) (f : FuncId) (args : List PV) (Post : LV → List Blk → Prop) : Prop :=
  FnOk P f ∧ ∀ w (vs : List Value), GOk G w → args.length = vs.length → (∀ (i : Nat) p v, args[i]? = some p → vs[i]? = some v → Imm w (fun f b => f = true ∧ b < w.heap.size) p v) →
    Calls P f vs.toArray w fun e w' => ∃ v lv H β, e = .returned v ∧ Post lv H ∧ Pack w w' H β ∧ LR β H.length w' (okFr w β H w') lv v

theorem Sum.mono {P : Program} {G : Nat → Option (List PV)} {f : FuncId} {args : List PV} {Post Post' : LV → List Blk → Prop} (h : Sum P G f args Post) (hp : ∀ lv H, Post lv H → Post' lv H) : Sum P G f args Post' :=
  ⟨h.1, fun w vs h1 h2 h3 => (h.2 w vs h1 h2 h3).mono fun _ _ ⟨v, lv, H, β, h4, h5, h6⟩ => ⟨v, lv, H, β, h4, hp _ _ h5, h6⟩⟩

section
variable {P : Program} {T : TypeId → Option TI} {G : Nat → Option (List PV)} {w0 : World} {β : Nat → Nat} {s : St} {acts : List Act} {a : Act} {w : World}

theorem Rel.gok (hr : Rel G w0 β s acts a w) : GOk G w := fun g cells h =>
  (hr.gl g cells h).mono (fun _ b hb => hr.below.block b hb.2) (fun _ _ hb => ⟨hb.1, Nat.lt_of_lt_of_le hb.2 hr.below.size⟩)

/-! ### A callee's result as values -/
mutual
def LV.toImm (H : List Blk) : LV → LV
  | .pv p => .pv p
  | .ref b off len esz => match (H[b]?).bind Blk.cells? with
    | some cs => if off = 0 ∧ len * esz = cs.length then .pv (.sl false cs len) else if off + len * esz ≤ cs.length then .pv (.sl false ((cs.drop off).take (len * esz)) len) else .dead
    | none => .dead
  | .nref b len esz => match H[b]? with
    | some (.n cs) => if len * esz = cs.length then .pv (.asl false cs len) else .dead
    | _ => .dead
  | .ptr b off => match H[b]? with
    | some (.p cs) => .pv (.ip false cs off)
    | _ => .dead
  | .agg cs => match (LV.toImms H cs).mapM LV.toPV with
    | some ps => .pv (.agg ps)
    | none => .dead
  | .fn _ _ => .dead
  | .tup vs => .tup (LV.toImms H vs)
  | .ifc _ _ => .dead
  | .emp => .pv (.sl false [] 0)
  | .mref _ => .dead
  | .dead => .dead
def LV.toImms (H : List Blk) : List LV → List LV
  | [] => []
  | x :: r => x.toImm H :: LV.toImms H r
end

mutual
/-- The names of the blocks moved on. -/
def LV.shift (n : Nat) : LV → LV
  | .pv p => .pv p
  | .ref b off len esz => .ref (n + b) off len esz
  | .nref b len esz => .nref (n + b) len esz
  | .ptr b off => .ptr (n + b) off
  | .agg cs => .agg (LV.shifts n cs)
  | .fn f cap => .fn f (LV.shifts n cap)
  | .tup vs => .tup (LV.shifts n vs)
  | .ifc t x => .ifc t (x.shift n)
  | .emp => .emp
  | .mref b => .mref (n + b)
  | .dead => .dead
def LV.shifts (n : Nat) : List LV → List LV
  | [] => []
  | x :: r => x.shift n :: LV.shifts n r
end

theorem toImms_eq (H : List Blk) (l : List LV) : LV.toImms H l = l.map (LV.toImm H) := by
  induction l with
  | nil => rfl
  | cons p r ih => rw [LV.toImms, ih]; rfl
theorem shifts_eq (n : Nat) (l : List LV) : LV.shifts n l = l.map (LV.shift n) := by
  induction l with
  | nil => rfl
  | cons p r ih => rw [LV.shifts, ih]; rfl

theorem Pack.cells {w w' : World} {H : List Blk} {β0 : Nat → Nat} (hp : Pack w w' H β0) {b : Nat} {B : Blk} (h : H[b]? = some B) (hl : B.live = true) {cs : List PV} (hc : B.cells? = some cs) :
    ∃ (c : Array Value) (E : TypeId) (fz : Nat × Nat), w'.heap[β0 b]? = some (.cells c E fz) ∧ cs.length ≤ c.size ∧ (∀ (i : Nat) p, cs[i]? = some p → p.one = true) ∧
      ∀ (i : Nat) p, cs[i]? = some p → ∃ v, c[i]? = some v ∧ Imm w' (okFr w β0 H w') p v := by
  obtain ⟨c, E, fz, h1, h2, h3, h4⟩ := (hp.blk b B h hl).row (by cases B <;> first | rfl | cases hc)
  have hg : ∀ (i : Nat) p, cs[i]? = some p → B.get i = some (.pv p) := fun i p hi => by
    cases B <;> simp [Blk.cells?] at hc <;> subst hc <;> simp [Blk.get, hi]
  have hlen : B.len = cs.length := by cases B <;> simp [Blk.cells?] at hc <;> subst hc <;> rfl
  refine ⟨c, E, fz, h1, by omega, fun i p hi => (h4 i _ (hg i p hi)).1, fun i p hi => ?_⟩
  obtain ⟨_, v, h5, h6⟩ := h4 i _ (hg i p hi)
  cases h6 with | pv h6 => exact ⟨v, h5, h6⟩

theorem live_of_cells {B : Blk} {cs : List PV} (h : B.cells? = some cs) (hc : 0 < cs.length) : B.live = true := by
  cases B <;> simp [Blk.cells?] at h <;> subst h
  · rfl
  · rename_i c; cases c <;> first | (simp at hc; done) | rfl

theorem toImm_one {H : List Blk} {lv : LV} {p : PV} (h1 : lv.one = true) (h : lv.toImm H = .pv p) : p.one = true := by
  cases lv with
  | pv q => simp only [LV.toImm, LV.pv.injEq] at h; subst h; exact h1
  | ref =>
    simp only [LV.toImm] at h
    split at h
    · split at h
      · simp only [LV.pv.injEq] at h; subst h; rfl
      · split at h
        · simp only [LV.pv.injEq] at h; subst h; rfl
        · cases h
    · cases h
  | nref =>
    simp only [LV.toImm] at h
    split at h
    · split at h
      · simp only [LV.pv.injEq] at h; subst h; rfl
      · cases h
    · cases h
  | ptr =>
    simp only [LV.toImm] at h
    split at h
    · simp only [LV.pv.injEq] at h; subst h; rfl
    · cases h
  | agg => cases h1
  | tup => cases h1
  | dead => cases h1
  | fn => simp [LV.toImm] at h
  | ifc => simp [LV.toImm] at h
  | emp => simp only [LV.toImm, LV.pv.injEq] at h; subst h; rfl
  | mref => simp [LV.toImm] at h

/-- A callee's result, whose new blocks nobody writes any more. -/
theorem toImm_sound {w w' : World} {H : List Blk} {β0 : Nat → Nat} (hp : Pack w w' H β0) {β : Nat → Nat} {n : Nat} {ok : Bool → Nat → Prop} (hok : ∀ b, w.heap.size ≤ b → b < w'.heap.size → ok false b) {lv : LV} {v : Value}
    (h : LR β0 H.length w' (okFr w β0 H w') lv v) : LR β n w' ok (lv.toImm H) v := by
  have hok2 : ∀ f b, okFr w β0 H w' f b → ok f b := fun f b hb => by
    obtain ⟨rfl, hb1, hb2, _⟩ := hb
    exact hok b (hb2 rfl) hb1
  have row : ∀ (b : Nat) (B : Blk) (cs : List PV) (off len cap : Nat) (sub : List PV), H[b]? = some B → B.cells? = some cs → off + sub.length ≤ cs.length → (∀ (i : Nat) p, sub[i]? = some p → cs[off + i]? = some p) → len ≤ cap →
      Imm w' ok (.sl false sub len) (.slice (some ⟨β0 b, off, none⟩) len cap) := fun b B cs off len cap sub hB hc hle hsub hlc => by
    by_cases h0 : sub.length = 0
    · have e0 : sub = [] := List.eq_nil_of_length_eq_zero h0
      subst e0
      exact .sl false [] len _ off cap (fun _ => undef) hlc (by simp) (by simp) (by simp)
    · have hl := live_of_cells hc (by omega)
      obtain ⟨c, E, fz, h1, h2, h3, h4⟩ := hp.cells hB hl hc
      refine .sl false sub len _ off cap (fun i => c.getD (off + i) undef) hlc (fun i p hi => h3 _ _ (hsub i p hi)) (fun i hi => ⟨hok _ (hp.ge b B hB hl) (hp.lt b B hB hl), ?_⟩) (fun i p hi => ?_)
      · have : off + i < c.size := by omega
        simp [World.cell?, h1, this]
      · obtain ⟨u, h5, h6⟩ := h4 _ _ (hsub i p hi)
        have : c.getD (off + i) undef = u := by simp [h5]
        show Imm w' ok p (c.getD (off + i) undef)
        rw [this]
        exact h6.mono (fun _ _ _ => rfl) hok2
  induction h with
  | pv h => exact .pv (h.mono (fun _ _ _ => rfl) hok2)
  | ref b off len esz cap c E fz hb hh hl hs =>
    simp only [LV.toImm]
    split
    · rename_i cs hcs
      simp only [Option.bind_eq_some_iff] at hcs
      obtain ⟨B, hB, hc⟩ := hcs
      split
      · rename_i h0
        obtain ⟨rfl, h0⟩ := h0
        exact .pv (row b B cs 0 len cap cs hB hc (by omega) (fun i p hi => by rw [Nat.zero_add]; exact hi) hl)
      · split
        · rename_i hle
          exact .pv (row b B cs off len cap _ hB hc (by simp; omega) (fun i p hi => get_take_drop hi) hl)
        · exact .dead _
    · exact .dead _
  | refz b off esz off' hb =>
    simp only [LV.toImm]
    have z : ∀ sub : List PV, sub.length = 0 → Imm w' ok (.sl false sub 0) (.slice (some off') 0 0) := fun sub h0 => by
      have e0 : sub = [] := List.eq_nil_of_length_eq_zero h0
      subst e0
      exact .slz _ _ _ _
    split
    · rename_i cs hcs
      split
      · rename_i h0
        exact .pv (z _ (by omega))
      · split
        · exact .pv (z _ (by simp))
        · exact .dead _
    · exact .dead _
  | nref0 b esz a =>
    simp only [LV.toImm]
    split
    · rename_i cs _
      split
      · have e0 : cs = [] := List.eq_nil_of_length_eq_zero (by omega)
        subst e0
        cases a with
        | none => exact .pv (.asl0 _ _)
        | some a => exact .pv (.asl _ _ _ _ (.slz _ _ _ _))
      · exact .dead _
    · exact .dead _
  | nref b len esz v h0 h ih =>
    simp only [LV.toImm]
    split
    · rename_i cs hB
      split
      · rename_i hle
        cases h with
        | ref _ _ _ _ cap c E fz hb hh hl hs => exact .pv (.asl _ _ _ _ (row b _ cs 0 len cap cs hB rfl (by omega) (fun i p hi => by rw [Nat.zero_add]; exact hi) hl))
        | refz => omega
      · exact .dead _
    · exact .dead _
  | ptr b off hb =>
    simp only [LV.toImm]
    split
    · rename_i cs hB
      obtain ⟨c, E, fz, h1, h2, h3, h4⟩ := hp.cells hB rfl rfl
      have := Imm.ip (w := w') (ok := ok) false cs off (β0 b) 0 (fun i => c.getD i undef) h3 (fun i hi => ⟨hok _ (hp.ge b _ hB rfl) (hp.lt b _ hB rfl), by
        have : i < c.size := by omega
        simp [World.cell?, h1, this]⟩) (fun i p hi => by
        obtain ⟨u, h5, h6⟩ := h4 _ _ hi
        have : c.getD i undef = u := by simp [h5]
        show Imm w' ok p (c.getD i undef)
        rw [this]
        exact h6.mono (fun _ _ _ => rfl) hok2)
      rw [Nat.zero_add] at this
      exact .pv this
    · exact .dead _
  | agg cells vs hl h1 hv ih =>
    simp only [LV.toImm]
    split
    · rename_i ps hps
      have e := mapM_toPV hps
      rw [toImms_eq] at e
      have hg : ∀ (i : Nat) p, ps[i]? = some p → ∃ q, cells[i]? = some q ∧ q.toImm H = .pv p := fun i p hi => by
        have h2 : (cells.map (LV.toImm H))[i]? = some (.pv p) := by rw [e]; simp [hi]
        simp only [List.getElem?_map, Option.map_eq_some_iff] at h2
        exact h2
      refine .pv (.agg _ vs (by have := congrArg List.length e; simp at this; omega) (fun i p hi => ?_) fun i p v hi hv' => ?_)
      · obtain ⟨q, h2, h3⟩ := hg i p hi
        exact toImm_one (h1 i q h2) h3
      · obtain ⟨q, h2, h3⟩ := hg i p hi
        have := ih i q v h2 hv'
        rw [h3] at this
        cases this with | pv h => exact h
    · exact .dead _
  | fn => exact .dead _
  | tup cells vs hl hv ih =>
    simp only [LV.toImm, toImms_eq]
    refine .tup _ vs (by simpa using hl) fun i p v h1 h2 => ?_
    simp only [List.getElem?_map, Option.map_eq_some_iff] at h1
    obtain ⟨q, h3, rfl⟩ := h1
    exact ih i q v h3 h2
  | ifc => exact .dead _
  | emp a => exact .pv (.slz _ _ _ _)
  | mref => exact .dead _
  | dead v => exact .dead _
end
end Hm
namespace Hm
open Go Go.RowKit

section
variable {P : Program} {T : TypeId → Option TI} {G : Nat → Option (List PV)} {w0 : World} {β : Nat → Nat} {s : St} {acts : List Act} {a : Act} {w : World}

/-- A call has come back: what is the caller's is as it was. -/
theorem Rel.back (hr : Rel G w0 β s acts a w) {w' : World} {H : List Blk} {β0 : Nat → Nat} (hp : Pack w w' H β0) : Rel G w0 β s acts a w' ∧
    (∀ lv v, LR β s.H.length w (okOf w0 β s.H w) lv v → LR β s.H.length w' (okOf w0 β s.H w') lv v) := by
  have hsz : w0.heap.size ≤ w.heap.size := hr.below.size
  have hkeep : ∀ f b, okOf w0 β s.H w f b → w'.heap[b]? = w.heap[b]? := fun f b h => hp.below.block b h.1
  have hok : ∀ f b, okOf w0 β s.H w f b → okOf w0 β s.H w' f b := fun f b h => ⟨Nat.lt_of_lt_of_le h.1 hp.below.size, h.2⟩
  have hrow : ∀ (b : Nat) (c : Array Value) (E : TypeId) (fz : Nat × Nat), w.heap[b]? = some (.cells c E fz) → ∃ (c' : Array Value) (fz' : Nat × Nat), w'.heap[b]? = some (.cells c' E fz') ∧ c'.size = c.size :=
    fun b c E fz h => ⟨c, fz, by rw [hp.below.block b (lt_of_some h)]; exact h, rfl⟩
  refine ⟨hr.step (β' := β) (H' := s.H) (Nat.le_refl _) (fun _ _ => rfl) (hp.below.mono hsz) hrow hkeep hok hr.ge (fun i B h hl => Nat.lt_of_lt_of_le (hr.lt i B h hl) hp.below.size) hr.inj ?_,
    fun lv v h => h.mono (Nat.le_refl _) (fun _ _ => rfl) hrow hkeep hok⟩
  intro i B h hl
  exact (hr.blk i B h hl).trans (hp.below.block _ (hr.lt i B h hl)) fun lv v h6 => h6.mono (Nat.le_refl _) (fun _ _ => rfl) hrow hkeep hok

theorem Rel.backImm (hr : Rel G w0 β s acts a w) {w' : World} {H : List Blk} {β0 : Nat → Nat} (hp : Pack w w' H β0) {lv : LV} {v : Value} (h : LR β0 H.length w' (okFr w β0 H w') lv v) :
    LR β s.H.length w' (okOf w0 β s.H w') (lv.toImm H) v :=
  toImm_sound hp (fun b h1 h2 => ⟨h2, fun _ => Nat.le_trans hr.below.size h1, fun i B hi hl e => by have := hr.lt i B hi hl; omega⟩) h

/-- The numbering of two families of blocks. -/
def glue (β β0 : Nat → Nat) (n : Nat) : Nat → Nat := fun i => if i < n then β i else β0 (i - n)
theorem glue_lt {β β0 : Nat → Nat} {n i : Nat} (h : i < n) : glue β β0 n i = β i := by unfold glue; rw [if_pos h]
theorem glue_ge {β β0 : Nat → Nat} {n i : Nat} : glue β β0 n (n + i) = β0 i := by unfold glue; rw [if_neg (by omega)]; congr 1; omega

theorem getElem?_app {α : Type} {l r : List α} {i : Nat} {x : α} (h : (l ++ r)[i]? = some x) : (i < l.length ∧ l[i]? = some x) ∨ ∃ j, i = l.length + j ∧ r[j]? = some x := by
  rw [List.getElem?_append] at h
  split at h
  · exact .inl ⟨‹_›, h⟩
  · exact .inr ⟨i - l.length, by omega, h⟩

theorem shift_one (n : Nat) (lv : LV) : (lv.shift n).one = lv.one := by cases lv <;> rfl

theorem shift_sound {w' : World} {H : List Blk} {β0 : Nat → Nat} {n m : Nat} {ok ok' : Bool → Nat → Prop} (hm : m = n + H.length) (hok : ∀ f b, ok f b → ok' f b) {lv : LV} {v : Value}
    (h : LR β0 H.length w' ok lv v) : LR (glue β β0 n) m w' ok' (lv.shift n) v := by
  induction h with
  | pv h => exact .pv (h.mono (fun _ _ _ => rfl) hok)
  | ref b off len esz cap c E fz hb hh hl hs =>
    rw [← glue_ge (β := β) (β0 := β0) (n := n)] at hh ⊢
    exact .ref _ off len esz cap c E fz (by omega) hh hl hs
  | refz b off esz a hb => exact .refz _ off esz a (by omega)
  | nref0 b esz a => exact .nref0 _ _ _
  | nref b len esz v h0 h ih => exact .nref _ _ _ _ h0 ih
  | ptr b off hb =>
    rw [← glue_ge (β := β) (β0 := β0) (n := n)]
    exact .ptr _ off (by omega)
  | agg cells vs hl h1 hv ih =>
    simp only [LV.shift, shifts_eq]
    refine .agg _ vs (by simpa using hl) (fun i p h2 => ?_) fun i p v h2 h3 => ?_
    · simp only [List.getElem?_map, Option.map_eq_some_iff] at h2
      obtain ⟨q, h4, rfl⟩ := h2
      rw [shift_one]
      exact h1 i q h4
    · simp only [List.getElem?_map, Option.map_eq_some_iff] at h2
      obtain ⟨q, h4, rfl⟩ := h2
      exact ih i q v h4 h3
  | fn f cap vs hl hv ih =>
    simp only [LV.shift, shifts_eq]
    refine .fn f _ vs (by simpa using hl) fun i p v h1 h2 => ?_
    simp only [List.getElem?_map, Option.map_eq_some_iff] at h1
    obtain ⟨q, h3, rfl⟩ := h1
    exact ih i q v h3 h2
  | tup cells vs hl hv ih =>
    simp only [LV.shift, shifts_eq]
    refine .tup _ vs (by simpa using hl) fun i p v h1 h2 => ?_
    simp only [List.getElem?_map, Option.map_eq_some_iff] at h1
    obtain ⟨q, h3, rfl⟩ := h1
    exact ih i q v h3 h2
  | ifc t p v h ih => exact .ifc _ _ _ ih
  | emp a => exact .emp a
  | mref b hb =>
    rw [← glue_ge (β := β) (β0 := β0) (n := n)]
    exact .mref _ (by omega)
  | dead v => exact .dead _

/-- A callee's new blocks become the caller's. -/
theorem Rel.import (hr : Rel G w0 β s acts a w) {w' : World} {H : List Blk} {β0 : Nat → Nat} (hp : Pack w w' H β0) :
    Rel G w0 (glue β β0 s.H.length) { s with H := s.H ++ H } acts a w' ∧
    (∀ lv v, LR β0 H.length w' (okFr w β0 H w') lv v → LR (glue β β0 s.H.length) (s.H ++ H).length w' (okOf w0 (glue β β0 s.H.length) (s.H ++ H) w') (lv.shift s.H.length) v) := by
  have hsz : w0.heap.size ≤ w.heap.size := hr.below.size
  have hkeep : ∀ f b, okOf w0 β s.H w f b → w'.heap[b]? = w.heap[b]? := fun f b h => hp.below.block b h.1
  have hok : ∀ f b, okOf w0 β s.H w f b → okOf w0 (glue β β0 s.H.length) (s.H ++ H) w' f b := fun f b h => ⟨Nat.lt_of_lt_of_le h.1 hp.below.size, h.2.1, fun i B hi hl => by
    rcases getElem?_app hi with ⟨h1, h2⟩ | ⟨j, rfl, h2⟩
    · rw [glue_lt h1]; exact h.2.2 i B h2 hl
    · rw [glue_ge]; have := hp.ge j B h2 hl; have := h.1; omega⟩
  have hok0 : ∀ f b, okFr w β0 H w' f b → okOf w0 (glue β β0 s.H.length) (s.H ++ H) w' f b := fun f b h => by
    obtain ⟨rfl, h1, h2, h3⟩ := h
    have h2 := h2 rfl
    refine ⟨h1, fun _ => by omega, fun i B hi hl => ?_⟩
    rcases getElem?_app hi with ⟨h4, h5⟩ | ⟨j, rfl, h5⟩
    · rw [glue_lt h4]; have := hr.lt i B h5 hl; omega
    · rw [glue_ge]; exact h3 j B h5 hl
  have hrow : ∀ (b : Nat) (c : Array Value) (E : TypeId) (fz : Nat × Nat), w.heap[b]? = some (.cells c E fz) → ∃ (c' : Array Value) (fz' : Nat × Nat), w'.heap[b]? = some (.cells c' E fz') ∧ c'.size = c.size :=
    fun b c E fz h => ⟨c, fz, by rw [hp.below.block b (lt_of_some h)]; exact h, rfl⟩
  have hsh : ∀ lv v, LR β0 H.length w' (okFr w β0 H w') lv v → LR (glue β β0 s.H.length) (s.H ++ H).length w' (okOf w0 (glue β β0 s.H.length) (s.H ++ H) w') (lv.shift s.H.length) v := fun lv v h => shift_sound (by simp) hok0 h
  refine ⟨hr.step (by simp) (fun i hi => glue_lt hi) (hp.below.mono hsz) hrow hkeep hok ?_ ?_ ?_ ?_, hsh⟩
  · intro i B hi hl
    rcases getElem?_app hi with ⟨h1, h2⟩ | ⟨j, rfl, h2⟩
    · rw [glue_lt h1]; exact hr.ge i B h2 hl
    · rw [glue_ge]; have := hp.ge j B h2 hl; omega
  · intro i B hi hl
    rcases getElem?_app hi with ⟨h1, h2⟩ | ⟨j, rfl, h2⟩
    · rw [glue_lt h1]; exact Nat.lt_of_lt_of_le (hr.lt i B h2 hl) hp.below.size
    · rw [glue_ge]; exact hp.lt j B h2 hl
  · intro i j B C hi hl hj hl' he
    rcases getElem?_app hi with ⟨h1, h2⟩ | ⟨k, rfl, h2⟩
    · rcases getElem?_app hj with ⟨h3, h4⟩ | ⟨m, rfl, h4⟩
      · rw [glue_lt h1, glue_lt h3] at he; exact hr.inj i j B C h2 hl h4 hl' he
      · rw [glue_lt h1, glue_ge] at he; have := hr.lt i B h2 hl; have := hp.ge m C h4 hl'; omega
    · rcases getElem?_app hj with ⟨h3, h4⟩ | ⟨m, rfl, h4⟩
      · rw [glue_lt h3, glue_ge] at he; have := hr.lt j C h4 hl'; have := hp.ge k B h2 hl; omega
      · rw [glue_ge, glue_ge] at he; rw [hp.inj k m B C h2 hl h4 hl' he]
  · intro i B hi hl
    rcases getElem?_app hi with ⟨h1, h2⟩ | ⟨j, rfl, h2⟩
    · rw [glue_lt h1]
      exact (hr.blk i B h2 hl).trans (hp.below.block _ (hr.lt i B h2 hl)) fun lv v h8 => h8.mono (by simp) (fun i hi => glue_lt hi) hrow hkeep hok
    · rw [glue_ge]
      have hR : B.isRow = true := by
        have hf := hp.flat j B h2 hl
        cases B <;> first | rfl | simp [Blk.cells?] at hf
      obtain ⟨c, E, fz, h3, h4, h5, h6⟩ := (hp.blk j B h2 hl).row hR
      refine BlkRow.rel (hB := hR) ⟨c, E, fz, h3, h4, h5, fun k lv hk => ?_⟩
      obtain ⟨h0, v, h7, h8⟩ := h6 k lv hk
      have hf := hp.flat j B h2 hl
      have : ∃ p, lv = .pv p := by
        cases B <;> simp [Blk.cells?] at hf
        · simp only [Blk.get, Option.map_eq_some_iff] at hk; obtain ⟨p, _, rfl⟩ := hk; exact ⟨p, rfl⟩
        · simp only [Blk.get, Option.map_eq_some_iff] at hk; obtain ⟨p, _, rfl⟩ := hk; exact ⟨p, rfl⟩
      obtain ⟨p, rfl⟩ := this
      exact ⟨h0, v, h7, hsh _ _ h8⟩

/-! ### What a callee is handed -/
def mapO {α γ : Type} (f : α → Option γ) : List α → Option (List γ)
  | [] => some []
  | x :: r => match f x, mapO f r with
    | some p, some ps => some (p :: ps)
    | _, _ => none

theorem mapO_get {α γ : Type} {f : α → Option γ} : ∀ {l : List α} {ps : List γ}, mapO f l = some ps → ps.length = l.length ∧ ∀ (i : Nat) p, ps[i]? = some p → ∃ x, l[i]? = some x ∧ f x = some p := by
  intro l
  induction l with
  | nil => intro ps h; simp [mapO] at h; subst h; exact ⟨rfl, by simp⟩
  | cons x r ih =>
    intro ps h
    simp only [mapO] at h
    split at h
    · rename_i p ps' h1 h2
      simp only [Option.some.injEq] at h
      subst h
      obtain ⟨h3, h4⟩ := ih h2
      refine ⟨by simp [h3], fun i q hq => ?_⟩
      cases i with
      | zero => simp at hq; subst hq; exact ⟨x, rfl, h1⟩
      | succ i => simpa using h4 i q (by simpa using hq)
    · cases h

def snap0 (H : List Blk) : LV → Option PV
  | .pv p => some p.old
  | .ref b off len esz => match (H[b]?).bind Blk.cells? with
    | some cs => if off = 0 ∧ len * esz = cs.length then some (.sl true (PV.olds cs) len) else if off + len * esz ≤ cs.length then some (.sl true (PV.olds ((cs.drop off).take (len * esz))) len) else none
    | none => none
  | .nref b len esz => match H[b]? with
    | some (.n cs) => if len * esz = cs.length then some (.asl true (PV.olds cs) len) else none
    | _ => none
  | .ptr b off => match H[b]? with
    | some (.p cs) => some (.ip true (PV.olds cs) off)
    | _ => none
  | .emp => some (.sl true [] 0)
  | _ => none

def snap : Nat → List Blk → LV → Option PV
  | 0, H, lv => snap0 H lv
  | n + 1, H, lv => match lv with
    | .ptr b off => match H[b]? with
      | some (.p cs) => some (.ip true (PV.olds cs) off)
      | some (.l cs) => (mapO (snap n H) cs).map fun ps => .ip true ps off
      | _ => none
    | .agg cs => (mapO (snap n H) cs).map .agg
    | .fn f cap => (mapO (snap n H) cap).map (.fn f)
    | .ifc t x => (snap n H x).map (.ifc t)
    | lv => snap0 H lv
end
end Hm
namespace Hm
open Go Go.RowKit

section
variable {P : Program} {T : TypeId → Option TI} {G : Nat → Option (List PV)} {w0 : World} {β : Nat → Nat} {s : St} {acts : List Act} {a : Act} {w : World}

def okArg (w : World) (f : Bool) (b : Nat) : Prop := f = true ∧ b < w.heap.size

theorem row_old (hr : Rel G w0 β s acts a w) {b : Nat} {B : Blk} {cs : List PV} (hB : s.H[b]? = some B) (hl : B.live = true) (hc : B.cells? = some cs) :
    ∃ vs : Nat → Value, ∀ (i : Nat) p, cs[i]? = some p → p.one = true ∧ w.cell? ⟨β b, i, none⟩ = some (vs i) ∧ Imm w (okArg w) p.old (vs i) := by
  obtain ⟨vs, hvs⟩ := hr.cells hB hl (by cases B <;> first | rfl | cases hc)
  have hg : ∀ (i : Nat) p, cs[i]? = some p → B.get i = some (.pv p) := fun i p hi => by
    cases B <;> simp [Blk.cells?] at hc <;> subst hc <;> simp [Blk.get, hi]
  refine ⟨vs, fun i p hi => ?_⟩
  have h1 := hvs i (Blk.get_lt (hg i p hi))
  obtain ⟨h2, h3⟩ := h1.2 _ (hg i p hi)
  cases h3 with | pv h3 => exact ⟨h2, h1.1, h3.toOld fun f b hb => ⟨rfl, hb.1⟩⟩

theorem snap_row (hr : Rel G w0 β s acts a w) {b off len cap : Nat} {B : Blk} {cs sub : List PV} (hB : s.H[b]? = some B) (hc : B.cells? = some cs) (hsub : ∀ (i : Nat) p, sub[i]? = some p → cs[off + i]? = some p) (hle : off + sub.length ≤ cs.length) (hl : len ≤ cap) :
    Imm w (okArg w) (.sl true (PV.olds sub) len) (.slice (some ⟨β b, off, none⟩) len cap) := by
  by_cases h0 : sub.length = 0
  · have e0 : sub = [] := List.eq_nil_of_length_eq_zero h0
    subst e0
    exact .sl true [] len _ off cap (fun _ => undef) hl (by simp) (by simp) (by simp)
  · have hlv := live_of_cells hc (by omega)
    obtain ⟨vs, hvs⟩ := row_old hr hB hlv hc
    refine .sl true _ len _ off cap (fun i => vs (off + i)) hl (fun i q hq => ?_) (fun i hi => ?_) (fun i q hq => ?_)
    · obtain ⟨p, h1, rfl⟩ := olds_get hq
      rw [old_one]; exact (hvs _ p (hsub i p h1)).1
    · rw [olds_length] at hi
      exact ⟨⟨rfl, hr.lt b B hB hlv⟩, (hvs _ sub[i] (hsub i _ (by simp [hi]))).2.1⟩
    · obtain ⟨p, h1, rfl⟩ := olds_get hq
      exact (hvs _ p (hsub i p h1)).2.2

theorem snap0_one {H : List Blk} {lv : LV} {p : PV} (h : snap0 H lv = some p) (h1 : lv.one = true) : p.one = true := by
  cases lv with
  | pv q => simp only [snap0, Option.some.injEq] at h; subst h; rw [old_one]; exact h1
  | ref =>
    simp only [snap0] at h
    split at h
    · split at h
      · simp only [Option.some.injEq] at h; subst h; rfl
      · split at h
        · simp only [Option.some.injEq] at h; subst h; rfl
        · cases h
    · cases h
  | nref =>
    simp only [snap0] at h
    split at h
    · split at h
      · simp only [Option.some.injEq] at h; subst h; rfl
      · cases h
    · cases h
  | ptr =>
    simp only [snap0] at h
    split at h
    · simp only [Option.some.injEq] at h; subst h; rfl
    · cases h
  | agg => cases h
  | tup => cases h
  | dead => cases h
  | mref => cases h
  | emp => simp only [snap0, Option.some.injEq] at h; subst h; rfl
  | fn => cases h
  | ifc => cases h

theorem snap_one {n : Nat} {H : List Blk} {lv : LV} {p : PV} (h : snap n H lv = some p) (h1 : lv.one = true) : p.one = true := by
  cases n with
  | zero => exact snap0_one h h1
  | succ n =>
    simp only [snap] at h
    split at h
    · split at h
      · simp only [Option.some.injEq] at h; subst h; rfl
      · simp only [Option.map_eq_some_iff] at h; obtain ⟨_, _, rfl⟩ := h; rfl
      · cases h
    · cases h1
    · simp only [Option.map_eq_some_iff] at h; obtain ⟨_, _, rfl⟩ := h; rfl
    · simp only [Option.map_eq_some_iff] at h; obtain ⟨_, _, rfl⟩ := h; rfl
    · exact snap0_one h h1

theorem snapPtr (hr : Rel G w0 β s acts a w) {b off : Nat} {cs : List PV} {v : Value} (hv : LR β s.H.length w (okOf w0 β s.H w) (.ptr b off) v) (hB : s.H[b]? = some (.p cs)) : Imm w (okArg w) (.ip true (PV.olds cs) off) v := by
  obtain ⟨vs, hvs⟩ := row_old hr hB rfl rfl
  cases hv with | ptr _ _ hb =>
  have := Imm.ip (w := w) (ok := okArg w) true (PV.olds cs) off (β b) 0 vs (fun i q hq => by
      obtain ⟨p, h1, rfl⟩ := olds_get hq
      rw [old_one]; exact (hvs _ p h1).1) (fun i hi => by
      rw [olds_length] at hi
      rw [Nat.zero_add]
      exact ⟨⟨rfl, hr.lt b _ hB rfl⟩, (hvs _ cs[i] (by simp [hi])).2.1⟩) (fun i q hq => by
      obtain ⟨p, h1, rfl⟩ := olds_get hq
      exact (hvs _ p h1).2.2)
  rw [Nat.zero_add] at this
  exact this

theorem snap0_sound (hr : Rel G w0 β s acts a w) {lv : LV} {v : Value} {p : PV} (hv : LR β s.H.length w (okOf w0 β s.H w) lv v) (h : snap0 s.H lv = some p) : Imm w (okArg w) p v := by
  cases lv with
  | pv q =>
    simp only [snap0, Option.some.injEq] at h; subst h
    cases hv with | pv hv => exact hv.toOld fun f b hb => ⟨rfl, hb.1⟩
  | ref b off len esz =>
    simp only [snap0] at h
    split at h
    · rename_i cs hcs
      simp only [Option.bind_eq_some_iff] at hcs
      obtain ⟨B, hB, hc⟩ := hcs
      have fin : ∀ sub : List PV, (∀ (i : Nat) p, sub[i]? = some p → cs[off + i]? = some p) → off + sub.length ≤ cs.length → (len = 0 → sub.length = 0) → Imm w (okArg w) (.sl true (PV.olds sub) len) v := fun sub h1 h2 h3 => by
        rcases sl_ref_form hv with ⟨cap, c, E, fz, rfl, _, _, hlc, _⟩ | ⟨rfl, _, off', rfl⟩
        · exact snap_row hr hB hc h1 h2 hlc
        · have e0 : sub = [] := List.eq_nil_of_length_eq_zero (h3 rfl)
          subst e0
          exact .slz _ _ _ _
      split at h
      · rename_i h0
        obtain ⟨rfl, h0⟩ := h0
        simp only [Option.some.injEq] at h; subst h
        exact fin cs (fun i p hi => by rw [Nat.zero_add]; exact hi) (by omega) (fun e => by subst e; simpa using h0.symm)
      · split at h
        · rename_i hle
          simp only [Option.some.injEq] at h; subst h
          exact fin _ (fun i p hi => get_take_drop hi) (by simp; omega) (fun e => by subst e; simp)
        · cases h
    · cases h
  | nref b len esz =>
    simp only [snap0] at h
    split at h
    · rename_i cs hB
      split at h
      · rename_i h0
        simp only [Option.some.injEq] at h; subst h
        cases hv with
        | nref0 _ _ a =>
          cases a with
          | none => exact .asl0 _ _
          | some a => exact .asl _ _ _ _ (.slz _ _ _ _)
        | nref _ _ _ _ hpos hv =>
          rcases sl_ref_form hv with ⟨cap, c, E, fz, rfl, _, _, hlc, _⟩ | ⟨rfl, _, off', rfl⟩
          · exact .asl _ _ _ _ (snap_row hr hB rfl (fun i p hi => by rw [Nat.zero_add]; exact hi) (by omega) hlc)
          · omega
      · cases h
    · cases h
  | ptr b off =>
    simp only [snap0] at h
    split at h
    · rename_i cs hB
      simp only [Option.some.injEq] at h; subst h
      exact snapPtr hr hv hB
    · cases h
  | agg => cases h
  | tup => cases h
  | dead => cases h
  | mref => cases h
  | emp =>
    simp only [snap0, Option.some.injEq] at h; subst h
    cases hv with | emp a => exact .slz _ _ _ _
  | fn => cases h
  | ifc => cases h

theorem snap_sound (hr : Rel G w0 β s acts a w) : ∀ (n : Nat) {lv : LV} {v : Value} {p : PV}, LR β s.H.length w (okOf w0 β s.H w) lv v → snap n s.H lv = some p → Imm w (okArg w) p v := by
  intro n
  induction n with
  | zero => intro lv v p hv h; exact snap0_sound hr hv h
  | succ n ih =>
    intro lv v p hv h
    have many : ∀ {l : List LV} {vs : Array Value} {ps : List PV}, l.length = vs.size → (∀ (i : Nat) p v, l[i]? = some p → vs[i]? = some v → LR β s.H.length w (okOf w0 β s.H w) p v) → mapO (snap n s.H) l = some ps →
        ps.length = vs.size ∧ ∀ (i : Nat) p v, ps[i]? = some p → vs[i]? = some v → Imm w (okArg w) p v := fun hl hv hs => by
      obtain ⟨h1, h2⟩ := mapO_get hs
      refine ⟨by omega, fun i p v hp hv' => ?_⟩
      obtain ⟨lv, h3, h4⟩ := h2 i p hp
      exact ih (hv i lv v h3 hv') h4
    simp only [snap] at h
    split at h
    · rename_i b off
      split at h
      · rename_i cs hB
        simp only [Option.some.injEq] at h; subst h
        exact snapPtr hr hv hB
      · rename_i cs hB
        simp only [Option.map_eq_some_iff] at h
        obtain ⟨ps, h1, rfl⟩ := h
        obtain ⟨vs, hvs⟩ := hr.cells hB rfl
        obtain ⟨h2, h3⟩ := mapO_get h1
        cases hv with | ptr _ _ hb =>
        have := Imm.ip (w := w) (ok := okArg w) true ps off (β b) 0 vs (fun i q hq => by
            obtain ⟨lv, h4, h5⟩ := h3 i q hq
            exact snap_one h5 ((hvs i (by have := (List.getElem?_eq_some_iff.1 h4).1; exact this)).2 lv h4).1) (fun i hi => by
            rw [Nat.zero_add]
            exact ⟨⟨rfl, hr.lt b _ hB rfl⟩, (hvs i (by simp only [Blk.len]; omega)).1⟩) (fun i q hq => by
            obtain ⟨lv, h4, h5⟩ := h3 i q hq
            exact ih ((hvs i (by have := (List.getElem?_eq_some_iff.1 h4).1; exact this)).2 lv h4).2 h5)
        rw [Nat.zero_add] at this
        exact this
      · cases h
    · simp only [Option.map_eq_some_iff] at h
      obtain ⟨ps, h1, rfl⟩ := h
      cases hv with | agg _ vs hl h0 hv =>
      obtain ⟨h2, h3⟩ := many hl hv h1
      obtain ⟨_, h4⟩ := mapO_get h1
      exact .agg ps vs h2 (fun i q hq => by
        obtain ⟨lv, h5, h6⟩ := h4 i q hq
        exact snap_one h6 (h0 i lv h5)) h3
    · simp only [Option.map_eq_some_iff] at h
      obtain ⟨ps, h1, rfl⟩ := h
      cases hv with | fn _ _ vs hl hv =>
      obtain ⟨h2, h3⟩ := many hl hv h1
      exact .fn _ ps vs h2 h3
    · simp only [Option.map_eq_some_iff] at h
      obtain ⟨q, h1, rfl⟩ := h
      cases hv with | ifc _ _ u hv => exact .ifc _ q u (ih hv h1)
    · exact snap0_sound hr hv h

/-- A call by a function's contract; the result's new blocks are the caller's. -/
theorem ACall.sum {f : FuncId} {args : List LV} {pvs : List PV} {Post : LV → List Blk → Prop} {K : LV → List Blk → Prop} (hs : Sum P G f pvs Post) (ha : mapO (snap 4 s.H) args = some pvs)
    (hK : ∀ lv H, Post lv H → K (lv.shift s.H.length) (s.H ++ H)) : ACall P G f args s K := by
  intro s1 w0 β acts a w vs e1 e2 hr hl hv
  rw [← e1] at ha hK hv
  obtain ⟨h1, h2⟩ := mapO_get ha
  refine (Runs.of hs.1 (hs.2 w vs hr.gok (by omega) fun i p v hp hvi => ?_)).mono ?_
  · obtain ⟨lv, h3, h4⟩ := h2 i p hp
    exact snap_sound hr 4 (hv i lv v h3 hvi) h4
  · rintro e w' ⟨v, lv, H, β0, rfl, h3, h4, h5⟩
    obtain ⟨h6, h7⟩ := hr.import h4
    exact ⟨v, _, _, _, rfl, hK lv H h3, h6, h7 lv v h5⟩

/-- A call by a function's contract; nobody writes to the result's new blocks any more. -/
theorem ACall.sumI {f : FuncId} {args : List LV} {pvs : List PV} {Post : LV → List Blk → Prop} {K : LV → List Blk → Prop} (hs : Sum P G f pvs Post) (ha : mapO (snap 4 s.H) args = some pvs)
    (hK : ∀ lv H, Post lv H → K (lv.toImm H) s.H) : ACall P G f args s K := by
  intro s1 w0 β acts a w vs e1 e2 hr hl hv
  rw [← e1] at ha hK hv
  obtain ⟨h1, h2⟩ := mapO_get ha
  refine (Runs.of hs.1 (hs.2 w vs hr.gok (by omega) fun i p v hp hvi => ?_)).mono ?_
  · obtain ⟨lv, h3, h4⟩ := h2 i p hp
    exact snap_sound hr 4 (hv i lv v h3 hvi) h4
  · rintro e w' ⟨v, lv, H, β0, rfl, h3, h4, h5⟩
    exact ⟨v, _, _, _, rfl, hK lv H h3, (hr.back h4).1, hr.backImm h4 h5⟩
end
end Hm
namespace Hm
open Go Go.RowKit

def idxO : List Nat → Nat → Option Nat
  | [], _ => none
  | x :: r, b => if x = b then some 0 else (idxO r b).map (· + 1)

theorem idxO_get : ∀ {π : List Nat} {b i : Nat}, idxO π b = some i → π[i]? = some b
  | [], b, i, h => by cases h
  | x :: r, b, i, h => by
    simp only [idxO] at h
    split at h
    · rename_i e; simp only [Option.some.injEq] at h; subst h; subst e; rfl
    · simp only [Option.map_eq_some_iff] at h
      obtain ⟨j, h1, rfl⟩ := h
      simpa using idxO_get h1

/-- The blocks get other names. -/
def LV.ren : Nat → (Nat → Option Nat) → LV → Option LV
  | 0, f, lv => match lv with
    | .pv p => some (.pv p)
    | .ref b off len esz => (f b).map fun b => .ref b off len esz
    | .nref b len esz => (f b).map fun b => .nref b len esz
    | .ptr b off => (f b).map fun b => .ptr b off
    | .dead => some .dead
    | .emp => some .emp
    | .mref b => (f b).map .mref
    | _ => none
  | n + 1, f, lv => match lv with
    | .pv p => some (.pv p)
    | .ref b off len esz => (f b).map fun b => .ref b off len esz
    | .nref b len esz => (f b).map fun b => .nref b len esz
    | .ptr b off => (f b).map fun b => .ptr b off
    | .dead => some .dead
    | .emp => some .emp
    | .mref b => (f b).map .mref
    | .agg cs => (mapO (LV.ren n f) cs).map .agg
    | .tup cs => (mapO (LV.ren n f) cs).map .tup
    | .fn g cs => (mapO (LV.ren n f) cs).map (.fn g)
    | .ifc t x => (LV.ren n f x).map (.ifc t)

theorem ren_one : ∀ {n : Nat} {f : Nat → Option Nat} {lv lv' : LV}, LV.ren n f lv = some lv' → lv'.one = lv.one := by
  intro n f lv lv' h
  cases n <;> cases lv <;> simp only [LV.ren, Option.map_eq_some_iff, Option.some.injEq, reduceCtorEq] at h <;>
    first
    | (subst h; rfl)
    | (obtain ⟨_, _, rfl⟩ := h; rfl)

section
variable {P : Program} {T : TypeId → Option TI} {G : Nat → Option (List PV)} {w0 : World} {β : Nat → Nat} {s : St} {acts : List Act} {a : Act} {w : World}

theorem ren_sound {f : Nat → Option Nat} {β' : Nat → Nat} {m m' : Nat} {ok ok' : Bool → Nat → Prop} (hf : ∀ b b', f b = some b' → b' < m' ∧ β' b' = β b) (hok : ∀ f b, ok f b → ok' f b) :
    ∀ (n : Nat) {lv lv' : LV} {v : Value}, LR β m w ok lv v → LV.ren n f lv = some lv' → LR β' m' w ok' lv' v := by
  have base : ∀ {lv lv' : LV} {v : Value}, LR β m w ok lv v → LV.ren 0 f lv = some lv' → LR β' m' w ok' lv' v := by
    intro lv lv' v hv h
    cases lv with
    | pv p =>
      simp only [LV.ren, Option.some.injEq] at h; subst h
      cases hv with | pv hv => exact .pv (hv.mono (fun _ _ _ => rfl) hok)
    | ref b off len esz =>
      simp only [LV.ren, Option.map_eq_some_iff] at h
      obtain ⟨b', h1, rfl⟩ := h
      obtain ⟨h2, h3⟩ := hf b b' h1
      cases hv with
      | ref _ _ _ _ cap c E fz hb hh hl hs => rw [← h3] at hh ⊢; exact .ref _ _ _ _ cap c E fz h2 hh hl hs
      | refz => exact .refz _ _ _ _ h2
    | nref b len esz =>
      simp only [LV.ren, Option.map_eq_some_iff] at h
      obtain ⟨b', h1, rfl⟩ := h
      obtain ⟨h2, h3⟩ := hf b b' h1
      cases hv with
      | nref0 => exact .nref0 _ _ _
      | nref _ _ _ _ h0 hv =>
        cases hv with
        | ref _ _ _ _ cap c E fz hb hh hl hs => rw [← h3] at hh ⊢; exact .nref _ _ _ _ h0 (.ref _ _ _ _ cap c E fz h2 hh hl hs)
        | refz => omega
    | ptr b off =>
      simp only [LV.ren, Option.map_eq_some_iff] at h
      obtain ⟨b', h1, rfl⟩ := h
      obtain ⟨h2, h3⟩ := hf b b' h1
      cases hv with | ptr => rw [← h3]; exact .ptr _ _ h2
    | dead => simp only [LV.ren, Option.some.injEq] at h; subst h; exact .dead _
    | emp =>
      simp only [LV.ren, Option.some.injEq] at h; subst h
      cases hv with | emp a => exact .emp a
    | mref b =>
      simp only [LV.ren, Option.map_eq_some_iff] at h
      obtain ⟨b', h1, rfl⟩ := h
      obtain ⟨h2, h3⟩ := hf b b' h1
      cases hv with | mref => rw [← h3]; exact .mref _ h2
    | _ => simp [LV.ren] at h
  intro n
  induction n with
  | zero => exact base
  | succ n ih =>
    intro lv lv' v hv h
    have many : ∀ {l : List LV} {vs : Array Value} {ps : List LV}, l.length = vs.size → (∀ (i : Nat) p v, l[i]? = some p → vs[i]? = some v → LR β m w ok p v) → mapO (LV.ren n f) l = some ps →
        ps.length = vs.size ∧ ∀ (i : Nat) p v, ps[i]? = some p → vs[i]? = some v → LR β' m' w ok' p v := fun hl hv hs => by
      obtain ⟨h1, h2⟩ := mapO_get hs
      refine ⟨by omega, fun i p v hp hv' => ?_⟩
      obtain ⟨lv, h3, h4⟩ := h2 i p hp
      exact ih (hv i lv v h3 hv') h4
    cases lv with
    | pv p => exact base hv (by simpa [LV.ren] using h)
    | ref => exact base hv (by simpa [LV.ren] using h)
    | nref => exact base hv (by simpa [LV.ren] using h)
    | ptr => exact base hv (by simpa [LV.ren] using h)
    | dead => exact base hv (by simpa [LV.ren] using h)
    | emp => exact base hv (by simpa [LV.ren] using h)
    | mref => exact base hv (by simpa [LV.ren] using h)
    | agg cs =>
      simp only [LV.ren, Option.map_eq_some_iff] at h
      obtain ⟨ps, h1, rfl⟩ := h
      cases hv with | agg _ vs hl h0 hv =>
      obtain ⟨h2, h3⟩ := many hl hv h1
      obtain ⟨_, h4⟩ := mapO_get h1
      exact .agg ps vs h2 (fun i q hq => by
        obtain ⟨lv, h5, h6⟩ := h4 i q hq
        rw [ren_one h6]; exact h0 i lv h5) h3
    | tup cs =>
      simp only [LV.ren, Option.map_eq_some_iff] at h
      obtain ⟨ps, h1, rfl⟩ := h
      cases hv with | tup _ vs hl hv =>
      obtain ⟨h2, h3⟩ := many hl hv h1
      exact .tup ps vs h2 h3
    | fn g cs =>
      simp only [LV.ren, Option.map_eq_some_iff] at h
      obtain ⟨ps, h1, rfl⟩ := h
      cases hv with | fn _ _ vs hl hv =>
      obtain ⟨h2, h3⟩ := many hl hv h1
      exact .fn _ ps vs h2 h3
    | ifc t x =>
      simp only [LV.ren, Option.map_eq_some_iff] at h
      obtain ⟨q, h1, rfl⟩ := h
      cases hv with | ifc _ _ u hv => exact .ifc _ q u (ih hv h1)

def Blk.ren (f : Nat → Option Nat) : Blk → Option Blk
  | .p cs => some (.p cs)
  | .n cs => some (.n cs)
  | .l cs => (mapO (LV.ren 3 f) cs).map .l
  | .m kvs => some (.m kvs)
  | .gone => some .gone

theorem Blk.ren_live {f : Nat → Option Nat} {B B' : Blk} (h : B.ren f = some B') : B'.live = B.live := by
  cases B <;> simp only [Blk.ren, Option.some.injEq, Option.map_eq_some_iff] at h
  · subst h; rfl
  · subst h; rfl
  · obtain ⟨_, _, rfl⟩ := h; rfl
  · subst h; rfl
  · subst h; rfl

def nodupB : List Nat → Bool
  | [] => true
  | x :: r => !(r.contains x) && nodupB r

theorem nodupB_inj : ∀ {π : List Nat}, nodupB π = true → ∀ {i j b : Nat}, π[i]? = some b → π[j]? = some b → i = j
  | [], _, i, j, b, h, _ => by simp at h
  | x :: r, hn, i, j, b, hi, hj => by
    simp only [nodupB, Bool.and_eq_true, Bool.not_eq_true', List.contains_eq_mem, decide_eq_false_iff_not] at hn
    cases i with
    | zero =>
      cases j with
      | zero => rfl
      | succ j => simp at hi hj; subst hi; exact absurd (List.mem_of_getElem? hj) hn.1
    | succ i =>
      cases j with
      | zero => simp at hi hj; subst hj; exact absurd (List.mem_of_getElem? hi) hn.1
      | succ j => exact congrArg (· + 1) (nodupB_inj hn.2 (b := b) (by simpa using hi) (by simpa using hj))

/-- What is told of a state from here on: the slots 'live', and the blocks π, which get new names. -/
def St.norm (live π : List Nat) (s : St) : Option St :=
  if nodupB π = true then
    match mapO (fun t => (LV.ren 3 (idxO π) (slot s.fr t)).map fun x => (t, x)) live, mapO (fun b => (s.H[b]?).bind (Blk.ren (idxO π))) π with
    | some fr, some H => some { s with fr, H }
    | _, _ => none
  else none

theorem lookup_mapO {f : Nat → Option LV} : ∀ {live : List Nat} {fr : List (Nat × LV)}, mapO (fun t => (f t).map fun x => (t, x)) live = some fr → ∀ t lv, fr.lookup t = some lv → f t = some lv
  | [], fr, h, t, lv, hl => by simp [mapO] at h; subst h; cases hl
  | x :: r, fr, h, t, lv, hl => by
    simp only [mapO] at h
    split at h
    · rename_i p ps h1 h2
      simp only [Option.some.injEq] at h
      subst h
      simp only [Option.map_eq_some_iff] at h1
      obtain ⟨y, h3, rfl⟩ := h1
      simp only [List.lookup_cons] at hl
      by_cases e : t = x
      · subst e; simp at hl; subst hl; exact h3
      · have e' : (t == x) = false := by simpa using e
        rw [e'] at hl
        exact lookup_mapO h2 t lv hl
    · cases h

/-- The callers' blocks keep their numbers. -/
def upB (up : List (Nat × List (Nat × LV))) (π : List Nat) : Bool := up.all fun f => decide (π.take f.1 = List.range f.1)
theorem upB_get {up : List (Nat × List (Nat × LV))} {π : List Nat} (h : upB up π = true) {i : Nat} {f : Nat × List (Nat × LV)} (hf : up[i]? = some f) : f.1 ≤ π.length ∧ ∀ j, j < f.1 → π[j]? = some j := by
  have h1 := List.all_eq_true.1 h f (List.mem_of_getElem? hf)
  have h2 : π.take f.1 = List.range f.1 := of_decide_eq_true h1
  have h3 := congrArg List.length h2
  simp only [List.length_take, List.length_range] at h3
  refine ⟨by omega, fun j hj => ?_⟩
  have h4 : (π.take f.1)[j]? = some j := by rw [h2, List.getElem?_range hj]
  rwa [List.getElem?_take_of_lt hj] at h4
theorem St.norm_weak {live π : List Nat} {s s' : St} (hup : upB s.up π = true) (h : s.norm live π = some s') : Weak G s s' := by
  unfold St.norm at h
  split at h
  · rename_i hn
    split at h
    · rename_i fr H hfr hH
      simp only [Option.some.injEq] at h
      subst h
      intro w0 β acts a w hr
      obtain ⟨hHl, hHg⟩ := mapO_get hH
      have hidx : ∀ b b', idxO π b = some b' → b' < H.length ∧ β (π.getD b' 0) = β b := fun b b' h => by
        have h1 := idxO_get h
        exact ⟨by have := (List.getElem?_eq_some_iff.1 h1).1; omega, by simp [h1]⟩
      have hH1 : ∀ (i : Nat) (B' : Blk), H[i]? = some B' → ∃ b B, π[i]? = some b ∧ s.H[b]? = some B ∧ B.ren (idxO π) = some B' ∧ π.getD i 0 = b := fun i B' hi => by
        obtain ⟨b, h1, h2⟩ := hHg i B' hi
        simp only [Option.bind_eq_some_iff] at h2
        obtain ⟨B, h3, h4⟩ := h2
        exact ⟨b, B, h1, h3, h4, by simp [h1]⟩
      have hok : ∀ f b, okOf w0 β s.H w f b → okOf w0 (fun i => β (π.getD i 0)) H w f b := fun f b hb => ⟨hb.1, hb.2.1, fun i B' hi hl => by
        obtain ⟨b0, B, h1, h2, h3, h4⟩ := hH1 i B' hi
        show β (π.getD i 0) ≠ b
        rw [h4]
        exact hb.2.2 b0 B h2 (by rw [← Blk.ren_live h3]; exact hl)⟩
      have hren : ∀ {lv lv' : LV} {v : Value}, LR β s.H.length w (okOf w0 β s.H w) lv v → LV.ren 3 (idxO π) lv = some lv' → LR (fun i => β (π.getD i 0)) H.length w (okOf w0 (fun i => β (π.getD i 0)) H w) lv' v := fun hv h => ren_sound hidx hok 3 hv h
      refine ⟨fun i => β (π.getD i 0), hr.below, hr.nodef, hr.sz, ?_, ?_, ?_, ?_, ?_, ?_, hr.gl⟩
      · intro i B' hi hl
        obtain ⟨b0, B, h1, h2, h3, h4⟩ := hH1 i B' hi
        show w0.heap.size ≤ β (π.getD i 0)
        rw [h4]; exact hr.ge b0 B h2 (by rw [← Blk.ren_live h3]; exact hl)
      · intro i B' hi hl
        obtain ⟨b0, B, h1, h2, h3, h4⟩ := hH1 i B' hi
        show β (π.getD i 0) < w.heap.size
        rw [h4]; exact hr.lt b0 B h2 (by rw [← Blk.ren_live h3]; exact hl)
      · intro i j B' C' hi hl hj hl' he
        obtain ⟨b0, B, h1, h2, h3, h4⟩ := hH1 i B' hi
        obtain ⟨c0, C, h5, h6, h7, h8⟩ := hH1 j C' hj
        have he' : β (π.getD i 0) = β (π.getD j 0) := he
        rw [h4, h8] at he'
        have := hr.inj b0 c0 B C h2 (by rw [← Blk.ren_live h3]; exact hl) h6 (by rw [← Blk.ren_live h7]; exact hl') he'
        subst this
        exact nodupB_inj hn h1 h5
      · intro i B' hi hl
        obtain ⟨b0, B, h1, h2, h3, h4⟩ := hH1 i B' hi
        have hlB : B.live = true := by rw [← Blk.ren_live h3]; exact hl
        by_cases hmap : ∃ kvs, B = .m kvs
        · obtain ⟨kvs, rfl⟩ := hmap
          simp only [Blk.ren, Option.some.injEq] at h3
          subst h3
          refine (hr.blk b0 _ h2 hlB).transM ?_ fun p v h => h.mono (fun _ _ _ => rfl) hok
          show w.heap[β (π.getD i 0)]? = _
          rw [h4]
        have hR : B.isRow = true := by
          cases B <;> first | rfl | exact absurd ⟨_, rfl⟩ hmap
        have hR' : B'.isRow = true := by
          cases B <;> simp only [Blk.ren, Option.some.injEq, Option.map_eq_some_iff] at h3
          · subst h3; rfl
          · subst h3; rfl
          · obtain ⟨ps, _, rfl⟩ := h3; rfl
          · cases hR
          · subst h3; rfl
        obtain ⟨c, E, fz, h5, h6, h7, h8⟩ := (hr.blk b0 B h2 hlB).row hR
        have hlen : B'.len = B.len := by
          cases B <;> simp only [Blk.ren, Option.some.injEq, Option.map_eq_some_iff] at h3
          · subst h3; rfl
          · subst h3; rfl
          · obtain ⟨ps, h9, rfl⟩ := h3; exact (mapO_get h9).1
          · cases hR
          · subst h3; rfl
        refine BlkRow.rel (hB := hR') ⟨c, E, fz, ?_, h6, by rw [hlen]; exact h7, fun j lv' hj => ?_⟩
        · show w.heap[β (π.getD i 0)]? = _
          rw [h4]; exact h5
        · have : ∃ lv, B.get j = some lv ∧ LV.ren 3 (idxO π) lv = some lv' := by
            cases B <;> simp only [Blk.ren, Option.some.injEq, Option.map_eq_some_iff] at h3
            · subst h3
              refine ⟨lv', hj, ?_⟩
              simp only [Blk.get, Option.map_eq_some_iff] at hj
              obtain ⟨p, _, rfl⟩ := hj
              rfl
            · subst h3
              refine ⟨lv', hj, ?_⟩
              simp only [Blk.get, Option.map_eq_some_iff] at hj
              obtain ⟨p, _, rfl⟩ := hj
              rfl
            · obtain ⟨ps, h9, rfl⟩ := h3
              exact (mapO_get h9).2 j lv' hj
            · cases hR
            · subst h3; cases hj
          obtain ⟨lv, h9, h10⟩ := this
          obtain ⟨h11, v, h12, h13⟩ := h8 j lv h9
          exact ⟨by rw [ren_one h10]; exact h11, v, h12, hren h13 h10⟩
      · intro t lv' hl
        have := lookup_mapO (f := fun t => LV.ren 3 (idxO π) (slot s.fr t)) hfr t lv' hl
        exact hren (hr.slot t) this
      · intro i f hf
        obtain ⟨h1, act, h2, h3⟩ := hr.up i f hf
        obtain ⟨h4, h5⟩ := upB_get hup hf
        refine ⟨by rw [hHl]; exact h4, act, h2, fun t lv hl => (h3 t lv hl).mono (Nat.le_refl _) (fun j hj => ?_) (fun _ c _ fz h => ⟨c, fz, h, rfl⟩) (fun _ _ _ => rfl) hok⟩
        simp [h5 j hj]
    · cases h
  · cases h

/-- A nil slice is nothing that was appended to yet. -/
def St.nilRef (t esz : Nat) (s : St) : St := { s with fr := (t, .nref s.H.length 0 esz) :: s.fr, H := s.H ++ [.n []] }

theorem St.nilRef_weak {t esz : Nat} {s : St} (h : slot s.fr t = .pv .nil) : Weak G s (s.nilRef t esz) := by
  intro w0 β acts a w hr
  obtain ⟨h1, h2⟩ := hr.addDead (B := Blk.n []) rfl
  refine ⟨β, h1.below, h1.nodef, h1.sz, h1.ge, h1.lt, h1.inj, h1.blk, ?_, h1.up, h1.gl⟩
  intro t' lv' hl
  simp only [St.nilRef, List.lookup_cons] at hl
  by_cases e : t' = t
  · subst e
    simp at hl
    subst hl
    have h3 := hr.slot t'
    rw [h] at h3
    cases h3 with | pv h3 =>
    generalize a.tmps.getD t' undef = z at h3
    cases h3
    exact .nref0 _ _ _
  · have e' : (t' == t) = false := by simpa using e
    rw [e'] at hl
    exact h1.fr t' lv' hl

/-! ### A function's body -/
def enumL : Nat → List PV → List (Nat × LV)
  | _, [] => []
  | k, p :: r => (k, .pv p) :: enumL (k + 1) r

def entry (n : Nat) (args : List PV) : St := { n := n, fr := enumL 0 args, H := [], up := [] }

theorem enumL_get : ∀ {l : List PV} {k t : Nat} {lv : LV}, (enumL k l).lookup t = some lv → ∃ p, lv = .pv p ∧ k ≤ t ∧ l[t - k]? = some p
  | [], k, t, lv, h => by cases h
  | p :: r, k, t, lv, h => by
    simp only [enumL, List.lookup_cons] at h
    by_cases e : t = k
    · subst e; simp at h; subst h; exact ⟨p, rfl, Nat.le_refl _, by simp⟩
    · have e' : (t == k) = false := by simpa using e
      rw [e'] at h
      obtain ⟨q, h1, h2, h3⟩ := enumL_get h
      refine ⟨q, h1, by omega, ?_⟩
      rw [show t - k = (t - (k + 1)) + 1 by omega, List.getElem?_cons_succ]
      exact h3

def resP (T : TypeId → Option TI) (s : St) : ResultVar → Option LV
  | .tmp t => some (slot s.fr t)
  | .cell a t => loadP T s t (slot s.fr a)

def retLV : List LV → LV
  | [x] => x
  | l => .tup l

def allP {α : Type} (f : α → Prop) : List α → Prop
  | [] => True
  | x :: r => f x ∧ allP f r

theorem allP_get {α : Type} {f : α → Prop} : ∀ {l : List α}, allP f l → ∀ {i : Nat} {x : α}, l[i]? = some x → f x
  | [], _, i, x, h => by simp at h
  | y :: r, hp, i, x, h => by
    cases i with
    | zero => simp at h; subst h; exact hp.1
    | succ i => exact allP_get hp.2 (by simpa using h)

def LV.freshP : Nat → LV → Prop
  | 0, lv => match lv with
    | .pv p => p.fresh = true
    | .ref _ _ _ _ => True
    | .nref _ _ _ => True
    | .ptr _ _ => True
    | .dead => True
    | .emp => True
    | .mref _ => True
    | _ => False
  | n + 1, lv => match lv with
    | .pv p => p.fresh = true
    | .ref _ _ _ _ => True
    | .nref _ _ _ => True
    | .ptr _ _ => True
    | .dead => True
    | .emp => True
    | .mref _ => True
    | .agg cs => allP (LV.freshP n) cs
    | .tup cs => allP (LV.freshP n) cs
    | .fn _ cs => allP (LV.freshP n) cs
    | .ifc _ x => LV.freshP n x

theorem freshP_sound {m : Nat} {ok ok' : Bool → Nat → Prop} (ho : ∀ b, ok false b → ok' false b) : ∀ (n : Nat) {lv : LV} {v : Value}, LR β m w ok lv v → lv.freshP n → LR β m w ok' lv v := by
  have base : ∀ {lv : LV} {v : Value}, LR β m w ok lv v → lv.freshP 0 → LR β m w ok' lv v := by
    intro lv v hv h
    induction hv with
    | pv hv => exact .pv (hv.toFresh ho h)
    | ref b off len esz cap c E fz hb hh hl hs => exact .ref b off len esz cap c E fz hb hh hl hs
    | refz b off esz off' hb => exact .refz b off esz off' hb
    | nref0 b esz a => exact .nref0 b esz a
    | nref b len esz v h0 h' ih => exact .nref b len esz v h0 (ih trivial)
    | ptr b off hb => exact .ptr b off hb
    | dead v => exact .dead v
    | emp a => exact .emp a
    | mref b hb => exact .mref b hb
    | _ => exact h.elim
  intro n
  induction n with
  | zero => exact base
  | succ n ih =>
    intro lv v hv h
    cases hv with
    | pv hv => exact .pv (hv.toFresh ho h)
    | ref b off len esz cap c E fz hb hh hl hs => exact .ref b off len esz cap c E fz hb hh hl hs
    | refz b off esz off' hb => exact .refz b off esz off' hb
    | nref0 b esz a => exact .nref0 b esz a
    | nref b len esz v h0 h' => exact base (.nref b len esz v h0 h') trivial
    | ptr b off hb => exact .ptr b off hb
    | dead v => exact .dead v
    | emp a => exact .emp a
    | mref b hb => exact .mref b hb
    | agg cs vs hl h1 hv => exact .agg cs vs hl h1 fun i p v hp hv' => ih (hv i p v hp hv') (allP_get h hp)
    | tup cs vs hl hv => exact .tup cs vs hl fun i p v hp hv' => ih (hv i p v hp hv') (allP_get h hp)
    | fn f cs vs hl hv => exact .fn f cs vs hl fun i p v hp hv' => ih (hv i p v hp hv') (allP_get h hp)
    | ifc t p v hv => exact .ifc t p v (ih hv h)

/-- What a function hands back: the result, and those of its blocks to which it leads. -/
def RetK (T : TypeId → Option TI) (s : St) (rs : List ResultVar) (Post : LV → List Blk → Prop) : Prop :=
  bindK (mapO (resP T s) rs) fun lvs => ∃ π, nodupB π = true ∧ bindK (mapO (fun b => (s.H[b]?).bind fun B => match B.cells? with | some cs => if PV.freshs cs = true then some B else none | none => none) π) fun H =>
    bindK (LV.ren 3 (idxO π) (retLV lvs)) fun lv => lv.freshP 3 ∧ Post lv H

theorem run_results (hT : TOk P T) (hr : Rel G w0 β s acts a w) {fn : Func} {lvs : List LV} (h : mapO (resP T s) fn.results.toList = some lvs) :
    ∃ v, (results fn a.tmps).run P w = .ok v w ∧ LR β s.H.length w (okOf w0 β s.H w) (retLV lvs) v := by
  have key : ∀ (l : List ResultVar) (lvs : List LV), mapO (resP T s) l = some lvs → ∃ vs : List Value, (l.mapM (fun
      | .tmp t => pure (a.tmps.getD t undef)
      | .cell c t => do loadVar t (← asAddr (a.tmps.getD c undef)) : ResultVar → Sem Value)).run P w = .ok vs w ∧ lvs.length = vs.length ∧ ∀ (i : Nat) lv v, lvs[i]? = some lv → vs[i]? = some v → LR β s.H.length w (okOf w0 β s.H w) lv v := by
    intro l
    induction l with
    | nil => intro lvs h; simp [mapO] at h; subst h; exact ⟨[], rfl, rfl, by simp⟩
    | cons x r ih =>
      intro lvs h
      simp only [mapO] at h
      split at h
      · rename_i p ps h1 h2
        simp only [Option.some.injEq] at h
        subst h
        obtain ⟨vs, h3, h4, h5⟩ := ih ps h2
        have hx : ∃ v, ((match x with
            | .tmp t => pure (a.tmps.getD t undef)
            | .cell c t => do loadVar t (← asAddr (a.tmps.getD c undef))) : Sem Value).run P w = .ok v w ∧ LR β s.H.length w (okOf w0 β s.H w) p v := by
          cases x with
          | tmp t => simp only [resP, Option.some.injEq] at h1; subst h1; exact ⟨_, rfl, hr.slot t⟩
          | cell c t =>
            simp only [resP] at h1
            obtain ⟨v, h6, h7⟩ := loadP_sound hT hr (hr.slot c) h1
            refine ⟨v, ?_, h7⟩
            simp only [Instr.loadAt, Sem.run_bind] at h6
            simp only [Sem.run_bind]
            generalize a.tmps.getD c undef = z at h6 ⊢
            cases z <;> first
              | (simp [Instr.sureAddr] at h6; done)
              | skip
            rename_i ad
            cases ad with
            | none => simp [Instr.sureAddr] at h6
            | some ad => simpa [Instr.sureAddr, asAddr] using h6
        obtain ⟨v, h6, h7⟩ := hx
        refine ⟨v :: vs, by simp only [List.mapM_cons, Sem.run_bind, h6, Result.andThen_ok, h3, Sem.run_pure], by simp [h4], fun i lv u h8 h9 => ?_⟩
        cases i with
        | zero => simp at h8 h9; subst h8; subst h9; exact h7
        | succ i => exact h5 i lv u (by simpa using h8) (by simpa using h9)
      · cases h
  obtain ⟨vs, h1, h2, h3⟩ := key _ _ h
  have h4 : (results fn a.tmps).run P w = .ok (if h : vs.toArray.size = 1 then vs.toArray[0] else .tuple vs.toArray) w := by
    simp only [results, Array.mapM_eq_mapM_toList, Sem.run_bind, Sem.run_map, Sem.run_pure]
    erw [h1]
    rfl
  refine ⟨_, h4, ?_⟩
  clear h4 h1 h key
  match lvs, vs, h2, h3 with
  | [], [], _, _ => exact .tup [] #[] rfl (by simp)
  | [x], [v], _, h3 => exact h3 0 x v rfl rfl
  | x :: y :: r, u :: v :: q, hl, h3 =>
    have : ¬ ((u :: v :: q).toArray.size = 1) := by simp
    rw [dif_neg this]
    exact .tup _ _ (by simpa using hl) (fun i p v hp hv => h3 i p v hp (by simpa using hv))

/-- A function's contract, out of a walk through its body. -/
theorem Sum.of_body (hT : TOk P T) {f : FuncId} {fn : Func} {c : Code} (hf : P.funcs[f]? = some fn) (hb : fn.body = some c) (hname : (fn.name == "runtime.NumGoroutine") = false) {args : List PV} {Post : LV → List Blk → Prop} (hn : args.length ≤ fn.ntmps)
    (h : AWp P G c (fun e s => (e = .ret ∨ e = .normal) ∧ RetK T s fn.results.toList Post) (entry fn.ntmps args)) : Sum P G f args Post := by
  refine ⟨⟨fn, hf, by rw [hb]; rfl, hname⟩, fun w vs hg hl hv => ?_⟩
  refine calls_of_wp hf hb ?_
  have hr : Rel G w (fun _ => 0) (entry fn.ntmps args) [] { tmps := vs.toArray ++ Array.replicate (fn.ntmps - vs.toArray.size) undef, defers := [] } w := by
    refine ⟨Below.refl _ _, rfl, by simp [entry]; omega, by simp [entry], by simp [entry], by simp [entry], by simp [entry], ?_, by simp [entry], hg⟩
    intro t lv hlk
    obtain ⟨p, rfl, _, h2⟩ := enumL_get hlk
    simp only [Nat.sub_zero] at h2
    have ht : t < vs.length := by have := (List.getElem?_eq_some_iff.1 h2).1; omega
    have h3 := hv t p vs[t] h2 (by simp [ht])
    have h4 : (vs.toArray ++ Array.replicate (fn.ntmps - vs.toArray.size) undef).getD t undef = vs[t] := by
      have h5 : t < (vs.toArray ++ Array.replicate (fn.ntmps - vs.toArray.size) undef).size := by simp; omega
      simp only [Array.getD, h5, dite_true]
      rw [Array.getInternal_eq_getElem, Array.getElem_append_left (by simpa using ht)]
      simp
    rw [h4]
    exact .pv (h3.mono (fun _ _ _ => rfl) (fun f b hb => ⟨hb.2, (fun e => by rw [hb.1] at e; cases e), by simp [entry]⟩))
  refine wp_mono (h w _ [] _ w hr) ?_
  rintro e a' w' ⟨s', β', ⟨he, hret⟩, hr'⟩
  obtain ⟨lvs, h1, π, hn2, H, h2, lv, h3, h4, h5⟩ := hret
  obtain ⟨v, h6, h7⟩ := run_results hT hr' h1
  obtain ⟨hHl, hHg⟩ := mapO_get h2
  have hH1 : ∀ (i : Nat) (B : Blk), H[i]? = some B → ∃ b, π[i]? = some b ∧ s'.H[b]? = some B ∧ (∃ cs, B.cells? = some cs ∧ PV.freshs cs = true) ∧ π.getD i 0 = b := fun i B hi => by
    obtain ⟨b, h8, h9⟩ := hHg i B hi
    simp only [Option.bind_eq_some_iff] at h9
    obtain ⟨C, h10, h11⟩ := h9
    split at h11
    · rename_i cs hcs
      split at h11
      · rename_i hfr
        simp only [Option.some.injEq] at h11
        subst h11
        exact ⟨b, h8, h10, ⟨cs, hcs, hfr⟩, by simp [h8]⟩
      · cases h11
    · cases h11
  have hidx : ∀ b b', idxO π b = some b' → b' < H.length ∧ β' (π.getD b' 0) = β' b := fun b b' h => by
    have h1 := idxO_get h
    exact ⟨by have := (List.getElem?_eq_some_iff.1 h1).1; omega, by simp [h1]⟩
  have hok : ∀ f b, okOf w β' s'.H w' f b → okOf w (fun i => β' (π.getD i 0)) H w' f b := fun f b hb => ⟨hb.1, hb.2.1, fun i B hi hl => by
    obtain ⟨b0, h8, h9, _, h10⟩ := hH1 i B hi
    show β' (π.getD i 0) ≠ b
    rw [h10]
    exact hb.2.2 b0 B h9 hl⟩
  have hfr : ∀ b, okOf w (fun i => β' (π.getD i 0)) H w' false b → okFr w (fun i => β' (π.getD i 0)) H w' false b := fun b hb => ⟨rfl, hb⟩
  have hLR : LR (fun i => β' (π.getD i 0)) H.length w' (okFr w (fun i => β' (π.getD i 0)) H w') lv v := freshP_sound hfr 3 (ren_sound hidx hok 3 h7 h3) h4
  have hpack : Pack w w' H (fun i => β' (π.getD i 0)) := by
    refine ⟨hr'.below, fun i B hi hl => ?_, fun i B hi hl => ?_, fun i B hi hl => ?_, fun i j B C hi hl hj hl' he => ?_, fun i B hi hl => ?_⟩
    · obtain ⟨b0, h8, h9, ⟨cs, h10, _⟩, _⟩ := hH1 i B hi
      rw [h10]; rfl
    · obtain ⟨b0, h8, h9, _, h10⟩ := hH1 i B hi
      show w.heap.size ≤ β' (π.getD i 0)
      rw [h10]; exact hr'.ge b0 B h9 hl
    · obtain ⟨b0, h8, h9, _, h10⟩ := hH1 i B hi
      show β' (π.getD i 0) < w'.heap.size
      rw [h10]; exact hr'.lt b0 B h9 hl
    · obtain ⟨b0, h8, h9, _, h10⟩ := hH1 i B hi
      obtain ⟨c0, h11, h12, _, h13⟩ := hH1 j C hj
      have he' : β' (π.getD i 0) = β' (π.getD j 0) := he
      rw [h10, h13] at he'
      have := hr'.inj b0 c0 B C h9 hl h12 hl' he'
      subst this
      exact nodupB_inj hn2 h8 h11
    · obtain ⟨b0, h8, h9, ⟨cs, h10, h11⟩, h12⟩ := hH1 i B hi
      have hR : B.isRow = true := by cases B <;> first | rfl | cases h10
      obtain ⟨c, E, fz, h13, h14, h15, h16⟩ := (hr'.blk b0 B h9 hl).row hR
      refine BlkRow.rel (hB := hR) ⟨c, E, fz, by (show w'.heap[β' (π.getD i 0)]? = _); rw [h12]; exact h13, h14, h15, fun j lv hj => ?_⟩
      obtain ⟨h17, u, h18, h19⟩ := h16 j lv hj
      have : ∃ p, lv = .pv p ∧ cs[j]? = some p := by
        cases B <;> simp [Blk.cells?] at h10 <;> subst h10 <;> simp only [Blk.get, Option.map_eq_some_iff] at hj <;> obtain ⟨p, h20, rfl⟩ := hj <;> exact ⟨p, rfl, h20⟩
      obtain ⟨p, rfl, h20⟩ := this
      cases h19 with | pv h19 =>
      refine ⟨h17, u, h18, .pv ?_⟩
      exact (h19.mono (fun _ _ _ => rfl) hok).toFresh hfr (freshs_get h11 h20)
  rcases he with rfl | rfl
  · exact ⟨hr'.nodef, v, h6, v, lv, H, _, rfl, h5, hpack, hLR⟩
  · exact ⟨hr'.nodef, v, h6, v, lv, H, _, rfl, h5, hpack, hLR⟩
end
end Hm
namespace Hm
open Go

theorem TOk1.of {P : Program} {t : TypeId} {i : TI} {z : Value} {vs : List Value} (hu : P.underlying t = some i.und) (hm : (P.info? t).map (fun x => (x.zero, x.size, x.bytes)) = some (some z, i.size, i.bytes))
    (hf : i.zero.mapM PV.flat = some vs) (hz : z = (if isAggD i.und then .agg vs.toArray else vs.headD undef)) (hl : vs.length = i.size) (h1 : isAggD i.und = false → i.size = 1) (hp : 0 < i.size) (he : i.eqok = true → P.stoodInHeld t = false ∧ P.eqGuardType P.depth t = false ∧ ∀ fs, i.und = .struct fs → ∀ f ∈ fs.toList, f.name ≠ "_") : TOk1 P t i := by
  refine ⟨hu, ?_, he⟩
  cases h : P.info? t with
  | none => rw [h] at hm; cases hm
  | some inf =>
    rw [h] at hm
    simp only [Option.map_some, Option.some.injEq, Prod.mk.injEq] at hm
    exact ⟨inf, z, vs, rfl, hm.2.1, hm.2.2, hm.1, hf, hz, hl, h1, hp⟩

/-! ### The rules by which a walk on states without memory is computed -/
attribute [go_sem] bindK_some bindK_none bindK_map bindK_ite stepOp callK dstOk St.put guardVal gv isShift
attribute [go_sem] rowOf LV.fz LV.fzR mapFz fzRs killL frzB frzH leavesF leavesT leavesT.zerosL' eqL pagg isConst eqNil isIfD isPtD binP
attribute [go_sem] mapUpdP lookupP mapP sameP findP keyD zeroP List.headD_cons
attribute [go_sem] opF opP storeP buildP buildSliceP makeSliceP appendP convBytesP copyP srcP srcZ loadP fieldOf fieldAddrP fieldP elemSize indexAddrP indexP bnd sliceP slice3P lenP capP unP convP pickLV minP
attribute [go_sem] blkOf pcells lcells mkAgg mkBlk LV.toPV isAggD isSrcD Blk.rd prd lrd Blk.len Blk.live Blk.cells? placeS places fillParts fillA zerosL
attribute [go_sem] St.ev ofConst pbin pint pstr pshift
attribute [go_sem] entry enumL resP retLV mapO nodupB idxO allP Blk.ren St.nilRef
attribute [go_sem] LV.toImm LV.toImms LV.shift LV.shifts
attribute [go_sem] true_and and_true if_true if_false decide_eq_true_eq reduceCtorEq Option.map_some Option.map_none Option.bind_some Option.bind_none Option.some.injEq ne_eq not_true_eq_false not_false_eq_true forall_const List.map_cons List.map_nil List.length_cons List.length_nil List.append_nil List.nil_append List.cons_append
attribute [go_sem] List.getElem?_cons_zero List.getElem?_cons_succ List.getElem?_nil List.getElem?_toArray exists_eq_left' exists_eq_left false_and and_false forall_eq false_implies implies_true decide_eq_false_iff_not Classical.not_not Nat.not_lt Nat.not_le Bool.false_eq_true Bool.not_true Bool.not_false decide_true decide_false

@[go_sem] theorem putA_nil {α : Type} (cs : List α) (off : Nat) : putA cs off [] = cs.take off ++ [] ++ cs.drop (off + 0) := rfl
@[go_sem] theorem putA_one {α : Type} (cs : List α) (off : Nat) (x : α) : putA cs off [x] = cs.set off x := rfl
@[go_sem] theorem putA_two {α : Type} (cs : List α) (off : Nat) (x y : α) (r : List α) : putA cs off (x :: y :: r) = cs.take off ++ (x :: y :: r) ++ cs.drop (off + (x :: y :: r).length) := rfl
@[go_sem] theorem guardK_tt (X Y : Prop) : guardK true true X Y = X := by simp [guardK]
@[go_sem] theorem guardK_ff (X Y : Prop) : guardK false false X Y = X := by simp [guardK]
@[go_sem] theorem guardK_tf (X Y : Prop) : guardK true false X Y = Y := by simp [guardK]
@[go_sem] theorem guardK_ft (X Y : Prop) : guardK false true X Y = Y := by simp [guardK]
theorem guardK_split {b want : Bool} {X Y : Prop} (h1 : b = true → if want = true then X else Y) (h2 : b = false → if want = true then Y else X) : guardK b want X Y := ⟨h1, h2⟩

/-- How a body may end. -/
def BodyPost (T : TypeId → Option TI) (rs : List ResultVar) (Post : LV → List Blk → Prop) (e : Exit) (s : St) : Prop := (e = .ret ∨ e = .normal) ∧ RetK T s rs Post
/-- The same, with the blocks that are handed back. -/
def RetP (T : TypeId → Option TI) (s : St) (rs : List ResultVar) (π : List Nat) (Post : LV → List Blk → Prop) : Prop :=
  bindK (mapO (resP T s) rs) fun lvs => nodupB π = true ∧ bindK (mapO (fun b => (s.H[b]?).bind fun B => match B.cells? with | some cs => if PV.freshs cs = true then some B else none | none => none) π) fun H =>
    bindK (LV.ren 3 (idxO π) (retLV lvs)) fun lv => lv.freshP 3 ∧ Post lv H
theorem RetP.out {T : TypeId → Option TI} {s : St} {rs : List ResultVar} {π : List Nat} {Post : LV → List Blk → Prop} (h : RetP T s rs π Post) : RetK T s rs Post :=
  let ⟨lvs, h1, h2, h3⟩ := h
  ⟨lvs, h1, π, h2, h3⟩
theorem BodyPost.ret {T : TypeId → Option TI} {s : St} {rs : List ResultVar} {Post : LV → List Blk → Prop} (π : List Nat) (h : RetP T s rs π Post) : BodyPost T rs Post .ret s := ⟨.inl rfl, h.out⟩
attribute [go_sem] RetP

theorem ren_pv (n : Nat) (f : Nat → Option Nat) (p : PV) : LV.ren n f (.pv p) = some (.pv p) := by cases n <;> rfl
theorem ren_ref (n : Nat) (f : Nat → Option Nat) (b off len esz : Nat) : LV.ren n f (.ref b off len esz) = (f b).map fun b => .ref b off len esz := by cases n <;> rfl
theorem ren_nref (n : Nat) (f : Nat → Option Nat) (b len esz : Nat) : LV.ren n f (.nref b len esz) = (f b).map fun b => .nref b len esz := by cases n <;> rfl
theorem ren_ptr (n : Nat) (f : Nat → Option Nat) (b off : Nat) : LV.ren n f (.ptr b off) = (f b).map fun b => .ptr b off := by cases n <;> rfl
theorem ren_dead (n : Nat) (f : Nat → Option Nat) : LV.ren n f .dead = some .dead := by cases n <;> rfl
theorem ren_agg (n : Nat) (f : Nat → Option Nat) (cs : List LV) : LV.ren (n + 1) f (.agg cs) = (mapO (LV.ren n f) cs).map .agg := rfl
theorem ren_tup (n : Nat) (f : Nat → Option Nat) (cs : List LV) : LV.ren (n + 1) f (.tup cs) = (mapO (LV.ren n f) cs).map .tup := rfl
theorem ren_fn (n : Nat) (f : Nat → Option Nat) (g : FuncId) (cs : List LV) : LV.ren (n + 1) f (.fn g cs) = (mapO (LV.ren n f) cs).map (.fn g) := rfl
theorem ren_ifc (n : Nat) (f : Nat → Option Nat) (t : TypeId) (x : LV) : LV.ren (n + 1) f (.ifc t x) = (LV.ren n f x).map (.ifc t) := rfl
theorem fr_pv (n : Nat) (p : PV) : LV.freshP n (.pv p) = (p.fresh = true) := by cases n <;> rfl
theorem fr_ref (n b off len esz : Nat) : LV.freshP n (.ref b off len esz) = True := by cases n <;> rfl
theorem fr_nref (n b len esz : Nat) : LV.freshP n (.nref b len esz) = True := by cases n <;> rfl
theorem fr_ptr (n b off : Nat) : LV.freshP n (.ptr b off) = True := by cases n <;> rfl
theorem fr_dead (n : Nat) : LV.freshP n .dead = True := by cases n <;> rfl
theorem fr_agg (n : Nat) (cs : List LV) : LV.freshP (n + 1) (.agg cs) = allP (LV.freshP n) cs := rfl
theorem fr_tup (n : Nat) (cs : List LV) : LV.freshP (n + 1) (.tup cs) = allP (LV.freshP n) cs := rfl
theorem snap_pv (n : Nat) (H : List Blk) (p : PV) : snap n H (.pv p) = some p.old := by cases n <;> rfl
theorem snap_ref (n : Nat) (H : List Blk) (b off len esz : Nat) : snap n H (.ref b off len esz) = snap0 H (.ref b off len esz) := by cases n <;> rfl
theorem snap_nref (n : Nat) (H : List Blk) (b len esz : Nat) : snap n H (.nref b len esz) = snap0 H (.nref b len esz) := by cases n <;> rfl
theorem snap_ptr (n : Nat) (H : List Blk) (b off : Nat) : snap (n + 1) H (.ptr b off) = match H[b]? with
      | some (.p cs) => some (.ip true (PV.olds cs) off)
      | some (.l cs) => (mapO (snap n H) cs).map fun ps => .ip true ps off
      | _ => none := rfl
theorem snap_agg (n : Nat) (H : List Blk) (cs : List LV) : snap (n + 1) H (.agg cs) = (mapO (snap n H) cs).map .agg := rfl
theorem snap_fn (n : Nat) (H : List Blk) (f : FuncId) (cs : List LV) : snap (n + 1) H (.fn f cs) = (mapO (snap n H) cs).map (.fn f) := rfl
theorem snap_ifc (n : Nat) (H : List Blk) (t : TypeId) (x : LV) : snap (n + 1) H (.ifc t x) = (snap n H x).map (.ifc t) := rfl
attribute [go_sem] ren_pv ren_ref ren_nref ren_ptr ren_dead ren_agg ren_tup ren_fn ren_ifc fr_pv fr_ref fr_nref fr_ptr fr_dead fr_agg fr_tup snap_pv snap_ref snap_nref snap_ptr snap_agg snap_fn snap_ifc snap0
attribute [go_sem] PV.old PV.fresh

theorem old_int (k : IntKind) (n : Int) : (PV.int k n).old = .int k n := rfl
theorem olds_ints (k : IntKind) (l : List Int) : PV.olds (l.map (PV.int k)) = l.map (PV.int k) := by rw [olds_eq, List.map_map]; rfl
theorem olds_nil : PV.olds [] = [] := rfl
theorem olds_cons (p : PV) (r : List PV) : PV.olds (p :: r) = p.old :: PV.olds r := rfl
theorem freshs_ints (k : IntKind) (l : List Int) : PV.freshs (l.map (PV.int k)) = true := by rw [freshs_eq]; simp [PV.fresh]
theorem freshs_nil : PV.freshs [] = true := rfl
theorem freshs_cons (p : PV) (r : List PV) : PV.freshs (p :: r) = (p.fresh && PV.freshs r) := rfl
attribute [go_sem] olds_ints olds_nil olds_cons freshs_ints freshs_nil freshs_cons Bool.and_true Bool.true_and Bool.and_self

@[congr] theorem AThen_congr {next : St → Prop} {Q : Exit → St → Prop} {e e' : Exit} {s s' : St} (h : e = e') (k : s = s') : AThen next Q e s = AThen next Q e' s' := by rw [h, k]
@[congr] theorem AInBlock_congr {id : Nat} {Q : Exit → St → Prop} {e e' : Exit} {s s' : St} (h : e = e') (k : s = s') : AInBlock id Q e s = AInBlock id Q e' s' := by rw [h, k]
@[congr] theorem BodyPost_congr {T : TypeId → Option TI} {rs : List ResultVar} {Post : LV → List Blk → Prop} {e e' : Exit} {s s' : St} (h : e = e') (k : s = s') : BodyPost T rs Post e s = BodyPost T rs Post e' s' := by rw [h, k]
@[go_sem] theorem AThen_normal (next : St → Prop) (Q : Exit → St → Prop) (s : St) : AThen next Q .normal s = next s := rfl
@[go_sem] theorem AThen_ret (next : St → Prop) (Q : Exit → St → Prop) (s : St) : AThen next Q .ret s = Q .ret s := rfl
@[go_sem] theorem AThen_exit (next : St → Prop) (Q : Exit → St → Prop) (id : Nat) (s : St) : AThen next Q (.exit id) s = Q (.exit id) s := rfl
@[go_sem] theorem AInBlock_normal (id : Nat) (Q : Exit → St → Prop) (s : St) : AInBlock id Q .normal s = Q .normal s := rfl
@[go_sem] theorem AInBlock_ret (id : Nat) (Q : Exit → St → Prop) (s : St) : AInBlock id Q .ret s = Q .ret s := rfl
@[go_sem] theorem AInBlock_exit (id id' : Nat) (Q : Exit → St → Prop) (s : St) : AInBlock id Q (.exit id') s = if id' = id then Q .normal s else Q (.exit id') s := rfl

theorem Sum.body {P : Program} {T : TypeId → Option TI} {G : Nat → Option (List PV)} (hT : TOk P T) {f : FuncId} {fn : Func} {c : Code} {n : Nat} {rs : Array ResultVar} (hf : P.funcs[f]? = some fn) (hb : fn.body = some c) (hname : (fn.name == "runtime.NumGoroutine") = false)
    {args : List PV} {Post : LV → List Blk → Prop} (hn : fn.ntmps = n) (hr : fn.results = rs) (hle : args.length ≤ n) (h : AWp P G c (BodyPost T rs.toList Post) (entry n args)) : Sum P G f args Post := by
  subst hn
  subst hr
  exact Sum.of_body hT hf hb hname hle h

@[congr] theorem bindK_congr {α : Type} {o o' : Option α} {K : α → Prop} (h : o = o') : bindK o K = bindK o' K := by rw [h]
@[congr] theorem ACall_congr {P : Program} {G : Nat → Option (List PV)} {f : FuncId} {args args' : List LV} {s : St} {K : LV → List Blk → Prop} (h : args = args') : ACall P G f args s K = ACall P G f args' s K := by rw [h]
@[congr] theorem AWp_congr {P : Program} {G : Nat → Option (List PV)} {c : Code} {Q : Exit → St → Prop} {s s' : St} (h : s = s') : AWp P G c Q s = AWp P G c Q s' := by rw [h]
@[congr] theorem runOps_congr {P : Program} {T : TypeId → Option TI} {G : Nat → Option (List PV)} {ds : List (Option Nat)} {l : List Oper} {s s' : St} {K : St → Prop} (h : s = s') : runOps P T G ds l s K = runOps P T G ds l s' K := by rw [h]

@[go_sem] theorem slot_nil (t : Nat) : slot [] t = .dead := rfl
@[go_sem] theorem slot_cons (d t : Nat) (lv : LV) (fr : List (Nat × LV)) : slot ((d, lv) :: fr) t = if t = d then lv else slot fr t := by
  unfold slot
  simp only [List.lookup_cons]
  by_cases h : t = d
  · subst h; simp
  · have : (t == d) = false := by simpa using h
    simp [this, h]
/-- The one result. -/
def Is (x : LV) (H : List Blk) (lv : LV) (H' : List Blk) : Prop := lv = x ∧ H' = H
@[go_sem] theorem Is_iff (x : LV) (H : List Blk) (lv : LV) (H' : List Blk) : Is x H lv H' ↔ (lv = x ∧ H' = H) := Iff.rfl
theorem ACall.is {P : Program} {G : Nat → Option (List PV)} {s : St} {f : FuncId} {args : List LV} {pvs : List PV} {x : LV} {H : List Blk} {K : LV → List Blk → Prop} (hs : Sum P G f pvs (Is x H)) (ha : mapO (snap 4 s.H) args = some pvs)
    (hK : K (x.shift s.H.length) (s.H ++ H)) : ACall P G f args s K :=
  ACall.sum hs ha (by rintro _ _ ⟨rfl, rfl⟩; exact hK)
theorem ACall.isI {P : Program} {G : Nat → Option (List PV)} {s : St} {f : FuncId} {args : List LV} {pvs : List PV} {x : LV} {H : List Blk} {K : LV → List Blk → Prop} (hs : Sum P G f pvs (Is x H)) (ha : mapO (snap 4 s.H) args = some pvs)
    (hK : K (x.toImm H) s.H) : ACall P G f args s K :=
  ACall.sumI hs ha (by rintro _ _ ⟨rfl, rfl⟩; exact hK)
attribute [go_sem] bne_iff_ne beq_iff_eq bne_eq_false_iff_eq beq_eq_false_iff_ne ge_iff_le gt_iff_lt
attribute [go_sem] Int.cast_ofNat_Int Int.toNat_natCast Nat.zero_add Nat.add_zero Nat.mul_one Nat.one_mul Nat.zero_mul Nat.mul_zero and_imp Int.natCast_nonneg
@[go_sem] theorem upB_nil (π : List Nat) : upB [] π = true := rfl
/-- A loop whose heads look alike. -/
theorem AWp.loopN {P : Program} {G : Nat → Option (List PV)} {c : Code} {Q : Exit → St → Prop} {s : St} {α : Type} (live π : List Nat) (st : α → St) (J : α → Prop) (μ : α → Nat) (x0 : α) (hup : upB s.up π = true)
    (h0 : J x0 ∧ bindK (s.norm live π) fun t => t = st x0) (round : ∀ x, J x → AWp P G c (AThen (fun s' => upB s'.up π = true ∧ ∃ x', J x' ∧ μ x' < μ x ∧ bindK (s'.norm live π) fun t => t = st x') Q) (st x)) : AWp P G (.loop c) Q s := by
  obtain ⟨hJ, t, h1, rfl⟩ := h0
  refine AWp.weak (St.norm_weak hup h1) ?_
  refine AWp.loop (fun g s => ∃ x, J x ∧ μ x = g ∧ s = st x) (μ x0) ⟨x0, hJ, rfl, rfl⟩ ?_
  rintro g s ⟨x, hx, rfl, rfl⟩
  refine AWp.mono ?_ (round x hx)
  intro e s' h
  cases e with
  | normal =>
    obtain ⟨hu, x', h2, h3, t, h4, rfl⟩ := h
    exact ⟨μ x', h3, _, St.norm_weak hu h4, x', h2, rfl, rfl⟩
  | _ => exact h
attribute [go_sem] St.norm List.contains_cons List.contains_nil Bool.or_false Bool.or_true Bool.false_or Bool.true_or
end Hm
namespace Hm
open Go

theorem bindK_iteN {α : Type} (c : Prop) {_ : Decidable c} (x : Option α) (K : α → Prop) : bindK (if c then none else x) K = (¬c ∧ bindK x K) := by
  by_cases h : c <;> simp [bindK, h]
theorem wrap_i64 {n : Int} (h : -9223372036854775808 ≤ n) (h' : n ≤ 9223372036854775807) : IntKind.i64.wrap n = n := by
  simp [IntKind.wrap, IntKind.bits, IntKind.signed]
  split <;> omega
theorem wrap_i32 {n : Int} (h : -2147483648 ≤ n) (h' : n ≤ 2147483647) : IntKind.i32.wrap n = n := by
  simp [IntKind.wrap, IntKind.bits, IntKind.signed]
  split <;> omega
theorem wrap_u8 (n : Int) : IntKind.u8.wrap n = n % 256 := by
  simp [IntKind.wrap, IntKind.bits, IntKind.signed]
theorem wrap_u16 (n : Int) : IntKind.u16.wrap n = n % 65536 := by
  simp [IntKind.wrap, IntKind.bits, IntKind.signed]
theorem wrap_u32 (n : Int) : IntKind.u32.wrap n = n % 4294967296 := by
  simp [IntKind.wrap, IntKind.bits, IntKind.signed]
theorem wrap_u64 (n : Int) : IntKind.u64.wrap n = n % 18446744073709551616 := by
  simp [IntKind.wrap, IntKind.bits, IntKind.signed]
attribute [go_sem] List.length_map List.length_set List.length_replicate List.length_append List.length_take List.length_drop List.length_range List.set_cons_zero List.set_cons_succ bindK_iteN wrap_u8 wrap_u16 wrap_u32 wrap_u64
end Hm
namespace Hm
open Go Go.RowKit

theorem opF_H {T : TypeId → Option TI} {s s' : St} {ev : Operand → LV} {op : Op} (hH : s.H = s'.H) : opF T s ev op = opF T s' ev op := by
  obtain ⟨n, fr, H, up⟩ := s
  obtain ⟨n', fr', H', up'⟩ := s'
  cases hH
  rfl
theorem map_congr {ev ev' : Operand → LV} {l : List Operand} (h : ∀ x ∈ l, ev x = ev' x) : l.map ev = l.map ev' := List.map_congr_left h
theorem opP_congr {T : TypeId → Option TI} {s : St} {ev ev' : Operand → LV} {op : Op} (h : ∀ x ∈ op.operands, ev x = ev' x) : opP T s ev op = opP T s ev' op := by
  cases op with
  | makeFunc f first captured =>
    cases f with
    | func f =>
      have : captured.toList.map ev = captured.toList.map ev' := map_congr fun x hx => h x (by simp [Op.operands]; exact .inr (by simpa using hx))
      simp only [opP, this]
    | _ => rfl
  | slice t x lo hi m =>
    have h1 : ev x = ev' x := h x (by simp [Op.operands])
    have h2 : lo.map ev = lo.map ev' := by cases lo <;> simp; exact h _ (by simp [Op.operands])
    have h3 : hi.map ev = hi.map ev' := by cases hi <;> simp; exact h _ (by simp [Op.operands])
    cases m with
    | none => simp [opP, h1, h2, h3]
    | some m =>
      have h4 : ev m = ev' m := h _ (by simp [Op.operands])
      cases lo <;> cases hi <;> simp_all [opP]
  | call c =>
    obtain ⟨callee, args, ts⟩ := c
    cases callee with
    | builtin b =>
      have h1 : ∀ x ∈ args.toList, ev x = ev' x := fun x hx => h x (by simp [Op.operands, Call.operands]; simpa using hx)
      have h2 := map_congr h1
      have h3 : ∀ x, args[0]? = some x → ev x = ev' x := fun x hx => h1 x (by rw [← Array.getElem?_toList] at hx; exact List.mem_of_getElem? hx)
      cases b <;> simp only [opP, h2]
      all_goals
        cases ha : args[0]? with
        | none => rfl
        | some x => cases ht : ts[0]? with
          | none => rfl
          | some t => simp only [h3 x ha]
    | _ => rfl
  | _ => first | rfl | (simp [Op.operands] at h; simp [opP, h])
theorem opF_congr {T : TypeId → Option TI} {s s' : St} {ev ev' : Operand → LV} {op : Op} (hH : s.H = s'.H) (h : ∀ x ∈ op.operands, ev x = ev' x) : opF T s ev op = opF T s' ev' op := by
  rw [opF_H hH]
  have hp := opP_congr (T := T) (s := s') h
  cases op with
  | call c =>
    obtain ⟨callee, args, ts⟩ := c
    cases callee with
    | builtin b =>
      have h1 : ∀ x ∈ args.toList, ev x = ev' x := fun x hx => h x (by simp [Op.operands, Call.operands]; simpa using hx)
      cases b with
      | append =>
        simp only [opF]
        cases ha : args.toList with
        | nil => rfl
        | cons x r => cases r with
          | nil => rfl
          | cons y r => cases r with
            | nil =>
              rw [ha] at h1
              have e1 := h1 x (by simp)
              have e2 := h1 y (by simp)
              cases ts.toList with
              | nil => rfl
              | cons t r => cases r with
                | nil => rfl
                | cons t2 r => cases r <;> simp only [e1, e2]
            | cons => rfl
      | copy =>
        simp only [opF]
        cases ha : args.toList with
        | nil => rfl
        | cons x r => cases r with
          | nil => rfl
          | cons y r => cases r with
            | nil =>
              rw [ha] at h1
              have e1 := h1 x (by simp)
              have e2 := h1 y (by simp)
              cases ts.toList with
              | nil => rfl
              | cons t r => simp only [e1, e2]
            | cons => rfl
      | _ => simp only [opF, hp]
    | _ => simp only [opF, hp]
  | build t ps =>
    have : ps.toList.map (fun p => (p.1, ev p.2)) = ps.toList.map (fun p => (p.1, ev' p.2)) := List.map_congr_left fun p hp => by
      rw [h p.2 (by simp [Op.operands]; exact ⟨p.1, by simpa using hp⟩)]
    simp only [opF, this]
  | buildSlice t len ps =>
    have : ps.toList.map (fun p => (p.1, ev p.2)) = ps.toList.map (fun p => (p.1, ev' p.2)) := List.map_congr_left fun p hp => by
      rw [h p.2 (by simp [Op.operands]; exact ⟨p.1, by simpa using hp⟩)]
    simp only [opF, this]
  | convert a b x =>
    have h1 : ev x = ev' x := h x (by simp [Op.operands])
    simp only [opF, h1]
  | box t x =>
    have h1 : ev x = ev' x := h x (by simp [Op.operands])
    simp only [opF, h1]
  | makeSlice t x y =>
    have h1 : ev x = ev' x := h x (by simp [Op.operands])
    have h2 : ev y = ev' y := h y (by simp [Op.operands])
    simp only [opF, h1, h2]
  | alloc => rfl
  | makeMap t r => cases r <;> simp only [opF, hp]
  | _ => simp only [opF, hp]

section
variable (P : Program) (T : TypeId → Option TI) (G : Nat → Option (List PV)) (ds : List (Option Nat))
def stepV (o : Oper) (s : St) (K : LV → List Blk → Prop) : Prop :=
  match o.op with
  | .store t x v => bindK (storeP T s t (s.ev G x) (s.ev G v)) fun H' => K .dead H'
  | .mapUpdate t m k v => bindK (mapUpdP T s t (s.ev G m) (s.ev G k) (s.ev G v)) fun H' => K .dead H'
  | .insert t m k v => bindK (mapUpdP T s t (s.ev G m) (s.ev G k) (s.ev G v)) fun H' => K .dead H'
  | .call { callee := .value f, args := args, argTypes := _ } => callK P G (s.ev G f) (args.toList.map (s.ev G)) s K
  | op => bindK (opF T s (s.ev G) op) fun r => K r.1 r.2
def stepGV (o : Oper) (s : St) (K : LV → List Blk → Prop) : Prop :=
  match o.guard with
  | none => stepV P T G o s K
  | some (j, want) => bindK (guardVal ds s j want) fun b => guardK b want (stepV P T G o s K) (K (.tup []) s.H)
def stepG (o : Oper) (s : St) (K : St → Prop) : Prop := dstOk o.dst s.n ∧ stepGV P T G ds o s fun lv H' => K ({ s with H := H' }.put o.dst lv)
/-- Its value, where it changes nothing. -/
def valG (o : Oper) (s : St) (lv : LV) : Prop :=
  match o.guard with
  | none => opF T s (s.ev G) o.op = some (lv, s.H)
  | some (j, want) => bindK (guardVal ds s j want) fun b => guardK b want (opF T s (s.ev G) o.op = some (lv, s.H)) (lv = .tup [])
/-- The same value whatever else was done, as long as S holds. -/
def Yst (S : List Blk → Prop) (o : Oper) (s : St) (lv : LV) : Prop := dstOk o.dst s.n ∧ ∀ H', S H' → valG T G ds o { s with H := H' } lv
end

section
variable {P : Program} {T : TypeId → Option TI} {G : Nat → Option (List PV)} {ds : List (Option Nat)}

theorem stepOp_iff {o : Oper} {s : St} {K : St → Prop} : stepOp P T G o s K ↔ (dstOk o.dst s.n ∧ stepV P T G o s fun lv H' => K ({ s with H := H' }.put o.dst lv)) := by
  obtain ⟨dst, op, type, pos, after, guard⟩ := o
  cases op with
  | call c =>
    obtain ⟨callee, args, ts⟩ := c
    cases callee <;> exact Iff.rfl
  | _ => exact Iff.rfl

/-- Two states that an operation cannot tell apart. -/
structure Agr (G : Nat → Option (List PV)) (ds : List (Option Nat)) (o : Oper) (s s' : St) : Prop where
  H : s.H = s'.H
  up : s.up = s'.up
  n : s.n = s'.n
  ev : ∀ x ∈ o.op.operands, s.ev G x = s'.ev G x
  gd : ∀ j want, o.guard = some (j, want) → guardVal ds s j want = guardVal ds s' j want

theorem ACall.agr {f : FuncId} {args : List LV} {s s' : St} {K : LV → List Blk → Prop} (hH : s.H = s'.H) (hup : s.up = s'.up) (h : ACall P G f args s K) : ACall P G f args s' K := by
  exact fun s1 w0 β acts a w vs e1 e2 hr hl hv => h s1 w0 β acts a w vs (by rw [hH]; exact e1) (by rw [hup]; exact e2) hr hl (by rw [hH]; exact hv)
theorem callK.agr {f : LV} {args : List LV} {s s' : St} {K : LV → List Blk → Prop} (hH : s.H = s'.H) (hup : s.up = s'.up) (h : callK P G f args s K) : callK P G f args s' K := by
  unfold callK at *
  split at h
  · exact h.agr hH hup
  · exact h.agr hH hup
  · exact h.elim
theorem stepV_agr {o : Oper} {s s' : St} {K : LV → List Blk → Prop} (ha : Agr G ds o s s') (h : stepV P T G o s K) : stepV P T G o s' K := by
  have hF := opF_congr (T := T) ha.H ha.ev
  have hev := ha.ev
  obtain ⟨dst, op, type, pos, after, guard⟩ := o
  cases op with
  | call c =>
    obtain ⟨callee, args, ts⟩ := c
    cases callee with
    | value f =>
      have h1 : s.ev G f = s'.ev G f := hev f (by simp [Op.operands, Call.operands])
      have h2 : args.toList.map (s.ev G) = args.toList.map (s'.ev G) := map_congr fun x hx => hev x (by simp [Op.operands, Call.operands]; exact .inr (by simpa using hx))
      simp only [stepV] at h ⊢
      rw [← h1, ← h2]
      exact h.agr ha.H ha.up
    | _ => simp only [stepV] at h ⊢; rw [← hF]; exact h
  | store t x v =>
    have h1 : s.ev G x = s'.ev G x := hev x (by simp [Op.operands])
    have h2 : s.ev G v = s'.ev G v := hev v (by simp [Op.operands])
    simp only [stepV] at h ⊢
    rw [← h1, ← h2]
    have : storeP T s t (s.ev G x) (s.ev G v) = storeP T s' t (s.ev G x) (s.ev G v) := by unfold storeP; rw [ha.H]
    rw [← this]
    exact h
  | mapUpdate t m k v =>
    have h1 : s.ev G m = s'.ev G m := hev m (by simp [Op.operands])
    have h2 : s.ev G k = s'.ev G k := hev k (by simp [Op.operands])
    have h3 : s.ev G v = s'.ev G v := hev v (by simp [Op.operands])
    simp only [stepV] at h ⊢
    rw [← h1, ← h2, ← h3]
    have : mapUpdP T s t (s.ev G m) (s.ev G k) (s.ev G v) = mapUpdP T s' t (s.ev G m) (s.ev G k) (s.ev G v) := by unfold mapUpdP; rw [ha.H]
    rw [← this]
    exact h
  | insert t m k v =>
    have h1 : s.ev G m = s'.ev G m := hev m (by simp [Op.operands])
    have h2 : s.ev G k = s'.ev G k := hev k (by simp [Op.operands])
    have h3 : s.ev G v = s'.ev G v := hev v (by simp [Op.operands])
    simp only [stepV] at h ⊢
    rw [← h1, ← h2, ← h3]
    have : mapUpdP T s t (s.ev G m) (s.ev G k) (s.ev G v) = mapUpdP T s' t (s.ev G m) (s.ev G k) (s.ev G v) := by unfold mapUpdP; rw [ha.H]
    rw [← this]
    exact h
  | _ => simp only [stepV] at h ⊢; rw [← hF]; exact h
theorem stepGV_agr {o : Oper} {s s' : St} {K : LV → List Blk → Prop} (ha : Agr G ds o s s') (h : stepGV P T G ds o s K) : stepGV P T G ds o s' K := by
  unfold stepGV at *
  cases hg : o.guard with
  | none => rw [hg] at h; exact stepV_agr ha h
  | some g =>
    obtain ⟨j, want⟩ := g
    rw [hg] at h
    simp only at h ⊢
    rw [← ha.gd j want hg]
    obtain ⟨b, h1, h2, h3⟩ := h
    refine ⟨b, h1, fun e => ?_, fun e => ?_⟩
    · have := h2 e
      split at this
      · rw [if_pos ‹_›]; exact stepV_agr ha this
      · rw [if_neg ‹_›, ← ha.H]; exact this
    · have := h3 e
      split at this
      · rw [if_pos ‹_›, ← ha.H]; exact this
      · rw [if_neg ‹_›]; exact stepV_agr ha this
theorem stepV_mono {o : Oper} {s : St} {K K' : LV → List Blk → Prop} (hK : ∀ lv H, K lv H → K' lv H) (h : stepV P T G o s K) : stepV P T G o s K' := by
  have bm : ∀ {α : Type} {x : Option α} {A B : α → Prop}, (∀ y, A y → B y) → bindK x A → bindK x B := fun hAB ⟨y, h1, h2⟩ => ⟨y, h1, hAB y h2⟩
  have am : ∀ {f : FuncId} {args : List LV}, ACall P G f args s K → ACall P G f args s K' := fun h =>
    fun s1 w0 β acts a w vs e1 e2 hr hl hv => (h s1 w0 β acts a w vs e1 e2 hr hl hv).mono fun _ _ ⟨v, lv, H', β', h1, h2, h3⟩ => ⟨v, lv, H', β', h1, hK _ _ h2, h3⟩
  unfold stepV at *
  split at h
  · exact bm (fun _ => hK _ _) h
  · exact bm (fun _ => hK _ _) h
  · exact bm (fun _ => hK _ _) h
  · unfold callK at *
    split at h
    · exact am h
    · exact am h
    · exact h.elim
  · exact bm (fun _ => hK _ _) h
theorem stepGV_mono {o : Oper} {s : St} {K K' : LV → List Blk → Prop} (hK : ∀ lv H, K lv H → K' lv H) (h : stepGV P T G ds o s K) : stepGV P T G ds o s K' := by
  unfold stepGV at *
  split at h
  · exact stepV_mono hK h
  · obtain ⟨b, h1, h2, h3⟩ := h
    refine ⟨b, h1, fun e => ?_, fun e => ?_⟩
    · have := h2 e
      split at this
      · rw [if_pos ‹_›]; exact stepV_mono hK this
      · rw [if_neg ‹_›]; exact hK _ _ this
    · have := h3 e
      split at this
      · rw [if_pos ‹_›]; exact hK _ _ this
      · rw [if_neg ‹_›]; exact stepV_mono hK this
theorem valG_agr {o : Oper} {s s' : St} {lv : LV} (ha : Agr G ds o s s') (h : valG T G ds o s lv) : valG T G ds o s' lv := by
  have hF := opF_congr (T := T) ha.H ha.ev
  unfold valG at *
  cases hg : o.guard with
  | none => rw [hg] at h; simp only at h ⊢; rw [← hF, ← ha.H]; exact h
  | some g =>
    obtain ⟨j, want⟩ := g
    rw [hg] at h
    simp only at h ⊢
    rw [← ha.gd j want hg, ← hF, ← ha.H]
    exact h
end
end Hm
namespace Hm
open Go Go.RowKit

def SEq (s s' : St) : Prop := s.n = s'.n ∧ s.H = s'.H ∧ s.up = s'.up ∧ ∀ t, slot s.fr t = slot s'.fr t

theorem slot_put (s : St) (d : Option Nat) (lv : LV) (t : Nat) : slot (s.put d lv).fr t = if d = some t then lv else slot s.fr t := by
  cases d with
  | none => simp [St.put]
  | some d => simp only [St.put, slot_cons, Option.some.injEq]; by_cases h : t = d <;> simp [h, eq_comm]
theorem put_n (s : St) (d : Option Nat) (lv : LV) : (s.put d lv).n = s.n := by cases d <;> rfl
theorem put_H (s : St) (d : Option Nat) (lv : LV) : (s.put d lv).H = s.H := by cases d <;> rfl
theorem put_up (s : St) (d : Option Nat) (lv : LV) : (s.put d lv).up = s.up := by cases d <;> rfl

theorem SEq.refl (s : St) : SEq s s := ⟨rfl, rfl, rfl, fun _ => rfl⟩
theorem SEq.symm {s s' : St} (h : SEq s s') : SEq s' s := ⟨h.1.symm, h.2.1.symm, h.2.2.1.symm, fun t => (h.2.2.2 t).symm⟩
theorem SEq.trans {s s' s'' : St} (h : SEq s s') (k : SEq s' s'') : SEq s s'' := ⟨h.1.trans k.1, h.2.1.trans k.2.1, h.2.2.1.trans k.2.2.1, fun t => (h.2.2.2 t).trans (k.2.2.2 t)⟩
theorem SEq.put {s s' : St} (h : SEq s s') (d : Option Nat) (lv : LV) : SEq (s.put d lv) (s'.put d lv) :=
  ⟨by rw [put_n, put_n]; exact h.1, by rw [put_H, put_H]; exact h.2.1, by rw [put_up, put_up]; exact h.2.2.1, fun t => by rw [slot_put, slot_put, h.2.2.2 t]⟩
theorem SEq.withH {s s' : St} (h : SEq s s') (H' : List Blk) : SEq { s with H := H' } { s' with H := H' } := ⟨h.1, rfl, h.2.2.1, h.2.2.2⟩
theorem SEq.comm (s : St) {d e : Option Nat} (x y : LV) (h : ∀ t, d = some t → e ≠ some t) : SEq ((s.put d x).put e y) ((s.put e y).put d x) :=
  ⟨by simp only [put_n], by simp only [put_H], by simp only [put_up], fun t => by
    simp only [slot_put]
    by_cases h1 : d = some t
    · have := h t h1
      simp [h1, this]
    · by_cases h2 : e = some t <;> simp [h1, h2]⟩
theorem SEq.putH (s : St) (d : Option Nat) (x : LV) (H' : List Blk) : SEq { (s.put d x) with H := H' } ({ s with H := H' }.put d x) := by
  cases d <;> exact ⟨rfl, rfl, rfl, fun _ => rfl⟩

section
theorem guardK_in {b want : Bool} {X Y : Prop} (h1 : b = want → X) (h2 : b ≠ want → Y) : guardK b want X Y := by
  cases b <;> cases want <;> simp_all [guardK]

variable {P : Program} {T : TypeId → Option TI} {G : Nat → Option (List PV)} {ds : List (Option Nat)} {w0 : World} {acts : List Act} {ops : Array Oper}

theorem Rel.seq {β : Nat → Nat} {s s' : St} {a : Act} {w : World} (hr : Rel G w0 β s acts a w) (h : SEq s s') : Rel G w0 β s' acts a w := by
  obtain ⟨h1, h2, h3, h4⟩ := h
  refine ⟨hr.below, hr.nodef, by rw [← h1]; exact hr.sz, by rw [← h2]; exact hr.ge, by rw [← h2]; exact hr.lt, by rw [← h2]; exact hr.inj, by rw [← h2]; exact hr.blk, fun t lv hl => ?_, by rw [← h2, ← h3]; exact hr.up, hr.gl⟩
  have e : Hm.slot s'.fr t = lv := by simp [Hm.slot, hl]
  rw [← h2, ← e, ← h4 t]
  exact hr.slot t

theorem ev_seq {s s' : St} (h : ∀ t, slot s.fr t = slot s'.fr t) (x : Operand) : s.ev G x = s'.ev G x := by cases x <;> simp [St.ev, h]
theorem Agr.seq {o : Oper} {s s' : St} (h : SEq s s') : Agr G ds o s s' :=
  ⟨h.2.1, h.2.2.1, h.1, fun x _ => ev_seq h.2.2.2 x, fun j want _ => by unfold guardVal; split <;> simp [h.2.2.2]⟩

theorem looks_op {o : Oper} {t : Nat} (h : Operand.tmp t ∈ o.op.operands) : t ∈ o.looksAt ops := by
  unfold Oper.looksAt
  rw [List.mem_append]
  left
  rw [List.mem_filterMap]
  exact ⟨.tmp t, by simpa using h, rfl⟩

/-- What an operation does not look at makes no difference to it. -/
theorem Agr.put (hds : ops.toList.map (·.dst) = ds) {o : Oper} (s : St) {d : Option Nat} (x : LV) (h : ∀ t, d = some t → t ∉ o.looksAt ops) : Agr G ds o (s.put d x) s := by
  refine ⟨put_H .., put_up .., put_n .., fun y hy => ?_, fun j want hg => ?_⟩
  · cases y with
    | tmp t =>
      simp only [St.ev, slot_put]
      rw [if_neg]
      intro e
      exact h t e (looks_op hy)
    | _ => rfl
  · unfold guardVal
    split
    · rename_i t ht
      rw [slot_put, if_neg]
      intro e
      refine h t e ?_
      unfold Oper.looksAt
      rw [List.mem_append]
      right
      rw [hg]
      rw [← hds, List.getElem?_map] at ht
      simp only [Option.map_eq_some_iff, Array.getElem?_toList] at ht
      obtain ⟨o', h1, h2⟩ := ht
      simp [h1, h2]
    · rfl
theorem Agr.symm {o : Oper} {s s' : St} (h : Agr G ds o s s') : Agr G ds o s' s := ⟨h.H.symm, h.up.symm, h.n.symm, fun x hx => (h.ev x hx).symm, fun j w hg => (h.gd j w hg).symm⟩
theorem Agr.trans {o : Oper} {s s' s'' : St} (h : Agr G ds o s s') (k : Agr G ds o s' s'') : Agr G ds o s s'' :=
  ⟨h.H.trans k.H, h.up.trans k.up, h.n.trans k.n, fun x hx => (h.ev x hx).trans (k.ev x hx), fun j w hg => (h.gd j w hg).trans (k.gd j w hg)⟩
theorem Agr.withH {o : Oper} {s s' : St} (h : Agr G ds o s s') (H' : List Blk) : Agr G ds o { s with H := H' } { s' with H := H' } :=
  ⟨rfl, h.up, h.n, fun x hx => by have := h.ev x hx; cases x <;> exact this, fun j w hg => h.gd j w hg⟩
theorem Yst.agr {S : List Blk → Prop} {o : Oper} {s s' : St} {lv : LV} (h : Agr G ds o s s') (hy : Yst T G ds S o s lv) : Yst T G ds S o s' lv :=
  ⟨by rw [← h.n]; exact hy.1, fun H' hS => valG_agr (h.withH H') (hy.2 H' hS)⟩
theorem Yst.anyH {S : List Blk → Prop} {o : Oper} {s : St} {lv : LV} (H' : List Blk) (hy : Yst T G ds S o s lv) : Yst T G ds S o { s with H := H' } lv := ⟨hy.1, hy.2⟩

theorem stepGV_sound (hT : TOk P T) (hds : ops.toList.map (·.dst) = ds) {i : Nat} {o : Oper} (ho : ops[i]? = some o) {β : Nat → Nat} {s : St} {a : Act} {w : World} (hr : Rel G w0 β s acts a w) {K : St → Prop} {Q' : Exit → Act → World → Prop}
    (h : stepG P T G ds o s K) : wpOp P ops Q' i (fun a' w' => ∃ s' β', K s' ∧ Rel G w0 β' s' acts a' w') a w := by
  obtain ⟨hd, h⟩ := h
  unfold wpOp
  simp only [ho]
  have step : stepV P T G o s (fun lv H' => K ({ s with H := H' }.put o.dst lv)) → o.wp P a w (fun a' w' => ∃ s' β', K s' ∧ Rel G w0 β' s' acts a' w') Q' := fun h =>
    stepOp_sound hT hr (stepOp_iff.2 ⟨hd, h⟩) fun s' β' a' w' h1 h2 => ⟨s', β', h1, h2⟩
  have skip : K (s.put o.dst (.tup [])) → ∃ s' β', K s' ∧ Rel G w0 β' s' acts (a.put o.dst undef) w := fun h => ⟨_, β, h, hr.putO hd .non⟩
  unfold stepGV at h
  split at h
  · rename_i hg
    rw [if_pos (by simp [Region.wanted, hg])]
    exact .inl (step h)
  · rename_i j want hg
    obtain ⟨b, hb, h⟩ := h
    obtain ⟨h1, h2⟩ := guardK_out h
    have hy := guardVal_sound hr hds hb
    by_cases hbw : b = want
    · rw [if_pos (by simp [Region.wanted, hg, hy, hbw])]
      exact .inl (step (h1 hbw))
    · rw [if_neg (by simp [Region.wanted, hg, hy, hbw])]
      exact skip (h2 hbw)

theorem valG_sound (hT : TOk P T) (hds : ops.toList.map (·.dst) = ds) {i : Nat} {o : Oper} (ho : ops[i]? = some o) {β : Nat → Nat} {s : St} {a : Act} {w : World} (hr : Rel G w0 β s acts a w) {lv : LV} {Q' : Exit → Act → World → Prop}
    (hd : dstOk o.dst s.n) (h : valG T G ds o s lv) : wpOp P ops Q' i (fun a' w' => ∃ β', Rel G w0 β' (s.put o.dst lv) acts a' w') a w := by
  unfold wpOp
  simp only [ho]
  have step : opF T s (s.ev G) o.op = some (lv, s.H) → o.wp P a w (fun a' w' => ∃ β', Rel G w0 β' (s.put o.dst lv) acts a' w') Q' := fun h => by
    obtain ⟨v, w', β', h3, h4, h5⟩ := opF_sound hT hr h
    obtain ⟨dst, op, type, pos, after, guard⟩ := o
    unfold Oper.wp
    rw [h3, Oper.upon_value]
    exact ⟨β', h4.putO hd h5⟩
  unfold valG at h
  split at h
  · rename_i hg
    rw [if_pos (by simp [Region.wanted, hg])]
    exact .inl (step h)
  · rename_i j want hg
    obtain ⟨b, hb, h⟩ := h
    obtain ⟨h1, h2⟩ := guardK_out h
    have hy := guardVal_sound hr hds hb
    by_cases hbw : b = want
    · rw [if_pos (by simp [Region.wanted, hg, hy, hbw])]
      exact .inl (step (h1 hbw))
    · rw [if_neg (by simp [Region.wanted, hg, hy, hbw])]
      exact ⟨β, by rw [h2 hbw]; exact hr.putO hd .non⟩

/-! ### What was told of ahead of its turn -/
variable (T G ds ops) in
def Sim (md : Region.Mode) (S : List Blk → Prop) (l : Array Bool) (sa : St) : St → List (Nat × Oper × LV) → Prop
  | sc, [] => SEq sc sa
  | sc, (i, o, lv) :: rest => (ops[i]? = some o ∧ l.getD i false = true ∧ (∀ p ∈ rest, p.1 ≠ i) ∧
      (∀ e ∈ o.after, Region.binds md e = true → l.getD e.on false = true ∧ e.on ≠ i ∧ ∀ p ∈ rest, p.1 ≠ e.on) ∧
      (∀ j oj, ops[j]? = some oj → j ≠ i → (l.getD j true = false ∨ ∃ p ∈ rest, p.1 = j) → (∀ e ∈ oj.after, Region.binds md e = true → e.on ≠ i) → o.apart ops oj = true) ∧
      Yst T G ds S o sc lv) ∧ Sim md S l sa (sc.put o.dst lv) rest

variable {md : Region.Mode} {S : List Blk → Prop} {l : Array Bool} {sa : St}

theorem Sim.congr : ∀ {pend : List (Nat × Oper × LV)} {sc sc' : St}, SEq sc sc' → Sim T G ds ops md S l sa sc pend → Sim T G ds ops md S l sa sc' pend
  | [], _, _, h, k => h.symm.trans k
  | (_, _, _) :: _, _, _, h, ⟨⟨h1, h2, h3, h4, h5, h6⟩, h7⟩ => ⟨⟨h1, h2, h3, h4, h5, h6.agr (.seq h)⟩, h7.congr (h.put _ _)⟩

theorem Sim.H : ∀ {pend : List (Nat × Oper × LV)} {sc : St}, Sim T G ds ops md S l sa sc pend → sc.H = sa.H
  | [], _, h => h.2.1
  | (_, _, _) :: _, _, h => by have := h.2.H; rwa [put_H] at this
theorem Sim.n : ∀ {pend : List (Nat × Oper × LV)} {sc : St}, Sim T G ds ops md S l sa sc pend → sc.n = sa.n
  | [], _, h => h.1
  | (_, _, _) :: _, _, h => by have := h.2.n; rwa [put_n] at this

/-- One of them is carried out. -/
theorem Sim.front (hds : ops.toList.map (·.dst) = ds) {c : Nat} {o : Oper} {lv : LV} {post : List (Nat × Oper × LV)} : ∀ {pre : List (Nat × Oper × LV)} {sc : St}, Sim T G ds ops md S l sa sc (pre ++ (c, o, lv) :: post) →
    (∀ p ∈ pre, ∀ e ∈ o.after, Region.binds md e = true → e.on ≠ p.1) → ops[c]? = some o ∧ Yst T G ds S o sc lv ∧ Sim T G ds ops md S l sa (sc.put o.dst lv) (pre ++ post)
  | [], _, ⟨⟨h1, _, _, _, _, h6⟩, h7⟩, _ => ⟨h1, h6, h7⟩
  | (i, oi, li) :: pre, sc, ⟨⟨h1, h2, h3, h4, h5, h6⟩, h7⟩, hw => by
    obtain ⟨k1, k2, k3⟩ := Sim.front hds h7 fun p hp => hw p (.tail _ hp)
    have hne : c ≠ i := h3 (c, o, lv) (by simp)
    have hap := h5 c o k1 hne (.inr ⟨(c, o, lv), by simp, rfl⟩) (hw (i, oi, li) (by simp))
    obtain ⟨a1, a2, a3⟩ := Oper.apart_spec hap
    have hin : ∀ p, p ∈ pre ++ post → p ∈ pre ++ (c, o, lv) :: post := fun p hp => by rw [List.mem_append] at hp ⊢; exact hp.imp id (.tail _)
    refine ⟨k1, k2.agr (.put hds sc li a1), ⟨⟨h1, h2, fun p hp => h3 p (hin p hp), fun e he hb => ?_, fun j oj hj hji hx => h5 j oj hj hji ?_, h6.agr (Agr.put hds sc lv a3).symm⟩, k3.congr (SEq.comm sc li lv a2)⟩⟩
    · obtain ⟨b1, b2, b3⟩ := h4 e he hb
      exact ⟨b1, b2, fun p hp => b3 p (hin p hp)⟩
    · exact hx.imp id fun ⟨p, hp, e⟩ => ⟨p, hin p hp, e⟩

/-- One more is told of. -/
theorem Sim.push {i : Nat} {o : Oper} {lv : LV} (ho : ops[i]? = some o) (hi : l.getD i true = false) (hdeps : ∀ e ∈ o.after, Region.binds md e = true → l.getD e.on false = true)
    (hfree : ∀ j oj, ops[j]? = some oj → j ≠ i → l.getD j true = false → (∀ e ∈ oj.after, Region.binds md e = true → e.on ≠ i) → o.apart ops oj = true) (hy : Yst T G ds S o sa lv) :
    ∀ {pend : List (Nat × Oper × LV)} {sc : St}, Sim T G ds ops md S l sa sc pend → Sim T G ds ops md S (l.setIfInBounds i true) (sa.put o.dst lv) sc (pend ++ [(i, o, lv)]) := by
  have hi2 : ∀ k, l.getD k false = true → k ≠ i := fun k hk e => by
    subst e
    rcases Nat.lt_or_ge k l.size with h' | h'
    · simp [h'] at hi hk; rw [hi] at hk; cases hk
    · simp [Array.getElem?_eq_none h'] at hk
  have hset : (l.setIfInBounds i true).getD i false = true := by
    rcases Nat.lt_or_ge i l.size with h' | h'
    · simp [h']
    · simp [Array.getElem?_eq_none h'] at hi
  have hun : ∀ j, (l.setIfInBounds i true).getD j true = false → l.getD j true = false := fun j hj => by
    by_cases e : i = j
    · subst e; exact hi
    · rwa [getD_set_ne true e] at hj
  intro pend
  induction pend with
  | nil =>
    intro sc h
    refine ⟨⟨ho, hset, by simp, fun e he hb => ?_, fun j oj hj hji hx => hfree j oj hj hji ?_, hy.agr (.seq h.symm)⟩, h.put _ _⟩
    · exact ⟨getD_set_true (hdeps e he hb), hi2 _ (hdeps e he hb), by simp⟩
    · rcases hx with hx | ⟨p, hp, _⟩
      · exact hun j hx
      · cases hp
  | cons q pend ih =>
    obtain ⟨k, ok, lk⟩ := q
    rintro sc ⟨⟨h1, h2, h3, h4, h5, h6⟩, h7⟩
    refine ⟨⟨h1, getD_set_true h2, fun p hp => ?_, fun e he hb => ?_, fun j oj hj hji hx => h5 j oj hj hji ?_, h6⟩, ih h7⟩
    · replace hp := List.mem_append.1 hp
      rcases hp with hp | hp
      · exact h3 p hp
      · simp only [List.mem_singleton] at hp; subst hp; exact (hi2 k h2).symm
    · obtain ⟨b1, b2, b3⟩ := h4 e he hb
      refine ⟨getD_set_true b1, b2, fun p hp => ?_⟩
      replace hp := List.mem_append.1 hp
      rcases hp with hp | hp
      · exact b3 p hp
      · simp only [List.mem_singleton] at hp; subst hp; exact (hi2 _ b1).symm
    · rcases hx with hx | ⟨p, hp, e⟩
      · exact .inl (hun j hx)
      · replace hp := List.mem_append.1 hp
        rcases hp with hp | hp
        · exact .inr ⟨p, hp, e⟩
        · simp only [List.mem_singleton] at hp; subst hp; subst e; exact .inl hi

/-- Another one is carried out. -/
theorem Sim.step (hds : ops.toList.map (·.dst) = ds) {c : Nat} {o : Oper} (ho : ops[c]? = some o) (hc : l.getD c true = false) : ∀ {pend : List (Nat × Oper × LV)} {sc : St}, (∀ p ∈ pend, ∀ e ∈ o.after, Region.binds md e = true → e.on ≠ p.1) →
    Sim T G ds ops md S l sa sc pend → Agr G ds o sc sa ∧ ∀ lv H', Sim T G ds ops md S (l.setIfInBounds c true) ({ sa with H := H' }.put o.dst lv) ({ sc with H := H' }.put o.dst lv) pend
  | [], _, _, h => ⟨.seq h, fun lv H' => (SEq.withH h H').put _ _⟩
  | (i, oi, li) :: rest, sc, hw, ⟨⟨h1, h2, h3, h4, h5, h6⟩, h7⟩ => by
    obtain ⟨k1, k2⟩ := Sim.step hds ho hc (fun p hp => hw p (.tail _ hp)) h7
    have hne : c ≠ i := fun e => by
      subst e
      rcases Nat.lt_or_ge c l.size with h' | h'
      · simp [h'] at hc h2; rw [hc] at h2; cases h2
      · simp [Array.getElem?_eq_none h'] at h2
    have hun : ∀ j, (l.setIfInBounds c true).getD j true = false → l.getD j true = false := fun j hj => by
      by_cases e : c = j
      · subst e; exact hc
      · rwa [getD_set_ne true e] at hj
    have hap := h5 c o ho hne (.inl hc) (hw (i, oi, li) (by simp))
    obtain ⟨a1, a2, a3⟩ := Oper.apart_spec hap
    refine ⟨(Agr.put hds sc li a1).symm.trans k1, fun lv H' => ⟨⟨h1, getD_set_true h2, h3, fun e he hb => ?_, fun j oj hj hji hx => h5 j oj hj hji (hx.imp (hun j) id), ?_⟩, ?_⟩⟩
    · obtain ⟨b1, b2, b3⟩ := h4 e he hb
      exact ⟨getD_set_true b1, b2, b3⟩
    · exact (h6.anyH H').agr (Agr.put hds { sc with H := H' } lv a3).symm
    · exact (k2 lv H').congr (((SEq.putH sc oi.dst li H').put _ _).trans (SEq.comm _ li lv a2))

variable (P T G ds ops) in
/-- Whatever order is picked from here on. -/
def AnyS (md : Region.Mode) (S : List Blk → Prop) (K : St → Prop) : Nat → Array Bool → St → Prop
  | 0, l, s => Region.ready md ops l = [] ∧ K s
  | n + 1, l, s => (Region.ready md ops l = [] ∧ K s) ∨
    (Region.ready md ops l ≠ [] ∧ ∀ i ∈ Region.ready md ops l, ∃ o, ops[i]? = some o ∧ stepG P T G ds o s fun s' => S s'.H ∧ AnyS md S K n (l.setIfInBounds i true) s') ∨
    (∃ i o lv, ops[i]? = some o ∧ i ∈ Region.ready md ops l ∧ Region.free md ops l i = true ∧ Yst T G ds S o s lv ∧ AnyS md S K n (l.setIfInBounds i true) (s.put o.dst lv))

theorem unl {l : Array Bool} {j : Nat} : l.getD j true = false ↔ (j < l.size ∧ l.getD j false = false) := by
  rcases Nat.lt_or_ge j l.size with h | h
  · simp [h]
  · simp [Array.getElem?_eq_none h]; omega

/-- What is carried out is what was told of, but for those that still wait. -/
def Lc (l : Array Bool) (pend : List (Nat × Oper × LV)) (lc : Array Bool) : Prop := lc.size = l.size ∧ ∀ j, lc.getD j false = true ↔ (l.getD j false = true ∧ ∀ p ∈ pend, p.1 ≠ j)

theorem getD_set_false {l : Array Bool} {i j : Nat} (h : i ≠ j) : (l.setIfInBounds i true).getD j false = l.getD j false := getD_set_ne false h
theorem getD_set_self {l : Array Bool} {i : Nat} (h : i < l.size) : (l.setIfInBounds i true).getD i false = true := by simp [h]
theorem false_of {b : Bool} (h : ¬ b = true) : b = false := by simpa using h

theorem Sim.mid {c : Nat} {o : Oper} {lv : LV} {post : List (Nat × Oper × LV)} : ∀ {pre : List (Nat × Oper × LV)} {sc : St}, Sim T G ds ops md S l sa sc (pre ++ (c, o, lv) :: post) →
    ops[c]? = some o ∧ l.getD c false = true ∧ ∀ p ∈ pre ++ post, p.1 ≠ c
  | [], _, h => ⟨h.1.1, h.1.2.1, h.1.2.2.1⟩
  | (i, oi, li) :: pre, _, h => by
    obtain ⟨h1, h2, h3⟩ := Sim.mid h.2
    refine ⟨h1, h2, fun p hp => ?_⟩
    rcases List.mem_cons.1 hp with rfl | hp
    · exact (h.1.2.2.1 (c, o, lv) (by simp)).symm
    · exact h3 p hp

theorem Sim.some {pend : List (Nat × Oper × LV)} {sc : St} {lc : Array Bool} (hS : Sim T G ds ops md S l sa sc pend) (hL : Lc l pend lc) (h0 : Region.ready md ops lc = []) : pend = [] := by
  cases pend with
  | nil => rfl
  | cons q rest =>
    exfalso
    obtain ⟨i, o, lv⟩ := q
    obtain ⟨⟨a1, a2, a3, a4, a5, a6⟩, a7⟩ := hS
    have : i ∈ Region.ready md ops lc := mem_ready.2 ⟨unl.2 ⟨by
      rw [hL.1]
      rcases Nat.lt_or_ge i l.size with h' | h'
      · exact h'
      · simp [Array.getElem?_eq_none h'] at a2, false_of fun e => ((hL.2 i).1 e).2 (i, o, lv) (by simp) rfl⟩, o, a1, fun e he hb => (hL.2 _).2 ⟨(a4 e he hb).1, fun p hp => by
        rcases List.mem_cons.1 hp with rfl | hp
        · exact (a4 e he hb).2.1.symm
        · exact (a4 e he hb).2.2 p hp⟩⟩
    rw [h0] at this; cases this

theorem Lc.ready {pend : List (Nat × Oper × LV)} {lc : Array Bool} (hL : Lc l pend lc) {c : Nat} (hc : c ∈ Region.ready md ops lc) (hn : ¬ ∃ p ∈ pend, p.1 = c) : c ∈ Region.ready md ops l := by
  obtain ⟨c1, o, c2, c3⟩ := mem_ready.1 hc
  exact mem_ready.2 ⟨unl.2 ⟨by rw [← hL.1]; exact (unl.1 c1).1, false_of fun e => by
    have := (hL.2 c).2 ⟨e, fun p hp h => hn ⟨p, hp, h⟩⟩
    rw [(unl.1 c1).2] at this; cases this⟩, o, c2, fun e he hb => ((hL.2 _).1 (c3 e he hb)).1⟩

theorem any_core (hT : TOk P T) (hds : ops.toList.map (·.dst) = ds) {Q' : Exit → Act → World → Prop} {m : Nat} {sc : St} {pend : List (Nat × Oper × LV)} {lc : Array Bool} {β : Nat → Nat} {a : Act} {w : World}
    (hS : Sim T G ds ops md S l sa sc pend) (hL : Lc l pend lc) (hSH : S sa.H) (hr : Rel G w0 β sc acts a w)
    (hend : pend = [] → Region.ready md ops lc = [] → Q' .normal a w)
    (hpend : ∀ pend' c sc' β' a' w', c ∈ Region.ready md ops lc → pend'.length + 1 = pend.length → Sim T G ds ops md S l sa sc' pend' → Lc l pend' (lc.setIfInBounds c true) → Rel G w0 β' sc' acts a' w' → wpAny P md ops Q' m (lc.setIfInBounds c true) a' w')
    (hall : ∀ c o, c ∈ Region.ready md ops lc → c ∈ Region.ready md ops l → ops[c]? = some o → (∀ p ∈ pend, ∀ e ∈ o.after, Region.binds md e = true → e.on ≠ p.1) → wpOp P ops Q' c (wpAny P md ops Q' m (lc.setIfInBounds c true)) a w) :
    wpAny P md ops Q' (m + 1) lc a w := by
  refine ⟨fun h0 => hend (hS.some hL h0) h0, fun c hc => ?_⟩
  obtain ⟨c1, o, c2, c3⟩ := mem_ready.1 hc
  have hw : ∀ p ∈ pend, ∀ e ∈ o.after, Region.binds md e = true → e.on ≠ p.1 := fun p hp e he hb h => ((hL.2 _).1 (c3 e he hb)).2 p hp h.symm
  by_cases hin : ∃ p ∈ pend, p.1 = c
  · obtain ⟨⟨i, oi, lv⟩, hp, e0⟩ := hin
    simp only at e0
    subst e0
    obtain ⟨pre, post, rfl⟩ := List.append_of_mem hp
    obtain ⟨b1, b2, b3⟩ := hS.mid
    have e1 : oi = o := by rw [b1] at c2; exact Option.some.inj c2
    subst e1
    obtain ⟨_, k2, k3⟩ := hS.front hds fun p hp => hw p (List.mem_append.2 (.inl hp))
    have hv := k2.2 sa.H hSH
    rw [← hS.H] at hv
    refine wpOp_mono (fun a' w' ⟨β', hr'⟩ => hpend (pre ++ post) i _ β' a' w' hc (by simp; omega) k3 ?_ hr') (valG_sound hT hds c2 hr k2.1 hv)
    refine ⟨by rw [Array.size_setIfInBounds]; exact hL.1, fun j => ?_⟩
    by_cases hj : i = j
    · subst hj
      rw [getD_set_self (unl.1 c1).1]
      exact ⟨fun _ => ⟨b2, b3⟩, fun _ => rfl⟩
    · rw [getD_set_false hj, hL.2 j]
      refine and_congr_right fun _ => ⟨fun h p hp => h p ?_, fun h p hp => ?_⟩
      · rcases List.mem_append.1 hp with hp | hp
        · exact List.mem_append.2 (.inl hp)
        · exact List.mem_append.2 (.inr (.tail _ hp))
      · rcases List.mem_append.1 hp with hp | hp
        · exact h p (List.mem_append.2 (.inl hp))
        · rcases List.mem_cons.1 hp with rfl | hp
          · exact hj
          · exact h p (List.mem_append.2 (.inr hp))
  · exact hall c o hc (hL.ready hc hin) c2 hw

theorem ready_deps {i : Nat} {o : Oper} (ho : ops[i]? = some o) (h : i ∈ Region.ready md ops l) : ∀ e ∈ o.after, Region.binds md e = true → l.getD e.on false = true := by
  obtain ⟨_, o', h2, h3⟩ := mem_ready.1 h
  rw [ho] at h2
  cases h2
  exact h3

theorem Lc.push {pend : List (Nat × Oper × LV)} {lc : Array Bool} (hL : Lc l pend lc) {i : Nat} {o : Oper} {lv : LV} (hi : l.getD i true = false) : Lc (l.setIfInBounds i true) (pend ++ [(i, o, lv)]) lc := by
  refine ⟨by rw [Array.size_setIfInBounds]; exact hL.1, fun j => ?_⟩
  by_cases hj : i = j
  · subst hj
    refine ⟨fun h => ?_, fun h => absurd rfl (h.2 (i, o, lv) (by simp))⟩
    have := ((hL.2 i).1 h).1
    rw [(unl.1 hi).2] at this; cases this
  · rw [getD_set_false hj, hL.2 j]
    refine and_congr_right fun _ => ⟨fun h p hp => ?_, fun h p hp => h p (List.mem_append.2 (.inl hp))⟩
    rcases List.mem_append.1 hp with hp | hp
    · exact h p hp
    · simp only [List.mem_singleton] at hp; subst hp; exact hj

theorem Lc.set {pend : List (Nat × Oper × LV)} {lc : Array Bool} (hL : Lc l pend lc) {c : Nat} (hc : l.getD c true = false) (hn : ∀ p ∈ pend, p.1 ≠ c) : Lc (l.setIfInBounds c true) pend (lc.setIfInBounds c true) := by
  refine ⟨by rw [Array.size_setIfInBounds, Array.size_setIfInBounds]; exact hL.1, fun j => ?_⟩
  by_cases hj : c = j
  · subst hj
    rw [getD_set_self (by rw [hL.1]; exact (unl.1 hc).1), getD_set_self (unl.1 hc).1]
    exact ⟨fun _ => ⟨rfl, hn⟩, fun _ => rfl⟩
  · rw [getD_set_false hj, getD_set_false hj, hL.2 j]

theorem Sim.listed {pend : List (Nat × Oper × LV)} : ∀ {sc : St}, Sim T G ds ops md S l sa sc pend → ∀ p ∈ pend, l.getD p.1 false = true := by
  induction pend with
  | nil => intro _ _ p hp; cases hp
  | cons q rest ih =>
    intro sc h p hp
    rcases List.mem_cons.1 hp with rfl | hp
    · exact h.1.2.1
    · exact ih h.2 p hp

theorem any_sound (hT : TOk P T) (hds : ops.toList.map (·.dst) = ds) {K : St → Prop} {Q' : Exit → Act → World → Prop} (hQ : ∀ s β a w, K s → Rel G w0 β s acts a w → Q' .normal a w) :
    ∀ (f k : Nat) (l : Array Bool) (sa sc : St) (pend : List (Nat × Oper × LV)) (lc : Array Bool) (β : Nat → Nat) (a : Act) (w : World), pend.length = k → AnyS P T G ds ops md S K f l sa → Sim T G ds ops md S l sa sc pend → Lc l pend lc → S sa.H →
      Rel G w0 β sc acts a w → wpAny P md ops Q' (f + k) lc a w := by
  intro f
  induction f with
  | zero =>
    intro k
    induction k with
    | zero =>
      intro l sa sc pend lc β a w hk hA hS hL hSH hr
      have : pend = [] := List.eq_nil_of_length_eq_zero hk
      subst this
      obtain ⟨h1, h2⟩ := hA
      refine ⟨List.eq_nil_iff_forall_not_mem.2 fun c hc => ?_, hQ sa β a w h2 (hr.seq hS)⟩
      have := hL.ready hc (by simp)
      rw [h1] at this; cases this
    | succ k ihk =>
      intro l sa sc pend lc β a w hk hA hS hL hSH hr
      refine any_core hT hds (m := 0 + k) hS hL hSH hr (fun e => by subst e; cases hk) (fun pend' c sc' β' a' w' _ e hS' hL' hr' => ihk l sa sc' pend' _ β' a' w' (by omega) hA hS' hL' hSH hr') fun c o _ hc _ _ => ?_
      rw [hA.1] at hc; cases hc
  | succ f ihf =>
    intro k
    induction k using Nat.strongRecOn with
    | _ k ihk =>
      intro l sa sc pend lc β a w hk hA hS hL hSH hr
      have e0 : f + 1 + k = (f + k) + 1 := by omega
      have hp : ∀ pend' c sc' β' a' w', c ∈ Region.ready md ops lc → pend'.length + 1 = pend.length → Sim T G ds ops md S l sa sc' pend' → Lc l pend' (lc.setIfInBounds c true) → Rel G w0 β' sc' acts a' w' → wpAny P md ops Q' (f + k) (lc.setIfInBounds c true) a' w' := fun pend' c sc' β' a' w' _ e hS' hL' hr' => by
        have := ihk (k - 1) (by omega) l sa sc' pend' _ β' a' w' (by omega) hA hS' hL' hSH hr'
        have e1 : f + 1 + (k - 1) = f + k := by omega
        rwa [e1] at this
      rcases id hA with ⟨h1, h2⟩ | ⟨h1, h2⟩ | ⟨i, o, lv, h1, h2, h3, h4, h5⟩
      · rw [e0]
        refine any_core hT hds hS hL hSH hr (fun e _ => by subst e; exact hQ sa β a w h2 (hr.seq hS)) hp fun c o _ hc _ _ => ?_
        rw [h1] at hc; cases hc
      · rw [e0]
        refine any_core hT hds hS hL hSH hr (fun e h0 => ?_) hp fun c o _ hc hco hw => ?_
        · subst e
          exfalso
          apply h1
          refine List.eq_nil_iff_forall_not_mem.2 fun c hc => ?_
          obtain ⟨c1, o, c2, c3⟩ := mem_ready.1 hc
          have : c ∈ Region.ready md ops lc := mem_ready.2 ⟨unl.2 ⟨by rw [hL.1]; exact (unl.1 c1).1, false_of fun e => by
            have := ((hL.2 c).1 e).1
            rw [(unl.1 c1).2] at this; cases this⟩, o, c2, fun e he hb => (hL.2 _).2 ⟨c3 e he hb, by simp⟩⟩
          rw [h0] at this; cases this
        · obtain ⟨o', hco', hd, hv⟩ := h2 c hc
          have eo : o' = o := by rw [hco] at hco'; exact (Option.some.inj hco').symm
          subst eo
          have hc1 := (mem_ready.1 hc).1
          obtain ⟨k1, k2⟩ := hS.step hds hco hc1 hw
          have hn : ∀ p ∈ pend, p.1 ≠ c := fun p hp e => by
            have := hS.listed p hp
            rw [e, (unl.1 hc1).2] at this; cases this
          have hst : stepG P T G ds o' sc fun s' => ∃ sa', (S sa'.H ∧ AnyS P T G ds ops md S K f (l.setIfInBounds c true) sa') ∧ Sim T G ds ops md S (l.setIfInBounds c true) sa' s' pend :=
            ⟨by rw [hS.n]; exact hd, stepGV_mono (fun lv H' h => ⟨_, h, k2 lv H'⟩) (stepGV_agr k1.symm hv)⟩
          refine wpOp_mono ?_ (stepGV_sound hT hds hco hr hst)
          rintro a' w' ⟨s', β', ⟨sa', ⟨h6, h7⟩, h8⟩, hr'⟩
          exact ihf k _ sa' s' pend _ β' a' w' hk h7 h8 (hL.set hc1 hn) h6 hr'
      · have := ihf (k + 1) _ _ sc (pend ++ [(i, o, lv)]) lc β a w (by simp; omega) h5 (hS.push h1 (mem_ready.1 h2).1 (ready_deps h1 h2) (fun j oj => Region.free_spec h1 h3 j oj) h4) (hL.push (mem_ready.1 h2).1) (by rw [put_H]; exact hSH) hr
        have e1 : f + (k + 1) = f + 1 + k := by omega
        rwa [e1] at this

/-- One way through a region whose order is drawn: (true, i): number i is told of ahead; (false, i): number i is the only one that may come. -/
def planOk (md : Region.Mode) (ops : Array Oper) : List (Bool × Nat) → Array Bool → Bool
  | [], l => (Region.ready md ops l).isEmpty
  | (true, i) :: r, l => (Region.ready md ops l).contains i && Region.free md ops l i && planOk md ops r (l.setIfInBounds i true)
  | (false, i) :: r, l => (match Region.ready md ops l with | [j] => j == i | _ => false) && planOk md ops r (l.setIfInBounds i true)

variable (P T G ds) in
def runPlan (S : List Blk → Prop) (ops : List Oper) : List (Bool × Nat) → St → (St → Prop) → Prop
  | [], s, K => K s
  | (true, i) :: r, s, K => bindK ops[i]? fun o => dstOk o.dst s.n ∧ match o.guard with
    | none => bindK (opF T s (s.ev G) o.op) fun v => (∀ H', S H' → opF T { s with H := H' } (St.ev G { s with H := H' }) o.op = some (v.1, H')) ∧ runPlan S ops r (s.put o.dst v.1) K
    | some (j, want) => bindK (guardVal ds s j want) fun b => guardK b want
        (bindK (opF T s (s.ev G) o.op) fun v => (∀ H', S H' → opF T { s with H := H' } (St.ev G { s with H := H' }) o.op = some (v.1, H')) ∧ runPlan S ops r (s.put o.dst v.1) K)
        (runPlan S ops r (s.put o.dst (.tup [])) K)
  | (false, i) :: r, s, K => bindK ops[i]? fun o => match o.guard with
    | none => stepOp P T G o s fun s' => S s'.H ∧ runPlan S ops r s' K
    | some (j, want) => bindK (guardVal ds s j want) fun b => guardK b want (stepOp P T G o s fun s' => S s'.H ∧ runPlan S ops r s' K) (dstOk o.dst s.n ∧ runPlan S ops r (s.put o.dst (.tup [])) K)

theorem runPlan_sound {ol : List Oper} (hol : ops = ol.toArray) {K : St → Prop} : ∀ (plan : List (Bool × Nat)) (l : Array Bool) (s : St), planOk md ops plan l = true → S s.H → runPlan P T G ds S ol plan s K → AnyS P T G ds ops md S K plan.length l s
  | [], l, s, h, _, h2 => ⟨by simpa [planOk] using h, h2⟩
  | (true, i) :: r, l, s, h, hS, h2 => by
    simp only [planOk, Bool.and_eq_true] at h
    obtain ⟨⟨h3, h4⟩, h5⟩ := h
    obtain ⟨o, h6, h7, h8⟩ := h2
    have h6' : ops[i]? = some o := by rw [hol]; simpa using h6
    have hc : i ∈ Region.ready md ops l := by simpa using h3
    refine .inr (.inr ?_)
    split at h8
    · rename_i hg
      obtain ⟨v, _, k2, k3⟩ := h8
      refine ⟨i, o, v.1, h6', hc, h4, ⟨h7, fun H' hH' => ?_⟩, runPlan_sound hol r _ _ h5 (by rw [put_H]; exact hS) k3⟩
      unfold valG
      rw [hg]
      exact k2 H' hH'
    · rename_i j want hg
      obtain ⟨b, k1, k2, k3⟩ := h8
      have take : (bindK (opF T s (s.ev G) o.op) fun v => (∀ H', S H' → opF T { s with H := H' } (St.ev G { s with H := H' }) o.op = some (v.1, H')) ∧ runPlan P T G ds S ol r (s.put o.dst v.1) K) → b = want → ∃ i o lv, ops[i]? = some o ∧ i ∈ Region.ready md ops l ∧ Region.free md ops l i = true ∧ Yst T G ds S o s lv ∧ AnyS P T G ds ops md S K r.length (l.setIfInBounds i true) (s.put o.dst lv) := fun ⟨v, _, k2, k3⟩ e =>
        ⟨i, o, v.1, h6', hc, h4, ⟨h7, fun H' hH' => by
          unfold valG
          rw [hg]
          exact ⟨b, k1, guardK_in (fun _ => k2 H' hH') (fun h => absurd e h)⟩⟩, runPlan_sound hol r _ _ h5 (by rw [put_H]; exact hS) k3⟩
      have skip : runPlan P T G ds S ol r (s.put o.dst (.tup [])) K → b ≠ want → ∃ i o lv, ops[i]? = some o ∧ i ∈ Region.ready md ops l ∧ Region.free md ops l i = true ∧ Yst T G ds S o s lv ∧ AnyS P T G ds ops md S K r.length (l.setIfInBounds i true) (s.put o.dst lv) := fun k e =>
        ⟨i, o, .tup [], h6', hc, h4, ⟨h7, fun H' hH' => by
          unfold valG
          rw [hg]
          exact ⟨b, k1, guardK_in (fun h => absurd h e) (fun _ => rfl)⟩⟩, runPlan_sound hol r _ _ h5 (by rw [put_H]; exact hS) k⟩
      obtain ⟨g1, g2⟩ := guardK_out ⟨k2, k3⟩
      by_cases hbw : b = want
      · exact take (g1 hbw) hbw
      · exact skip (g2 hbw) hbw
  | (false, i) :: r, l, s, h, hS, h2 => by
    simp only [planOk, Bool.and_eq_true] at h
    obtain ⟨h3, h5⟩ := h
    have h4 : Region.ready md ops l = [i] := by
      split at h3
      · rename_i j hj; simp at h3; subst h3; exact hj
      · cases h3
    obtain ⟨o, h6, h8⟩ := h2
    have h6' : ops[i]? = some o := by rw [hol]; simpa using h6
    refine .inr (.inl ⟨by rw [h4]; simp, fun j hj => ?_⟩)
    rw [h4] at hj
    simp only [List.mem_singleton] at hj
    subst hj
    refine ⟨o, h6', ?_⟩
    have go : ∀ s', S s'.H ∧ runPlan P T G ds S ol r s' K → S s'.H ∧ AnyS P T G ds ops md S K r.length (l.setIfInBounds j true) s' := fun s' ⟨a, b⟩ => ⟨a, runPlan_sound hol r _ _ h5 a b⟩
    have step : (stepOp P T G o s fun s' => S s'.H ∧ runPlan P T G ds S ol r s' K) → dstOk o.dst s.n ∧ stepV P T G o s fun lv H' => S ({ s with H := H' }.put o.dst lv).H ∧ AnyS P T G ds ops md S K r.length (l.setIfInBounds j true) ({ s with H := H' }.put o.dst lv) := fun h => by
      obtain ⟨a, b⟩ := stepOp_iff.1 h
      exact ⟨a, stepV_mono (fun lv H' h => go _ h) b⟩
    unfold stepG stepGV
    split at h8
    · rename_i hg
      simp only [hg]
      exact step h8
    · rename_i j' want hg
      simp only [hg]
      obtain ⟨b, k1, k2⟩ := h8
      obtain ⟨g1, g2⟩ := guardK_out k2
      by_cases hbw : b = want
      · obtain ⟨a, c⟩ := step (g1 hbw)
        exact ⟨a, b, k1, guardK_in (fun _ => c) (fun h => absurd hbw h)⟩
      · obtain ⟨a, c⟩ := g2 hbw
        exact ⟨a, b, k1, guardK_in (fun h => absurd h hbw) (fun _ => go _ ⟨by rw [put_H]; exact hS, c⟩)⟩


def planOkE (md : Region.Mode) (ops : Array Oper) (E : Array Bool → Bool) : List (Bool × Nat) → Array Bool → Bool
  | [], l => E l
  | (true, i) :: r, l => (Region.ready md ops l).contains i && Region.free md ops l i && planOkE md ops E r (l.setIfInBounds i true)
  | (false, i) :: r, l => (match Region.ready md ops l with | [j] => j == i | _ => false) && planOkE md ops E r (l.setIfInBounds i true)

theorem runPlan_soundE {ol : List Oper} (hol : ops = ol.toArray) {K K' : St → Prop} {E : Array Bool → Bool} {m : Nat} (hE : ∀ l s, E l = true → S s.H → K s → AnyS P T G ds ops md S K' m l s) : ∀ (plan : List (Bool × Nat)) (l : Array Bool) (s : St), planOkE md ops E plan l = true → S s.H → runPlan P T G ds S ol plan s K → AnyS P T G ds ops md S K' (m + plan.length) l s
  | [], l, s, h, hS, h2 => hE l s (by simpa [planOkE] using h) hS h2
  | (true, i) :: r, l, s, h, hS, h2 => by
    simp only [planOkE, Bool.and_eq_true] at h
    obtain ⟨⟨h3, h4⟩, h5⟩ := h
    obtain ⟨o, h6, h7, h8⟩ := h2
    have h6' : ops[i]? = some o := by rw [hol]; simpa using h6
    have hc : i ∈ Region.ready md ops l := by simpa using h3
    refine .inr (.inr ?_)
    split at h8
    · rename_i hg
      obtain ⟨v, _, k2, k3⟩ := h8
      refine ⟨i, o, v.1, h6', hc, h4, ⟨h7, fun H' hH' => ?_⟩, runPlan_soundE hol hE r _ _ h5 (by rw [put_H]; exact hS) k3⟩
      unfold valG
      rw [hg]
      exact k2 H' hH'
    · rename_i j want hg
      obtain ⟨b, k1, k2, k3⟩ := h8
      have take : (bindK (opF T s (s.ev G) o.op) fun v => (∀ H', S H' → opF T { s with H := H' } (St.ev G { s with H := H' }) o.op = some (v.1, H')) ∧ runPlan P T G ds S ol r (s.put o.dst v.1) K) → b = want → ∃ i o lv, ops[i]? = some o ∧ i ∈ Region.ready md ops l ∧ Region.free md ops l i = true ∧ Yst T G ds S o s lv ∧ AnyS P T G ds ops md S K' (m + r.length) (l.setIfInBounds i true) (s.put o.dst lv) := fun ⟨v, _, k2, k3⟩ e =>
        ⟨i, o, v.1, h6', hc, h4, ⟨h7, fun H' hH' => by
          unfold valG
          rw [hg]
          exact ⟨b, k1, guardK_in (fun _ => k2 H' hH') (fun h => absurd e h)⟩⟩, runPlan_soundE hol hE r _ _ h5 (by rw [put_H]; exact hS) k3⟩
      have skip : runPlan P T G ds S ol r (s.put o.dst (.tup [])) K → b ≠ want → ∃ i o lv, ops[i]? = some o ∧ i ∈ Region.ready md ops l ∧ Region.free md ops l i = true ∧ Yst T G ds S o s lv ∧ AnyS P T G ds ops md S K' (m + r.length) (l.setIfInBounds i true) (s.put o.dst lv) := fun k e =>
        ⟨i, o, .tup [], h6', hc, h4, ⟨h7, fun H' hH' => by
          unfold valG
          rw [hg]
          exact ⟨b, k1, guardK_in (fun h => absurd h e) (fun _ => rfl)⟩⟩, runPlan_soundE hol hE r _ _ h5 (by rw [put_H]; exact hS) k⟩
      obtain ⟨g1, g2⟩ := guardK_out ⟨k2, k3⟩
      by_cases hbw : b = want
      · exact take (g1 hbw) hbw
      · exact skip (g2 hbw) hbw
  | (false, i) :: r, l, s, h, hS, h2 => by
    simp only [planOkE, Bool.and_eq_true] at h
    obtain ⟨h3, h5⟩ := h
    have h4 : Region.ready md ops l = [i] := by
      split at h3
      · rename_i j hj; simp at h3; subst h3; exact hj
      · cases h3
    obtain ⟨o, h6, h8⟩ := h2
    have h6' : ops[i]? = some o := by rw [hol]; simpa using h6
    refine .inr (.inl ⟨by rw [h4]; simp, fun j hj => ?_⟩)
    rw [h4] at hj
    simp only [List.mem_singleton] at hj
    subst hj
    refine ⟨o, h6', ?_⟩
    have go : ∀ s', S s'.H ∧ runPlan P T G ds S ol r s' K → S s'.H ∧ AnyS P T G ds ops md S K' (m + r.length) (l.setIfInBounds j true) s' := fun s' ⟨a, b⟩ => ⟨a, runPlan_soundE hol hE r _ _ h5 a b⟩
    have step : (stepOp P T G o s fun s' => S s'.H ∧ runPlan P T G ds S ol r s' K) → dstOk o.dst s.n ∧ stepV P T G o s fun lv H' => S ({ s with H := H' }.put o.dst lv).H ∧ AnyS P T G ds ops md S K' (m + r.length) (l.setIfInBounds j true) ({ s with H := H' }.put o.dst lv) := fun h => by
      obtain ⟨a, b⟩ := stepOp_iff.1 h
      exact ⟨a, stepV_mono (fun lv H' h => go _ h) b⟩
    unfold stepG stepGV
    split at h8
    · rename_i hg
      try simp only [hg]
      exact step h8
    · rename_i j' want hg
      simp only [hg]
      obtain ⟨b, k1, k2⟩ := h8
      obtain ⟨g1, g2⟩ := guardK_out k2
      by_cases hbw : b = want
      · obtain ⟨a, c⟩ := step (g1 hbw)
        exact ⟨a, b, k1, guardK_in (fun _ => c) (fun h => absurd hbw h)⟩
      · obtain ⟨a, c⟩ := g2 hbw
        exact ⟨a, b, k1, guardK_in (fun h => absurd h hbw) (fun _ => go _ ⟨by rw [put_H]; exact hS, c⟩)⟩

theorem runPlan_head {ol : List Oper} (hol : ops = ol.toArray) {S : List Blk → Prop} {K : St → Prop} {i : Nat} {r : List (Bool × Nat)} {s : St} (hS : S s.H) (h2 : runPlan P T G ds S ol ((false, i) :: r) s K) : ∃ o, ops[i]? = some o ∧ stepG P T G ds o s fun s' => S s'.H ∧ runPlan P T G ds S ol r s' K := by
  obtain ⟨o, h6, h8⟩ := h2
  refine ⟨o, by rw [hol]; simpa using h6, ?_⟩
  have step : (stepOp P T G o s fun s' => S s'.H ∧ runPlan P T G ds S ol r s' K) → dstOk o.dst s.n ∧ stepV P T G o s fun lv H' => S ({ s with H := H' }.put o.dst lv).H ∧ runPlan P T G ds S ol r ({ s with H := H' }.put o.dst lv) K := fun h => by
    obtain ⟨a, b⟩ := stepOp_iff.1 h
    exact ⟨a, stepV_mono (fun lv H' h => h) b⟩
  unfold stepG stepGV
  split at h8
  · rename_i hg
    try simp only [hg]
    exact step h8
  · rename_i j' want hg
    try simp only [hg]
    obtain ⟨b, k1, k2⟩ := h8
    obtain ⟨g1, g2⟩ := guardK_out k2
    by_cases hbw : b = want
    · obtain ⟨a, c⟩ := step (g1 hbw)
      exact ⟨a, b, k1, guardK_in (fun _ => c) (fun h => absurd hbw h)⟩
    · obtain ⟨a, c⟩ := g2 hbw
      exact ⟨a, b, k1, guardK_in (fun h => absurd h hbw) (fun _ => ⟨by rw [put_H]; exact hS, c⟩)⟩

/-- A region whose order is drawn. -/
theorem AWp.drawn (hT : TOk P T) (hm : P.follows .mixedOrders = true) {s : St} {id : Nat} {ol : List Oper} (hds : ol.map (·.dst) = ds) (plan : List (Bool × Nat)) (S : List Blk → Prop) (hok : (plan.length == ol.length && planOk .any ol.toArray plan (Array.replicate ol.length false)) = true) {Q : Exit → St → Prop}
    (h : S s.H ∧ runPlan P T G ds S ol plan s (fun s' => Q .normal s')) : AWp P G (.region id ol.toArray true) Q s := by
  intro w0 β acts a w hr
  simp only [Bool.and_eq_true, beq_iff_eq] at hok
  obtain ⟨hl, hok⟩ := hok
  refine wp_region_any hm ?_
  have hA := runPlan_sound (P := P) (T := T) (G := G) (ds := ds) (ops := ol.toArray) rfl plan _ s hok h.1 h.2
  have := any_sound (w0 := w0) (acts := acts) hT (by simpa using hds) (Q' := fun e a' w' => ∃ s' β', Q e s' ∧ Rel G w0 β' s' acts a' w') (fun s β a w hK hr => ⟨s, β, hK, hr⟩) plan.length 0 _ s s [] (Array.replicate ol.length false) β a _ rfl hA (SEq.refl s) ⟨rfl, fun j => by simp⟩ h.1 (hr.drewN 1)
  rw [hl] at this
  have e : (ol.toArray).size = ol.length := by simp
  rw [e]
  exact this
end
end Hm
namespace Hm
open Go Go.RowKit

/-- It changes no memory, and answers at once. -/
def calmOp : Op → Bool
  | .move _ | .assign _ | .pick .. | .load .. | .nilCheck _ | .binOp .. | .unOp .. | .fieldAddr .. | .field .. | .indexAddr .. | .index .. | .lookup .. | .slice .. | .extract .. | .makeInterface .. | .makeFunc .. | .build .. | .convert .. => true
  | .buildSlice _ n ps => n == 0 && ps.size == 0
  | .call { callee := .builtin .len, args := _, argTypes := _ } => true
  | .call { callee := .builtin .cap, args := _, argTypes := _ } => true
  | .call { callee := .builtin .min, args := _, argTypes := _ } => true
  | .call { callee := .builtin .max, args := _, argTypes := _ } => true
  | _ => false
def autoPlan : Nat → List Oper → List (Bool × Nat)
  | _, [] => []
  | i, o :: r => (calmOp o.op, i) :: autoPlan (i + 1) r
theorem autoPlan_length : ∀ (i : Nat) (l : List Oper), (autoPlan i l).length = l.length
  | _, [] => rfl
  | i, _ :: r => by simp [autoPlan, autoPlan_length (i + 1) r]

section
variable (P : Program) (T : TypeId → Option TI) (G : Nat → Option (List PV)) (ds : List (Option Nat))
def runAuto (S : List Blk → Prop) : List Oper → St → (St → Prop) → Prop
  | [], s, K => K s
  | o :: r, s, K => if calmOp o.op = true then dstOk o.dst s.n ∧ (match o.guard with
      | none => bindK (opF T s (s.ev G) o.op) fun v => (∀ H', S H' → opF T { s with H := H' } (St.ev G { s with H := H' }) o.op = some (v.1, H')) ∧ runAuto S r (s.put o.dst v.1) K
      | some (j, want) => bindK (guardVal ds s j want) fun b => guardK b want
          (bindK (opF T s (s.ev G) o.op) fun v => (∀ H', S H' → opF T { s with H := H' } (St.ev G { s with H := H' }) o.op = some (v.1, H')) ∧ runAuto S r (s.put o.dst v.1) K)
          (runAuto S r (s.put o.dst (.tup [])) K))
    else match o.guard with
      | none => stepOp P T G o s fun s' => S s'.H ∧ runAuto S r s' K
      | some (j, want) => bindK (guardVal ds s j want) fun b => guardK b want (stepOp P T G o s fun s' => S s'.H ∧ runAuto S r s' K) (dstOk o.dst s.n ∧ runAuto S r (s.put o.dst (.tup [])) K)
/-- The same, where no operation changes memory. -/
def runCalm : List Oper → St → (St → Prop) → Prop
  | [], s, K => K s
  | o :: r, s, K => dstOk o.dst s.n ∧ (match o.guard with
      | none => bindK (opF T s (s.ev G) o.op) fun v => v.2 = s.H ∧ runCalm r (s.put o.dst v.1) K
      | some (j, want) => bindK (guardVal ds s j want) fun b => guardK b want
          (bindK (opF T s (s.ev G) o.op) fun v => v.2 = s.H ∧ runCalm r (s.put o.dst v.1) K)
          (runCalm r (s.put o.dst (.tup [])) K))
end

section
variable {P : Program} {T : TypeId → Option TI} {G : Nat → Option (List PV)} {ds : List (Option Nat)}

theorem runAuto_plan {S : List Blk → Prop} {K : St → Prop} {ops : List Oper} : ∀ (l : List Oper) (i : Nat) (s : St), (∀ k, l[k]? = ops[i + k]?) → runAuto P T G ds S l s K → runPlan P T G ds S ops (autoPlan i l) s K
  | [], _, _, _, h => h
  | o :: r, i, s, hi, h => by
    have h0 : ops[i]? = some o := by have := hi 0; simpa using this.symm
    have hr : ∀ s, runAuto P T G ds S r s K → runPlan P T G ds S ops (autoPlan (i + 1) r) s K := fun s => runAuto_plan r (i + 1) s fun k => by
      have := hi (k + 1)
      rw [List.getElem?_cons_succ] at this
      rw [this]
      congr 1
      omega
    simp only [runAuto] at h
    unfold autoPlan
    have am : ∀ {A B : St → Prop}, (∀ s, A s → B s) → stepOp P T G o s A → stepOp P T G o s B := fun hAB h => by
      obtain ⟨a, b⟩ := stepOp_iff.1 h
      exact stepOp_iff.2 ⟨a, stepV_mono (fun _ _ h => hAB _ h) b⟩
    cases hc : calmOp o.op with
    | true =>
      rw [hc, if_pos rfl] at h
      refine ⟨o, h0, h.1, ?_⟩
      have h2 := h.2
      split at h2
      · rename_i hg
        try simp only [hg]
        obtain ⟨v, k1, k2, k3⟩ := h2
        exact ⟨v, k1, k2, hr _ k3⟩
      · rename_i j want hg
        try simp only [hg]
        obtain ⟨b, k1, k2⟩ := h2
        obtain ⟨g1, g2⟩ := guardK_out k2
        exact ⟨b, k1, guardK_in (fun e => let ⟨v, k1, k2, k3⟩ := g1 e; ⟨v, k1, k2, hr _ k3⟩) (fun e => hr _ (g2 e))⟩
    | false =>
      rw [hc, if_neg (by simp)] at h
      refine ⟨o, h0, ?_⟩
      split at h
      · rename_i hg
        simp only [hg]
        exact am (fun s h => ⟨h.1, hr _ h.2⟩) h
      · rename_i j want hg
        try simp only [hg]
        obtain ⟨b, k1, k2⟩ := h
        obtain ⟨g1, g2⟩ := guardK_out k2
        exact ⟨b, k1, guardK_in (fun e => am (fun s h => ⟨h.1, hr _ h.2⟩) (g1 e)) (fun e => ⟨(g2 e).1, hr _ (g2 e).2⟩)⟩

/-- A region's operations in a given order. -/
def pick (ops : List Oper) : List Nat → List Oper
  | [] => []
  | i :: r => match ops[i]? with
    | some o => o :: pick ops r
    | none => []
def pickPlan (ops : List Oper) : List Nat → List (Bool × Nat)
  | [] => []
  | i :: r => match ops[i]? with
    | some o => (calmOp o.op, i) :: pickPlan ops r
    | none => []
theorem runAuto_pick {S : List Blk → Prop} {K : St → Prop} {ops : List Oper} : ∀ (l : List Nat) (s : St), runAuto P T G ds S (pick ops l) s K → runPlan P T G ds S ops (pickPlan ops l) s K
  | [], _, h => h
  | i :: r, s, h => by
    have hr : ∀ s, runAuto P T G ds S (pick ops r) s K → runPlan P T G ds S ops (pickPlan ops r) s K := fun s => runAuto_pick r s
    unfold pick at h
    unfold pickPlan
    cases h0 : ops[i]? with
    | none => rw [h0] at h; exact h
    | some o =>
    rw [h0] at h
    dsimp only at h ⊢
    simp only [runAuto] at h
    have am : ∀ {A B : St → Prop}, (∀ s, A s → B s) → stepOp P T G o s A → stepOp P T G o s B := fun hAB h => by
      obtain ⟨a, b⟩ := stepOp_iff.1 h
      exact stepOp_iff.2 ⟨a, stepV_mono (fun _ _ h => hAB _ h) b⟩
    cases hc : calmOp o.op with
    | true =>
      rw [hc, if_pos rfl] at h
      refine ⟨o, h0, h.1, ?_⟩
      have h2 := h.2
      split at h2
      · rename_i hg
        try simp only [hg]
        obtain ⟨v, k1, k2, k3⟩ := h2
        exact ⟨v, k1, k2, hr _ k3⟩
      · rename_i j want hg
        try simp only [hg]
        obtain ⟨b, k1, k2⟩ := h2
        obtain ⟨g1, g2⟩ := guardK_out k2
        exact ⟨b, k1, guardK_in (fun e => let ⟨v, k1, k2, k3⟩ := g1 e; ⟨v, k1, k2, hr _ k3⟩) (fun e => hr _ (g2 e))⟩
    | false =>
      rw [hc, if_neg (by simp)] at h
      refine ⟨o, h0, ?_⟩
      split at h
      · rename_i hg
        simp only [hg]
        exact am (fun s h => ⟨h.1, hr _ h.2⟩) h
      · rename_i j want hg
        try simp only [hg]
        obtain ⟨b, k1, k2⟩ := h
        obtain ⟨g1, g2⟩ := guardK_out k2
        exact ⟨b, k1, guardK_in (fun e => am (fun s h => ⟨h.1, hr _ h.2⟩) (g1 e)) (fun e => ⟨(g2 e).1, hr _ (g2 e).2⟩)⟩

theorem runCalm_auto {K : St → Prop} : ∀ (l : List Oper) (s : St), (l.all fun o => calmOp o.op) = true → runCalm T G ds l s K → runAuto P T G ds (fun H' => H' = s.H) l s K
  | [], _, _, h => h
  | o :: r, s, hc, h => by
    simp only [List.all_cons, Bool.and_eq_true] at hc
    have hr : ∀ s', s'.H = s.H → runCalm T G ds r s' K → runAuto P T G ds (fun H' => H' = s.H) r s' K := fun s' e h => by
      have := runCalm_auto r s' hc.2 h
      rw [e] at this
      exact this
    have st : ∀ v, opF T s (s.ev G) o.op = some v → v.2 = s.H → ∀ H', H' = s.H → opF T { s with H := H' } (St.ev G { s with H := H' }) o.op = some (v.1, H') := fun v h e H' e' => by
      subst e'
      exact h.trans (by rw [← e])
    unfold runAuto
    rw [if_pos hc.1]
    unfold runCalm at h
    refine ⟨h.1, ?_⟩
    have h2 := h.2
    clear h
    cases hg : o.guard with
    | none =>
      rw [hg] at h2
      simp only at h2 ⊢
      obtain ⟨v, k1, k2, k3⟩ := h2
      exact ⟨v, k1, st v k1 k2, hr _ (put_H ..) k3⟩
    | some g =>
      obtain ⟨j, want⟩ := g
      rw [hg] at h2
      simp only at h2 ⊢
      obtain ⟨b, k1, k2⟩ := h2
      obtain ⟨g1, g2⟩ := guardK_out k2
      exact ⟨b, k1, guardK_in (fun e => let ⟨v, k1, k2, k3⟩ := g1 e; ⟨v, k1, st v k1 k2, hr _ (put_H ..) k3⟩) (fun e => hr _ (put_H ..) (g2 e))⟩

/-- A region whose order is drawn, some of whose operations change memory: S, what they leave alone. -/
theorem AWp.drawnS (hT : TOk P T) (hm : P.follows .mixedOrders = true) {s : St} {id : Nat} {ol : List Oper} (hds : ol.map (·.dst) = ds) (hok : planOk .any ol.toArray (autoPlan 0 ol) (Array.replicate ol.length false) = true) (S : List Blk → Prop) {Q : Exit → St → Prop}
    (h : S s.H ∧ runAuto P T G ds S ol s (fun s' => Q .normal s')) : AWp P G (.region id ol.toArray true) Q s :=
  AWp.drawn hT hm hds (autoPlan 0 ol) S (by rw [autoPlan_length, hok]; simp) ⟨h.1, runAuto_plan ol 0 s (fun k => by simp) h.2⟩
/-- The same, in a given order. -/
theorem AWp.drawnP (σ : List Nat) (hT : TOk P T) (hm : P.follows .mixedOrders = true) {s : St} {id : Nat} {ol : List Oper} (hds : ol.map (·.dst) = ds) (hok : ((pickPlan ol σ).length == ol.length && planOk .any ol.toArray (pickPlan ol σ) (Array.replicate ol.length false)) = true) (S : List Blk → Prop) {Q : Exit → St → Prop}
    (h : S s.H ∧ runAuto P T G ds S (pick ol σ) s (fun s' => Q .normal s')) : AWp P G (.region id ol.toArray true) Q s :=
  AWp.drawn hT hm hds (pickPlan ol σ) S hok ⟨h.1, runAuto_pick σ s h.2⟩
/-- A region whose order is drawn, and that changes no memory. -/
theorem AWp.calm (hT : TOk P T) (hm : P.follows .mixedOrders = true) {s : St} {id : Nat} {ol : List Oper} (hds : ol.map (·.dst) = ds) (hok : ((ol.all fun o => calmOp o.op) && planOk .any ol.toArray (autoPlan 0 ol) (Array.replicate ol.length false)) = true) {Q : Exit → St → Prop}
    (h : runCalm T G ds ol s (fun s' => Q .normal s')) : AWp P G (.region id ol.toArray true) Q s := by
  rw [Bool.and_eq_true] at hok
  exact AWp.drawnS hT hm hds hok.2 (fun H' => H' = s.H) ⟨rfl, runCalm_auto ol s hok.1 h⟩
end
attribute [go_sem] calmOp Option.ite_none_right_eq_some
@[congr] theorem runAuto_congr {P : Program} {T : TypeId → Option TI} {G : Nat → Option (List PV)} {ds : List (Option Nat)} {S : List Blk → Prop} {l : List Oper} {s s' : St} {K : St → Prop} (h : s = s') : runAuto P T G ds S l s K = runAuto P T G ds S l s' K := by rw [h]
@[congr] theorem runCalm_congr {T : TypeId → Option TI} {G : Nat → Option (List PV)} {ds : List (Option Nat)} {l : List Oper} {s s' : St} {K : St → Prop} (h : s = s') : runCalm T G ds l s K = runCalm T G ds l s' K := by rw [h]
end Hm
namespace Hm
open Go Go.RowKit

mutual
/-- q says no more than p. -/
def PV.wk : PV → PV → Prop
  | .sl f cs n, .asl g ds m => f = g ∧ cs = ds ∧ n = m
  | .nsl f cs n, .asl g ds m => f = g ∧ cs = ds ∧ n = m
  | .nil, .asl _ ds m => ds = [] ∧ m = 0
  | .agg cs, .agg ds => PV.wks cs ds
  | .sl f cs n, .sl g ds m => f = g ∧ cs = ds ∧ n = m
  | .nil, .nil => True
  | .nil, q => .nil = q
  | .sl f cs n, q => .sl f cs n = q
  | .nsl f cs n, q => .nsl f cs n = q
  | .agg cs, q => .agg cs = q
  | .asl f cs n, q => .asl f cs n = q
  | .int k n, q => .int k n = q
  | .bool b, q => .bool b = q
  | .str s, q => .str s = q
  | .fn f c, q => .fn f c = q
  | .nilfn, q => .nilfn = q
  | .nilp, q => .nilp = q
  | .ip f c o, q => .ip f c o = q
  | .ifc t v, q => .ifc t v = q
  | .nilif, q => .nilif = q
  | .nilmap, q => .nilmap = q
  | .raw v, q => .raw v = q
def PV.wks : List PV → List PV → Prop
  | [], [] => True
  | p :: r, q :: t => PV.wk p q ∧ PV.wks r t
  | _, _ => False
end

theorem wks_length : ∀ {l r : List PV}, PV.wks l r → l.length = r.length
  | [], [], _ => rfl
  | _ :: _, _ :: _, h => congrArg (· + 1) (wks_length h.2)
  | [], _ :: _, h => h.elim
  | _ :: _, [], h => h.elim
theorem wks_get : ∀ {l r : List PV}, PV.wks l r → ∀ (i : Nat) q, r[i]? = some q → ∃ p, l[i]? = some p ∧ PV.wk p q
  | [], [], _, i, q, hq => by cases i <;> cases hq
  | p :: l, q' :: r, h, 0, q, hq => by simp only [List.getElem?_cons_zero, Option.some.injEq] at hq; subst hq; exact ⟨p, rfl, h.1⟩
  | p :: l, q' :: r, h, i + 1, q, hq => wks_get h.2 i q hq
  | [], _ :: _, h, _, _, _ => h.elim
  | _ :: _, [], h, _, _, _ => h.elim

theorem wk_one {p q : PV} (h : p.wk q) : q.one = p.one := by
  unfold PV.wk at h
  split at h <;> first | rfl | (subst h; rfl)

theorem Imm.wk {w : World} {ok : Bool → Nat → Prop} {p : PV} {v : Value} (h : Imm w ok p v) : ∀ {q : PV}, p.wk q → Imm w ok q v := by
  induction h with
  | nil =>
    intro q hq
    cases q <;> simp [PV.wk] at hq
    · exact .nil
    · obtain ⟨rfl, rfl⟩ := hq; exact .asl0 _ _
  | sl f cells len blk off cap vs hl h1 hc hv ih =>
    intro q hq
    have := Imm.sl (w := w) (ok := ok) f cells len blk off cap vs hl h1 hc hv
    cases q <;> simp [PV.wk] at hq <;> obtain ⟨rfl, rfl, rfl⟩ := hq
    · exact this
    · exact .asl _ _ _ _ this
  | nsl0 f cells =>
    intro q hq
    cases q <;> simp [PV.wk] at hq <;> obtain ⟨rfl, rfl, rfl⟩ := hq
    · exact .nsl0 _ _
    · exact .asl0 _ _
  | nsl f cells len v h0 h ih =>
    intro q hq
    cases q <;> simp [PV.wk] at hq <;> obtain ⟨rfl, rfl, rfl⟩ := hq
    · exact .nsl _ _ _ _ h0 h
    · exact .asl _ _ _ _ h
  | agg cells vs hl h1 hv ih =>
    intro q hq
    cases q <;> simp [PV.wk] at hq
    rename_i ds
    refine .agg ds vs (by rw [← wks_length hq]; exact hl) (fun i q hi => ?_) (fun i q v hi hv' => ?_)
    · obtain ⟨p, h2, h3⟩ := wks_get hq i q hi
      rw [wk_one h3]; exact h1 i p h2
    · obtain ⟨p, h2, h3⟩ := wks_get hq i q hi
      exact ih i p v h2 hv' h3
  | slz f cells a cap =>
    intro q hq
    cases q <;> simp [PV.wk] at hq <;> obtain ⟨rfl, rfl, rfl⟩ := hq
    · exact .slz _ _ _ _
    · exact .asl _ _ _ _ (.slz _ _ _ _)
  | asl0 f cells => intro q hq; cases q <;> simp [PV.wk] at hq; obtain ⟨rfl, rfl, rfl⟩ := hq; exact .asl0 _ _
  | asl f cells len v h ih => intro q hq; cases q <;> simp [PV.wk] at hq; obtain ⟨rfl, rfl, rfl⟩ := hq; exact .asl _ _ _ _ h
  | fn f cap vs hl hv ih => intro q hq; cases q <;> simp [PV.wk] at hq; obtain ⟨rfl, rfl⟩ := hq; exact .fn f cap vs hl hv
  | ip f cells off blk o vs h1 hc hv ih => intro q hq; cases q <;> simp [PV.wk] at hq; obtain ⟨rfl, rfl, rfl⟩ := hq; exact .ip f cells off blk o vs h1 hc hv
  | ifc t p v h ih => intro q hq; cases q <;> simp [PV.wk] at hq; obtain ⟨rfl, rfl⟩ := hq; exact .ifc t p v h
  | int k n => intro q hq; cases q <;> simp [PV.wk] at hq; obtain ⟨rfl, rfl⟩ := hq; exact .int _ _
  | bool b => intro q hq; cases q <;> simp [PV.wk] at hq; subst hq; exact .bool _
  | str s => intro q hq; cases q <;> simp [PV.wk] at hq; subst hq; exact .str _
  | nilfn => intro q hq; cases q <;> simp [PV.wk] at hq; exact .nilfn
  | nilp => intro q hq; cases q <;> simp [PV.wk] at hq; exact .nilp
  | nilif => intro q hq; cases q <;> simp [PV.wk] at hq; exact .nilif
  | nilmap => intro q hq; cases q <;> simp [PV.wk] at hq; exact .nilmap
  | raw v h => intro q hq; cases q <;> simp [PV.wk] at hq; subst hq; exact .raw _ h

mutual
def LV.wk : LV → LV → Prop
  | .pv p, .pv q => p.wk q
  | .tup l, .tup r => LV.wks l r
  | x, y => x = y
def LV.wks : List LV → List LV → Prop
  | [], [] => True
  | p :: r, q :: t => LV.wk p q ∧ LV.wks r t
  | _, _ => False
end
theorem lwks_length : ∀ {l r : List LV}, LV.wks l r → l.length = r.length
  | [], [], _ => rfl
  | _ :: _, _ :: _, h => congrArg (· + 1) (lwks_length h.2)
  | [], _ :: _, h => h.elim
  | _ :: _, [], h => h.elim
theorem lwks_get : ∀ {l r : List LV}, LV.wks l r → ∀ (i : Nat) q, r[i]? = some q → ∃ p, l[i]? = some p ∧ LV.wk p q
  | [], [], _, i, q, hq => by cases i <;> cases hq
  | p :: l, q' :: r, h, 0, q, hq => by simp only [List.getElem?_cons_zero, Option.some.injEq] at hq; subst hq; exact ⟨p, rfl, h.1⟩
  | p :: l, q' :: r, h, i + 1, q, hq => lwks_get h.2 i q hq
  | [], _ :: _, h, _, _, _ => h.elim
  | _ :: _, [], h, _, _, _ => h.elim

theorem LR.wk {β : Nat → Nat} {n : Nat} {w : World} {ok : Bool → Nat → Prop} {x : LV} {v : Value} (h : LR β n w ok x v) : ∀ {y : LV}, x.wk y → LR β n w ok y v := by
  induction h with
  | pv h =>
    intro y hy
    cases y with
    | pv q => exact .pv (h.wk (by unfold LV.wk at hy; exact hy))
    | _ => unfold LV.wk at hy; cases hy
  | tup cells vs hl hv ih =>
    intro y hy
    cases y with
    | tup r =>
      have hy : LV.wks cells r := by unfold LV.wk at hy; exact hy
      refine .tup r vs (by rw [← lwks_length hy]; exact hl) fun i q v hi hv' => ?_
      obtain ⟨p, h2, h3⟩ := lwks_get hy i q hi
      exact ih i p v h2 hv' h3
    | _ => unfold LV.wk at hy; cases hy
  | ref b off len esz cap c E fz hb hh hl hs => intro y hy; unfold LV.wk at hy; subst hy; exact .ref b off len esz cap c E fz hb hh hl hs
  | refz b off esz off' hb => intro y hy; unfold LV.wk at hy; subst hy; exact .refz b off esz off' hb
  | nref0 b esz a => intro y hy; unfold LV.wk at hy; subst hy; exact .nref0 b esz a
  | nref b len esz v h0 h ih => intro y hy; unfold LV.wk at hy; subst hy; exact .nref b len esz v h0 h
  | ptr b off hb => intro y hy; unfold LV.wk at hy; subst hy; exact .ptr b off hb
  | agg cells vs hl h1 hv ih => intro y hy; unfold LV.wk at hy; subst hy; exact .agg cells vs hl h1 hv
  | fn f cap vs hl hv ih => intro y hy; unfold LV.wk at hy; subst hy; exact .fn f cap vs hl hv
  | ifc t p v h ih => intro y hy; unfold LV.wk at hy; subst hy; exact .ifc t p v h
  | emp a => intro y hy; unfold LV.wk at hy; subst hy; exact .emp a
  | mref b hb => intro y hy; unfold LV.wk at hy; subst hy; exact .mref b hb
  | dead v => intro y hy; unfold LV.wk at hy; subst hy; exact .dead v

section
variable {P : Program} {T : TypeId → Option TI} {G : Nat → Option (List PV)}

/-- The result as values, and no more of it than is said. -/
theorem Sum.uni {f : FuncId} {args : List PV} {Post : LV → List Blk → Prop} {x : LV} (h : Sum P G f args Post) (hx : ∀ lv H, Post lv H → (lv.toImm H).wk x) : Sum P G f args (Is x []) := by
  refine ⟨h.1, fun w vs hg hl hv => (h.2 w vs hg hl hv).mono ?_⟩
  rintro e w' ⟨v, lv, H, β, rfl, h1, h2, h3⟩
  refine ⟨v, x, [], β, rfl, ⟨rfl, rfl⟩, ⟨h2.below, by simp, by simp, by simp, by simp, by simp⟩, ?_⟩
  exact (toImm_sound h2 (β := β) (n := 0) (ok := okFr w β [] w') (fun b h4 h5 => ⟨rfl, h5, fun _ => h4, by simp⟩) h3).wk (hx lv H h1)

/-- Arguments of which more is known than the contract asks. -/
theorem Sum.args {f : FuncId} {args args' : List PV} {Post : LV → List Blk → Prop} (h : Sum P G f args Post) (ha : PV.wks args' args) : Sum P G f args' Post := by
  refine ⟨h.1, fun w vs hg hl hv => h.2 w vs hg (by rw [← wks_length ha]; exact hl) fun i q v hq hv' => ?_⟩
  obtain ⟨p, h1, h2⟩ := wks_get ha i q hq
  exact (hv i p v h1 hv').wk h2

theorem ACall.isW {s : St} {f : FuncId} {args : List LV} {pvs : List PV} {x : LV} {H : List Blk} {K : LV → List Blk → Prop} (hs : Sum P G f pvs (Is x H)) (ha : bindK (mapO (snap 4 s.H) args) fun p => PV.wks p pvs)
    (hK : K (x.toImm H) s.H) : ACall P G f args s K := by
  obtain ⟨p, h1, h2⟩ := ha
  exact ACall.isI (hs.args h2) h1 hK
/-- A slice that may be nil is nil, or it is not. -/
theorem Sum.asl {f : FuncId} (pre : List PV) {cells : List PV} {n : Nat} {post : List PV} {Post : LV → List Blk → Prop} (h0 : n = 0 → Sum P G f (pre ++ .nil :: post) Post) (h1 : Sum P G f (pre ++ .sl true cells n :: post) Post) :
    Sum P G f (pre ++ .asl true cells n :: post) Post := by
  refine ⟨h1.1, fun w vs hg hl hv => ?_⟩
  have hlt : pre.length < vs.length := by rw [← hl]; simp
  have hm := hv pre.length (.asl true cells n) vs[pre.length] (by simp) (List.getElem?_eq_getElem hlt)
  have rest : ∀ (q : PV), Imm w (fun f b => f = true ∧ b < w.heap.size) q vs[pre.length] → ∀ (i : Nat) p v, (pre ++ q :: post)[i]? = some p → vs[i]? = some v → Imm w (fun f b => f = true ∧ b < w.heap.size) p v := fun q hq i p v hp hv' => by
    by_cases hi : i = pre.length
    · subst hi
      rw [List.getElem?_append_right (Nat.le_refl _)] at hp
      simp at hp
      subst hp
      rw [List.getElem?_eq_getElem hlt] at hv'
      cases hv'
      exact hq
    · refine hv i p v ?_ hv'
      rw [List.getElem?_append] at hp ⊢
      split at hp
      · rw [if_pos ‹_›]; exact hp
      · rw [if_neg ‹_›]
        obtain ⟨k, hk⟩ : ∃ k, i - pre.length = k + 1 := ⟨i - pre.length - 1, by omega⟩
        rw [hk] at hp ⊢
        simpa using hp
  generalize hz : vs[pre.length] = z at hm
  rw [hz] at rest
  cases hm with
  | asl0 => exact (h0 rfl).2 w vs hg (by simpa using hl) (rest _ .nil)
  | asl _ _ _ _ h => exact h1.2 w vs hg (by simpa using hl) (rest _ h)
end
attribute [go_sem] List.take_succ_cons List.take_zero List.drop_zero List.drop_succ_cons List.take_nil List.drop_nil
attribute [go_sem] List.mapM_nil List.mapM_cons Option.pure_def Option.bind_eq_bind List.replicate_zero List.map_append
attribute [go_sem] PV.wk PV.wks LV.wk LV.wks Int.ofNat_lt Int.ofNat_le Int.natCast_inj List.getElem?_map
end Hm
namespace Hm
open Go Go.RowKit

def TypF (R : TypeId → List PV → Prop) : List TypeId → List PV → Prop
  | [], cs => cs = []
  | t :: r, cs => ∃ a b, cs = a ++ b ∧ R t a ∧ TypF R r b
/-- The cells of a value of a type, as data tell of them. -/
def Typ (T : TypeId → Option TI) : Nat → TypeId → List PV → Prop
  | 0, _, _ => False
  | n + 1, t, cs => match T t with
    | none => False
    | some i => match i.und with
      | .bool => ∃ b, cs = [.bool b]
      | .int k => ∃ m, cs = [.int k m] ∧ (Lit.int k m).wf = true
      | .string => ∃ s, cs = [.str s] ∧ s.size ≤ maxLen
      | .slice e => ∃ es : List (List PV), cs = [.asl true es.flatten es.length] ∧ es.length ≤ maxLen ∧ ∀ c ∈ es, Typ T n e c
      | .struct fs => TypF (Typ T n) (fs.toList.map (·.type)) cs
      | .array m e => ∃ es : List (List PV), cs = es.flatten ∧ es.length = m ∧ ∀ c ∈ es, Typ T n e c
      | _ => False

mutual
/-- The cells that data tell of. -/
def datP {H : Type} : DataW H → Option (List PV)
  | .lit (.int k n) => some [.int k n]
  | .lit (.bool b) => some [.bool b]
  | .lit (.string s) => some [.str ⟨s.toArray⟩]
  | .nil => some [.asl true [] 0]
  | .slice es _ => (datPs es).map fun l => [.asl true l.flatten l.length]
  | .agg ds => (datPs ds).map List.flatten
  | _ => none
def datPs {H : Type} : List (DataW H) → Option (List (List PV))
  | [] => some []
  | d :: r => match datP d, datPs r with
    | some a, some b => some (a :: b)
    | _, _ => none
end
theorem datPs_of {H : Type} : ∀ {l : List (DataW H)} {es : List (List PV)}, es.length = l.length → (∀ (i : Nat) c d, es[i]? = some c → l[i]? = some d → datP d = some c) → datPs l = some es
  | [], [], _, _ => rfl
  | d :: l, c :: es, hl, h => by
    have h0 := h 0 c d rfl rfl
    have hr := datPs_of (l := l) (es := es) (by simpa using hl) fun i c d h1 h2 => h (i + 1) c d h1 h2
    simp only [datPs, h0, hr]
  | [], _ :: _, hl, _ => by cases hl
  | _ :: _, [], hl, _ => by cases hl

def contB (T : TypeId → Option TI) (S : TypeId → Bool) (tot : Nat) : Nat → List Field → Bool
  | off, [] => off == tot
  | off, f :: r => f.offset == off && S f.type && match T f.type with
    | some j => contB T S tot (off + j.size) r
    | none => false
/-- Which types this reading takes. -/
def supB (T : TypeId → Option TI) : Nat → TypeId → Bool
  | 0, _ => false
  | n + 1, t => match T t with
    | none => false
    | some i => match i.und with
      | .bool | .int _ | .string => true
      | .slice e => supB T n e
      | .struct fs => contB T (supB T n) i.size 0 fs.toList
      | .array m e => supB T n e && match T e with | some j => m * j.size == i.size | none => false
      | _ => false

def CI (w : World) (ok : Bool → Nat → Prop) (ps : List PV) (cs : List Value) : Prop := ps.length = cs.length ∧ ∀ (i : Nat) p v, ps[i]? = some p → cs[i]? = some v → p.one = true ∧ Imm w ok p v

theorem CI.one {w : World} {ok : Bool → Nat → Prop} {p : PV} {v : Value} (h1 : p.one = true) (h : Imm w ok p v) : CI w ok [p] [v] :=
  ⟨rfl, fun i q u hq hu => by
    cases i with
    | zero => simp at hq hu; subst hq; subst hu; exact ⟨h1, h⟩
    | succ i => simp at hq⟩
theorem CI.append {w : World} {ok : Bool → Nat → Prop} {a b : List PV} {c d : List Value} (h : CI w ok a c) (k : CI w ok b d) : CI w ok (a ++ b) (c ++ d) :=
  ⟨by simp [h.1, k.1], fun i p v hp hv => by
    rw [List.getElem?_append] at hp hv
    split at hp
    · rename_i hi
      rw [if_pos (by rw [← h.1]; exact hi)] at hv
      exact h.2 i p v hp hv
    · rename_i hi
      rw [if_neg (by rw [← h.1]; exact hi), ← h.1] at hv
      exact k.2 _ p v hp hv⟩

theorem exists_list {α : Type} {R : Nat → α → Prop} : ∀ (n : Nat), (∀ i, i < n → ∃ x, R i x) → ∃ l : List α, l.length = n ∧ ∀ (i : Nat) x, l[i]? = some x → R i x
  | 0, _ => ⟨[], rfl, by simp⟩
  | n + 1, h => by
    obtain ⟨l, h1, h2⟩ := exists_list n fun i hi => h i (by omega)
    obtain ⟨x, hx⟩ := h n (by omega)
    refine ⟨l ++ [x], by simp [h1], fun i y hy => ?_⟩
    rw [List.getElem?_append] at hy
    split at hy
    · exact h2 i y hy
    · rename_i hi
      have : i = n := by
        have := (List.getElem?_eq_some_iff.1 hy).1
        simp at this
        omega
      subst this
      simp [h1] at hy
      subst hy
      exact hx

theorem flatten_get {α : Type} {sz : Nat} (hs : 0 < sz) : ∀ {es : List (List α)}, (∀ c ∈ es, c.length = sz) → es.flatten.length = es.length * sz ∧ ∀ j, es.flatten[j]? = (es[j / sz]?).bind fun c => c[j % sz]?
  | [], _ => by simp
  | c :: es, h => by
    obtain ⟨h1, h2⟩ := flatten_get hs (es := es) fun c hc => h c (.tail _ hc)
    have hc := h c (by simp)
    refine ⟨by simp [hc, h1, Nat.add_mul]; omega, fun j => ?_⟩
    rw [List.flatten_cons, List.getElem?_append]
    split
    · rename_i hj
      have e1 : j / sz = 0 := Nat.div_eq_of_lt (by omega)
      have e2 : j % sz = j := Nat.mod_eq_of_lt (by omega)
      rw [e1, e2]; rfl
    · rename_i hj
      rw [h2, hc]
      have e1 : j / sz = (j - sz) / sz + 1 := by
        have : j = (j - sz) + sz := by omega
        rw [this, Nat.add_div_right _ hs]
        simp
      have e2 : j % sz = (j - sz) % sz := by
        have : j = (j - sz) + sz := by omega
        rw [this, Nat.add_mod_right]
        simp
      rw [e1, e2, List.getElem?_cons_succ]

section
variable {H : Type} {enc : TypeId × Value → H} {P : Program} {T : TypeId → Option TI} {w : World} {base : Nat} {spare : Nat → Bool} {held : Bool}

theorem TOk.cellsOf (hT : TOk P T) {t : TypeId} {i : TI} (h : T t = some i) : P.cellsOf t = i.size := by
  obtain ⟨inf, z, vs, h1, h2, _⟩ := (hT t i h).info
  simp [Program.cellsOf, h1, h2]

/-- In memory that was there when the call began. -/
def okW (w : World) (f : Bool) (b : Nat) : Prop := f = true ∧ b < w.heap.size

theorem trodF (hT : TOk P T) {n : Nat} {tot : Nat} {cs : List Value} (htot : cs.length = tot) {f : Field → Option (DataW H × List MemPlace)} (ih : ∀ g x, supB T n g.type = true → f g = some x → ∃ ps, Typ T n g.type ps ∧ CI w (okW w) ps ((cs.drop g.offset).take (P.cellsOf g.type)) ∧ datP x.1 = some ps) :
    ∀ (fs : List Field) (off : Nat) (xs : List (DataW H × List MemPlace)), contB T (supB T n) tot off fs = true → off ≤ tot → fs.mapM f = some xs → ∃ ps, TypF (Typ T n) (fs.map (·.type)) ps ∧ CI w (okW w) ps (cs.drop off) ∧ ∃ parts, datPs (xs.map (·.1)) = some parts ∧ ps = parts.flatten
  | [], off, xs, hc, _, hm => by
    have : off = tot := by simpa [contB] using hc
    subst this
    have : xs = [] := by simpa using hm.symm
    subst this
    refine ⟨[], rfl, ⟨?_, by simp⟩, [], rfl, rfl⟩
    simp [htot]
  | g :: fs, off, xs, hc, hle, hm => by
    simp only [contB, Bool.and_eq_true, beq_iff_eq] at hc
    obtain ⟨⟨h1, h2⟩, h3⟩ := hc
    split at h3
    · rename_i j hj
      rw [List.mapM_cons] at hm
      simp only [Option.bind_eq_bind, Option.bind_eq_some_iff] at hm
      obtain ⟨x, hx, ys, hys, hxy⟩ := hm
      have hxy : xs = x :: ys := by simpa using hxy.symm
      subst hxy
      obtain ⟨a, ha1, ha2, ha3⟩ := ih g x h2 hx
      rw [hT.cellsOf hj, h1] at ha2
      have hoff : off + j.size ≤ tot := by
        clear ih ha3 ha2 ha1 hys hx
        have mono : ∀ (fs : List Field) (o : Nat), contB T (supB T n) tot o fs = true → o ≤ tot := by
          intro fs
          induction fs with
          | nil => intro o h; have : o = tot := by simpa [contB] using h
                   omega
          | cons g fs ih =>
            intro o h
            simp only [contB, Bool.and_eq_true, beq_iff_eq] at h
            have h3 := h.2
            split at h3
            · have := ih _ h3; omega
            · cases h3
        exact mono fs _ h3
      obtain ⟨b, hb1, hb2, parts, hb3, hb4⟩ := trodF hT htot ih fs (off + j.size) ys h3 hoff hys
      refine ⟨a ++ b, ⟨a, b, rfl, ha1, hb1⟩, ?_, a :: parts, by simp only [List.map_cons, datPs, ha3, hb3], by rw [hb4]; rfl⟩
      have e : cs.drop off = (cs.drop off).take j.size ++ cs.drop (off + j.size) := by
        rw [← List.drop_drop, List.take_append_drop]
      rw [e]
      exact ha2.append hb2
    · cases h3

theorem mapM_opt {α γ : Type} {f : α → Option γ} : ∀ {l : List α} {xs : List γ}, l.mapM f = some xs → xs.length = l.length ∧ ∀ (i : Nat) a, l[i]? = some a → ∃ y, xs[i]? = some y ∧ f a = some y
  | [], xs, h => by
    have : xs = [] := by simpa using h.symm
    subst this
    exact ⟨rfl, by simp⟩
  | a :: l, xs, h => by
    rw [List.mapM_cons] at h
    simp only [Option.bind_eq_bind, Option.bind_eq_some_iff] at h
    obtain ⟨x, hx, ys, hys, hxy⟩ := h
    have hxy : xs = x :: ys := by simpa using hxy.symm
    subst hxy
    obtain ⟨h1, h2⟩ := mapM_opt hys
    refine ⟨by simp [h1], fun i b hb => ?_⟩
    cases i with
    | zero => simp at hb; subst hb; exact ⟨x, rfl, hx⟩
    | succ i => exact h2 i b hb
theorem mapM_range {γ : Type} {f : Nat → Option γ} {n : Nat} {xs : List γ} (h : (List.range n).mapM f = some xs) : xs.length = n ∧ ∀ i, i < n → ∃ y, xs[i]? = some y ∧ f i = some y := by
  obtain ⟨h1, h2⟩ := mapM_opt h
  exact ⟨by simpa using h1, fun i hi => h2 i i (by simp [hi])⟩
theorem TOk1.pos {t : TypeId} {i : TI} (h : TOk1 P t i) : 0 < i.size := by
  obtain ⟨_, _, _, _, _, _, _, _, _, _, _, h2⟩ := h.info
  exact h2
theorem cell_spot {a : Addr} {v : Value} (h : w.cell? a = some v) : a.spot = none := by
  unfold World.cell? at h
  split at h
  · split at h
    · cases h
    · rename_i hs; simpa using hs
  · cases h
theorem cell_lt {a : Addr} {v : Value} (h : w.cell? a = some v) : a.block < w.heap.size := by
  unfold World.cell? at h
  split at h
  · rename_i hb
    exact (Array.getElem?_eq_some_iff.1 hb).1
  · cases h

theorem trod_typ (hT : TOk P T) : ∀ (n fuel : Nat) (t : TypeId) (cs : List Value) (x : DataW H × List MemPlace), supB T n t = true → DataW.trod enc P w base spare held fuel t cs = some x → ∃ ps, Typ T n t ps ∧ CI w (okW w) ps cs ∧ datP x.1 = some ps := by
  intro n
  induction n with
  | zero => intro fuel t cs x h; cases h
  | succ n ih =>
    intro fuel t cs x hs h
    cases fuel with
    | zero => simp [DataW.trod] at h
    | succ fuel =>
      unfold supB at hs
      split at hs
      · cases hs
      · rename_i i hi
        have hu := (hT t i hi).und
        unfold Typ
        rw [hi]
        simp only
        split at hs
        · rename_i hd
          rw [hd] at hu
          unfold DataW.trod at h
          rw [hu] at h
          simp only at h
          split at h <;> first | (cases h; done) | skip
          all_goals first | (rename_i he; cases he) | skip
          exact ⟨_, ⟨_, rfl⟩, CI.one rfl (.bool _), by cases h; rfl⟩
        · rename_i k hd
          rw [hd] at hu
          obtain ⟨m, rfl, hx, hw⟩ := DataW.trod_int hu h
          exact ⟨_, ⟨m, rfl, hw⟩, CI.one rfl (.int _ _), by rw [hx]; rfl⟩
        · rename_i hd
          rw [hd] at hu
          unfold DataW.trod at h
          rw [hu] at h
          simp only at h
          split at h <;> first | (cases h; done) | skip
          all_goals first | (rename_i he; cases he; done) | skip
          rename_i s hcs
          split at h
          · rename_i hle
            exact ⟨_, ⟨s, rfl, hle⟩, CI.one rfl (.str _), by cases h; rfl⟩
          · cases h
        · rename_i e hd
          rw [hd] at hu
          rcases DataW.trod_slice hu h with ⟨rfl, hx⟩ | ⟨a, len, cap, elems, rest, fuel', _, rfl, hx, hb, hl, hm, hlen, hel, _⟩
          · exact ⟨_, ⟨[], rfl, by simp, by simp⟩, CI.one rfl (.asl0 _ _), by rw [hx]; rfl⟩
          · obtain ⟨j, hj⟩ : ∃ j, T e = some j := by
              cases n with
              | zero => cases hs
              | succ n => unfold supB at hs; split at hs
                          · cases hs
                          · rename_i j hj; exact ⟨j, hj⟩
            have hsz := hT.cellsOf hj
            have hpos := (hT e j hj).pos
            have each : ∀ i, i < len → ∃ ps : List PV, Typ T n e ps ∧ (∃ cs, w.cells? base (a.add (i * j.size)) j.size = some cs ∧ CI w (okW w) ps cs) ∧ ∃ y, elems[i]? = some y ∧ datP y.1 = some ps := fun i hi => by
              have h1 := hel i hi
              rw [hsz] at h1
              have h2 : elems[i]? = some elems[i] := List.getElem?_eq_getElem (by omega)
              rw [h2, Option.bind_eq_some_iff] at h1
              obtain ⟨cs, h3, h4⟩ := h1
              obtain ⟨ps, h5, h6, h7⟩ := ih _ e cs _ hs h4
              exact ⟨ps, h5, ⟨cs, h3, h6⟩, _, h2, h7⟩
            obtain ⟨es, he1, he2⟩ := exists_list len each
            have hes : ∀ c ∈ es, c.length = j.size := fun c hc => by
              obtain ⟨i, hi⟩ := List.getElem?_of_mem hc
              obtain ⟨_, ⟨cs, h3, h4⟩, _⟩ := he2 i c hi
              rw [h4.1]; exact (World.cells?_some h3).2.1
            obtain ⟨hf1, hf2⟩ := flatten_get hpos hes
            refine ⟨_, ⟨es, rfl, by omega, fun c hc => ?_⟩, CI.one rfl ?_, ?_⟩
            · obtain ⟨i, hi⟩ := List.getElem?_of_mem hc
              exact (he2 i c hi).1
            · by_cases h0 : len = 0
              · subst h0
                rw [he1]
                exact .asl _ _ _ _ (.slz _ _ _ _)
              · have cell : ∀ q p, es.flatten[q]? = some p → ∃ v, w.cell? (a.add q) = some v ∧ p.one = true ∧ Imm w (okW w) p v := fun q p hq => by
                  rw [hf2, Option.bind_eq_some_iff] at hq
                  obtain ⟨c, h1, h2⟩ := hq
                  obtain ⟨_, ⟨cs, h3, h4⟩, _⟩ := he2 _ c h1
                  obtain ⟨h5, h6, h7⟩ := World.cells?_some h3
                  have h8 : q % j.size < j.size := Nat.mod_lt _ hpos
                  have h9 := h7 _ h8
                  have e1 : (a.add (q / j.size * j.size)).add (q % j.size) = a.add q := by
                    rw [Addr.add_add]
                    congr 1
                    have := Nat.div_add_mod q j.size
                    rw [Nat.mul_comm] at this
                    exact this
                  rw [e1] at h9
                  have h10 : cs[q % j.size]? = some (cs[q % j.size]'(by omega)) := List.getElem?_eq_getElem _
                  rw [h10] at h9
                  have := h4.2 _ p _ h2 h10
                  exact ⟨_, h9, this.1, this.2⟩
                have hlen0 : 0 < es.flatten.length := by rw [hf1, he1]; exact Nat.mul_pos (by omega) hpos
                obtain ⟨v0, hv0, _⟩ := cell 0 _ (List.getElem?_eq_getElem hlen0)
                have hsp : a.spot = none := by
                  have : a.add 0 = a := by simp [Addr.add]
                  rw [this] at hv0
                  exact cell_spot hv0
                obtain ⟨blk, off, spot⟩ := a
                simp only at hsp
                subst hsp
                have ea : ∀ q, (⟨blk, off, none⟩ : Addr).add q = ⟨blk, off + q, none⟩ := fun q => by
                  unfold Addr.add; split
                  · rename_i h; simp [h]
                  · rfl
                rw [he1]
                refine .asl _ _ _ _ (.sl true _ _ blk off cap (fun q => (w.cell? ⟨blk, off + q, none⟩).getD undef) (by omega) (fun q p hq => ?_) (fun q hq => ?_) fun q p hq => ?_)
                · obtain ⟨v, h1, h2, h3⟩ := cell q p hq; exact h2
                · obtain ⟨v, h1, h2, h3⟩ := cell q _ (List.getElem?_eq_getElem hq)
                  rw [ea] at h1
                  exact ⟨⟨rfl, cell_lt h1⟩, by rw [h1]; rfl⟩
                · obtain ⟨v, h1, h2, h3⟩ := cell q p hq
                  rw [ea] at h1
                  rw [h1]
                  exact h3
            · rw [hx]
              have : datPs (elems.map (·.1)) = some es := datPs_of (by simp; omega) fun i c d h1 h2 => by
                obtain ⟨_, _, y, h3, h4⟩ := he2 i c h1
                rw [List.getElem?_map, h3] at h2
                simp only [Option.map_some, Option.some.injEq] at h2
                rw [← h2]; exact h4
              simp only [datP, this, Option.map_some]
        · rename_i fs hd
          rw [hd] at hu
          unfold DataW.trod at h
          rw [hu] at h
          simp only at h
          split at h
          · rename_i hl
            simp only [Option.map_eq_some_iff] at h
            obtain ⟨xs, hm, rfl⟩ := h
            obtain ⟨ps, h1, h2, parts, h3, h4⟩ := trodF hT (n := n) (tot := i.size) (cs := cs) (by rw [hl]; exact hT.cellsOf hi) (fun g x hg hx => ih fuel g.type _ x hg hx) fs.toList 0 xs hs (Nat.zero_le _) hm
            exact ⟨ps, h1, by simpa using h2, by simp only [datP, h3, Option.map_some, h4]⟩
          · cases h
        · rename_i m e hd
          rw [hd] at hu
          rw [Bool.and_eq_true] at hs
          obtain ⟨hs, hs2⟩ := hs
          split at hs2
          · rename_i j hj
            have hsz := hT.cellsOf hj
            have hpos := (hT e j hj).pos
            have htot : m * j.size = i.size := by simpa using hs2
            unfold DataW.trod at h
            rw [hu] at h
            simp only at h
            split at h
            · rename_i hl
              rw [hT.cellsOf hi] at hl
              simp only [Option.map_eq_some_iff] at h
              obtain ⟨xs, hm, rfl⟩ := h
              obtain ⟨hxl, hxs⟩ := mapM_range hm
              have each : ∀ k, k < m → ∃ ps : List PV, Typ T n e ps ∧ CI w (okW w) ps ((cs.drop (k * j.size)).take j.size) ∧ ∃ y, xs[k]? = some y ∧ datP y.1 = some ps := fun k hk => by
                obtain ⟨y, h1, h2⟩ := hxs k hk
                rw [hsz] at h2
                obtain ⟨ps, h5, h6, h7⟩ := ih _ e _ y hs h2
                exact ⟨ps, h5, h6, y, h1, h7⟩
              obtain ⟨es, he1, he2⟩ := exists_list m each
              have hes : ∀ c ∈ es, c.length = j.size := fun c hc => by
                obtain ⟨i', hi'⟩ := List.getElem?_of_mem hc
                have hlt := (List.getElem?_eq_some_iff.1 hi').1
                rw [(he2 i' c hi').2.1.1]
                have : i' * j.size + j.size ≤ m * j.size := by
                  rw [← Nat.succ_mul]; exact Nat.mul_le_mul_right _ (by omega)
                simp
                omega
              obtain ⟨hf1, hf2⟩ := flatten_get hpos hes
              refine ⟨es.flatten, ⟨es, rfl, he1, fun c hc => ?_⟩, ⟨by rw [hf1, he1, hl, htot], fun q p v hp hv => ?_⟩, ?_⟩
              · obtain ⟨i', hi'⟩ := List.getElem?_of_mem hc
                exact (he2 i' c hi').1
              · rw [hf2, Option.bind_eq_some_iff] at hp
                obtain ⟨c, h1, h2⟩ := hp
                have h3 := (he2 _ c h1).2.1
                refine h3.2 _ p v h2 ?_
                rw [List.getElem?_take, if_pos (Nat.mod_lt _ hpos), List.getElem?_drop]
                have := Nat.div_add_mod q j.size
                rw [Nat.mul_comm] at this
                rw [this]; exact hv
              · have : datPs (xs.map (·.1)) = some es := datPs_of (by simp; omega) fun i c d h1 h2 => by
                  obtain ⟨_, _, y, h3, h4⟩ := he2 i c h1
                  rw [List.getElem?_map, h3] at h2
                  simp only [Option.map_some, Option.some.injEq] at h2
                  rw [← h2]; exact h4
                simp only [datP, this, Option.map_some]
            · cases h
          · cases hs2
        · cases hs
end
end Hm
namespace Hm
open Go Go.RowKit

def TypV (T : TypeId → Option TI) (n : Nat) (t : TypeId) (q : PV) : Prop := match T t with
  | some i => if isAggD i.und = true then ∃ ps, q = .agg ps ∧ Typ T n t ps else Typ T n t [q]
  | none => False
def TypVs (T : TypeId → Option TI) (n : Nat) : List TypeId → List PV → Prop
  | [], [] => True
  | t :: ts, q :: qs => TypV T n t q ∧ TypVs T n ts qs
  | _, _ => False

section
variable {H : Type} {enc : TypeId × Value → H} {P : Program} {T : TypeId → Option TI} {G : Nat → Option (List PV)} {W : World} {base b0 : Nat} {spare : Nat → Bool} {held : Bool}

theorem agg_cells (v : Value) (hv : ∀ cs, v ≠ .agg cs) : v.cells = #[v] := by
  cases v <;> first | rfl | exact absurd rfl (hv _)

theorem arg_typ (hT : TOk P T) {n : Nat} {t : TypeId} {v : Value} {d : DataW H} {p : List MemPlace} (hs : supB T n t = true) (hval : Value.okWide P W .any b0 t v) (h : DataW.Trod enc P W base spare held t v d p) : ∃ q, TypV T n t q ∧ Imm W (okW W) q v := by
  obtain ⟨fuel, hf⟩ := h
  obtain ⟨ps, h1, h2, _⟩ := trod_typ hT n fuel t _ _ hs hf
  obtain ⟨i, hi⟩ : ∃ i, T t = some i := by
    cases n with
    | zero => cases hs
    | succ n => unfold supB at hs; split at hs
                · cases hs
                · rename_i j hj; exact ⟨j, hj⟩
  have hu := (hT t i hi).und
  unfold TypV
  rw [hi]
  simp only
  unfold Value.okWide at hval
  by_cases ha : isAggD i.und = true
  · simp only [if_pos ha]
    have : ∃ cs, v = .agg cs := by
      rw [hu] at hval
      cases hd : i.und <;> rw [hd] at ha hval <;> first | (simp [isAggD] at ha; done) | skip
      all_goals (obtain ⟨cs, h3, _⟩ := hval; exact ⟨cs, h3⟩)
    obtain ⟨cs, rfl⟩ := this
    refine ⟨.agg ps, ⟨ps, rfl, h1⟩, .agg ps cs (by simpa [Value.cells] using h2.1) (fun j p hp => ?_) fun j p v hp hv => ?_⟩
    · have hlt : j < cs.size := by
        have := (List.getElem?_eq_some_iff.1 hp).1
        have h3 := h2.1
        simp [Value.cells] at h3
        omega
      exact (h2.2 j p cs[j] hp (by simp [Value.cells, hlt])).1
    · exact (h2.2 j p v hp (by simpa [Value.cells] using hv)).2
  · simp only [if_neg ha]
    have hv : ∀ cs, v ≠ .agg cs := fun cs e => by
      subst e
      rw [hu] at hval
      unfold supB at hs
      cases n with
      | zero => cases hs
      | succ n =>
        simp only [hi] at hs
        cases hd : i.und <;> rw [hd] at ha hval hu hs <;> first | (simp [isAggD] at ha; done) | (simp at hs; done) | skip
        all_goals (simp [Cell.okWide, Cell.ok, hu] at hval)
    rw [agg_cells v hv] at h2
    obtain ⟨q, rfl⟩ : ∃ q, ps = [q] := List.length_eq_one_iff.1 (by simpa using h2.1)
    exact ⟨q, h1, (h2.2 0 q v rfl (by simp)).2⟩

theorem args_typ (hT : TOk P T) {n : Nat} : ∀ {ts : List TypeId} {vs : List Value} {ds : List (DataW H)} {p : List MemPlace}, (∀ t ∈ ts, supB T n t = true) → (∀ (j : Nat) t v, ts[j]? = some t → vs[j]? = some v → Value.okWide P W .any b0 t v) →
    DataW.TrodAll enc P W base spare held ts vs ds p → ∃ qs, TypVs T n ts qs ∧ qs.length = vs.length ∧ ∀ (i : Nat) q v, qs[i]? = some q → vs[i]? = some v → Imm W (okW W) q v
  | [], [], [], _, _, _, _ => ⟨[], trivial, rfl, by simp⟩
  | t :: ts, v :: vs, d :: ds, _, hs, hv, ⟨p, q, h1, h2, _⟩ => by
    obtain ⟨x, h3, h4⟩ := arg_typ hT (hs t (by simp)) (hv 0 t v rfl rfl) h1
    obtain ⟨qs, h5, h6, h7⟩ := args_typ hT (fun t ht => hs t (.tail _ ht)) (fun j t v ht hv' => hv (j + 1) t v ht hv') h2
    refine ⟨x :: qs, ⟨h3, h5⟩, by simp [h6], fun i q v hq hv' => ?_⟩
    cases i with
    | zero => simp at hq hv'; subst hq; subst hv'; exact h4
    | succ i => exact h7 i q v hq hv'
  | [], _ :: _, _, _, _, _, h => h.elim
  | [], [], _ :: _, _, _, _, h => h.elim
  | _ :: _, [], _, _, _, _, h => h.elim
  | _ :: _, _ :: _, [], _, _, _, h => h.elim

/-- A law that is true of all values of its types returns true, and changes nothing that was there. -/
theorem law_calls (hT : TOk P T) {n : Nat} {f : FuncId} {ts : List TypeId} (hlaw : ∀ qs, TypVs T n ts qs → Sum P G f qs (Is (.pv (.bool true)) [])) (hG : GOk G W) (hs : ∀ t ∈ ts, supB T n t = true) {args : Array Value} {ds : List (DataW H)} {p : List MemPlace}
    (hv : ∀ (j : Nat) t v, ts[j]? = some t → args[j]? = some v → Value.okWide P W .any b0 t v) (h : DataW.TrodAll enc P W base spare held ts args.toList ds p) :
    Calls P f args W fun e W' => e = .returned (.bool true) ∧ Below W.heap.size W W' := by
  obtain ⟨qs, h1, h2, h3⟩ := args_typ hT hs (fun j t v ht hv' => hv j t v ht (by simpa using hv')) h
  refine ((hlaw qs h1).2 W args.toList hG h2 h3).mono ?_
  rintro e W' ⟨v, lv, H, β, rfl, ⟨rfl, rfl⟩, h4, h5⟩
  cases h5 with | pv h5 =>
  generalize v = z at h5
  cases h5
  exact ⟨rfl, h4.below⟩

theorem args_back (hl : laidOutB P = true) {W' : World} (hb : Below W.heap.size W W') : ∀ {ts : List TypeId} {vs : List Value} {ds : List (DataW H)} {p : List MemPlace}, (∀ t ∈ ts, P.readableRec t = true ∧ t < P.types.size) →
    DataW.TrodAll enc P W 0 (fun _ => true) true ts vs ds p → DataW.TrodAll enc P W' 0 (fun b => decide (b < W.heap.size)) true ts vs ds p
  | [], [], [], _, _, h => h
  | t :: ts, v :: vs, d :: ds, _, hs, ⟨p, q, h1, h2, e⟩ => by
    refine ⟨p, q, Below.trod hl (hs t (by simp)).1 (hs t (by simp)).2 h1 hb ?_, args_back hl hb (fun t ht => hs t (.tail _ ht)) h2, e⟩
    obtain ⟨m, hm⟩ := h1
    exact DataW.trod_lt m _ _ _ hm
  | [], _ :: _, _, _, _, h => h.elim
  | [], [], _ :: _, _, _, h => h.elim
  | _ :: _, [], _, _, _, h => h.elim
  | _ :: _, _ :: _, [], _, _, h => h.elim

/-- What a laid variable holds. -/
theorem laid_imm (hT : TOk P T) {n : Nat} : ∀ {l : List (String × DataW Unit)} {ps : List MemPlace}, DataW.LaidVars P W l ps → ∀ {name : String} {d : DataW Unit} {g : Nat} {t : TypeId} {cells : List PV}, (name, d) ∈ l → P.globalNamed name = some g → (P.globals[g]?).map (·.type) = some t → supB T n t = true → datP d = some cells →
    cells ≠ [] → Imm W (okW W) (.ip true cells 0) (.pointer (some ⟨g, 0, none⟩))
  | (n0, d0) :: r, ps, ⟨g', t', cs, fuel, p, q, h1, h2, h3, h4, h5, _⟩, name, d, g, t, cells, hm, hg, ht, hs, hd, hne => by
    rcases List.mem_cons.1 hm with e | hm
    · cases e
      have : g' = g := by rw [hg] at h1; exact (Option.some.inj h1).symm
      subst this
      have : t' = t := by rw [ht] at h2; exact (Option.some.inj h2).symm
      subst this
      obtain ⟨ps', h6, h7, h8⟩ := trod_typ hT n fuel t' _ _ hs h4
      rw [hd] at h8
      cases h8
      have cell : ∀ (i : Nat) p, cells[i]? = some p → ∃ v, W.cell? ⟨g', i, none⟩ = some v ∧ p.one = true ∧ Imm W (okW W) p v := fun i p hp => by
        have hlt : i < cs.toList.length := by rw [← h7.1]; exact (List.getElem?_eq_some_iff.1 hp).1
        have hv : cs.toList[i]? = some cs.toList[i] := List.getElem?_eq_getElem hlt
        have := h7.2 i p _ hp hv
        exact ⟨cs.toList[i], by rw [World.var?_cell hg h3 i, ← Array.getElem?_toList]; exact hv, this.1, this.2⟩
      have := Imm.ip (w := W) (ok := okW W) true cells 0 g' 0 (fun i => (W.cell? ⟨g', i, none⟩).getD undef) (fun i p hp => by
        obtain ⟨v, _, h, _⟩ := cell i p hp; exact h) (fun i hi => by
        obtain ⟨v, h, _, _⟩ := cell i _ (List.getElem?_eq_getElem hi)
        rw [Nat.zero_add]
        exact ⟨⟨rfl, cell_lt h⟩, by rw [h]; rfl⟩) (fun i p hp => by
        obtain ⟨v, h, _, h'⟩ := cell i p hp
        rw [h]; exact h')
      exact this
    · exact laid_imm hT h5 hm hg ht hs hd hne
end
end Hm
namespace Hm
open Go Go.RowKit

/-! What comes behind a piece of code, or an operation; simp does not look into it. -/
def SeqK (P : Program) (G : Nat → Option (List PV)) (y : Code) (Q : Exit → St → Prop) (e : Exit) (s : St) : Prop := AThen (AWp P G y Q) Q e s
def RK (P : Program) (T : TypeId → Option TI) (G : Nat → Option (List PV)) (ds : List (Option Nat)) (rest : List Oper) (K : St → Prop) (s : St) : Prop := runOps P T G ds rest s K
def RC (T : TypeId → Option TI) (G : Nat → Option (List PV)) (ds : List (Option Nat)) (rest : List Oper) (K : St → Prop) (s : St) : Prop := runCalm T G ds rest s K
def RA (P : Program) (T : TypeId → Option TI) (G : Nat → Option (List PV)) (ds : List (Option Nat)) (S : List Blk → Prop) (rest : List Oper) (K : St → Prop) (s : St) : Prop := runAuto P T G ds S rest s K
@[congr] theorem SeqK_congr {P : Program} {G : Nat → Option (List PV)} {y : Code} {Q : Exit → St → Prop} {e e' : Exit} {s s' : St} (h : e = e') (k : s = s') : SeqK P G y Q e s = SeqK P G y Q e' s' := by rw [h, k]
@[congr] theorem RK_congr {P : Program} {T : TypeId → Option TI} {G : Nat → Option (List PV)} {ds : List (Option Nat)} {rest : List Oper} {K : St → Prop} {s s' : St} (k : s = s') : RK P T G ds rest K s = RK P T G ds rest K s' := by rw [k]
@[congr] theorem RC_congr {T : TypeId → Option TI} {G : Nat → Option (List PV)} {ds : List (Option Nat)} {rest : List Oper} {K : St → Prop} {s s' : St} (k : s = s') : RC T G ds rest K s = RC T G ds rest K s' := by rw [k]
@[congr] theorem RA_congr {P : Program} {T : TypeId → Option TI} {G : Nat → Option (List PV)} {ds : List (Option Nat)} {S : List Blk → Prop} {rest : List Oper} {K : St → Prop} {s s' : St} (k : s = s') : RA P T G ds S rest K s = RA P T G ds S rest K s' := by rw [k]
section
variable {P : Program} {T : TypeId → Option TI} {G : Nat → Option (List PV)} {s : St} {Q : Exit → St → Prop}
@[go_sem] theorem SeqK_normal (y : Code) (s : St) : SeqK P G y Q .normal s = AWp P G y Q s := rfl
@[go_sem] theorem SeqK_ret (y : Code) (s : St) : SeqK P G y Q .ret s = Q .ret s := rfl
@[go_sem] theorem SeqK_exit (y : Code) (id : Nat) (s : St) : SeqK P G y Q (.exit id) s = Q (.exit id) s := rfl
@[go_sem] theorem SeqK_goto (y : Code) (id : Nat) (s : St) : SeqK P G y Q (.goto id) s = Q (.goto id) s := rfl
theorem AWp.seqN {x y : Code} (h : AWp P G x (SeqK P G y Q) s) : AWp P G (.seq x y) Q s := AWp.seq h
end

section
variable {P : Program} {T : TypeId → Option TI} {G : Nat → Option (List PV)} {ds : List (Option Nat)} {o : Oper} {rest : List Oper} {s : St} {K : St → Prop} {j d : Nat} {want b : Bool}

theorem RK.out (h : runOps P T G ds rest s K) : RK P T G ds rest K s := h
theorem RC.out (h : runCalm T G ds rest s K) : RC T G ds rest K s := h
theorem runOps_nil (h : K s) : runOps P T G ds [] s K := h
theorem runOps_step (hg : o.guard = none) (h : stepOp P T G o s (RK P T G ds rest K)) : runOps P T G ds (o :: rest) s K := by
  unfold runOps
  rw [hg]
  exact h
theorem runOps_guard (hg : o.guard = some (j, want)) (hd : ds[j]? = some (some d)) (eB : gv (slot s.fr d) want = some b)
    (h1 : b = want → stepOp P T G o s (RK P T G ds rest K)) (h2 : b ≠ want → dstOk o.dst s.n ∧ RK P T G ds rest K (s.put o.dst (.tup []))) : runOps P T G ds (o :: rest) s K := by
  unfold runOps
  rw [hg]
  refine ⟨b, ?_, ?_⟩
  · simp only [guardVal, hd, eB]
  · exact guardK_in h1 h2

theorem runOps_guardQ (hg : o.guard = some (j, want)) (hd : ds[j]? = some (some d))
    (h : bindK (gv (slot s.fr d) want) fun b => (b = want → stepOp P T G o s (RK P T G ds rest K)) ∧ (b ≠ want → dstOk o.dst s.n ∧ RK P T G ds rest K (s.put o.dst (.tup [])))) : runOps P T G ds (o :: rest) s K := by
  obtain ⟨b, h0, h1, h2⟩ := h
  refine runOps_guard hg hd (b := b) ?_ h1 h2
  exact h0

theorem runCalm_nil (h : K s) : runCalm T G ds [] s K := h
theorem runCalm_step (hg : o.guard = none) (h : dstOk o.dst s.n ∧ bindK (opF T s (s.ev G) o.op) fun v => v.2 = s.H ∧ RC T G ds rest K (s.put o.dst v.1)) : runCalm T G ds (o :: rest) s K := by
  unfold runCalm
  rw [hg]
  exact h
theorem runCalm_guard (hg : o.guard = some (j, want)) (hd : ds[j]? = some (some d)) (eB : gv (slot s.fr d) want = some b) (eD : dstOk o.dst s.n)
    (h1 : b = want → bindK (opF T s (s.ev G) o.op) fun v => v.2 = s.H ∧ RC T G ds rest K (s.put o.dst v.1)) (h2 : b ≠ want → RC T G ds rest K (s.put o.dst (.tup []))) : runCalm T G ds (o :: rest) s K := by
  unfold runCalm
  rw [hg]
  refine ⟨eD, b, ?_, ?_⟩
  · simp only [guardVal, hd, eB]
  · exact guardK_in h1 h2

theorem runCalm_guardQ (hg : o.guard = some (j, want)) (hd : ds[j]? = some (some d))
    (h : dstOk o.dst s.n ∧ bindK (gv (slot s.fr d) want) fun b => (b = want → bindK (opF T s (s.ev G) o.op) fun v => v.2 = s.H ∧ RC T G ds rest K (s.put o.dst v.1)) ∧ (b ≠ want → RC T G ds rest K (s.put o.dst (.tup [])))) : runCalm T G ds (o :: rest) s K := by
  obtain ⟨hdst, b, h0, h1, h2⟩ := h
  refine runCalm_guard hg hd (b := b) ?_ hdst h1 h2
  exact h0

variable {S : List Blk → Prop}
theorem RA.out (h : runAuto P T G ds S rest s K) : RA P T G ds S rest K s := h
theorem runAuto_nil (h : K s) : runAuto P T G ds S [] s K := h
theorem runAuto_calm (hc : calmOp o.op = true) (hg : o.guard = none) (h : dstOk o.dst s.n ∧ bindK (opF T s (s.ev G) o.op) fun v => (∀ H', S H' → opF T { s with H := H' } (St.ev G { s with H := H' }) o.op = some (v.1, H')) ∧ RA P T G ds S rest K (s.put o.dst v.1)) :
    runAuto P T G ds S (o :: rest) s K := by
  unfold runAuto
  rw [if_pos hc, hg]
  exact h
theorem runAuto_calmG (hc : calmOp o.op = true) (hg : o.guard = some (j, want)) (hd : ds[j]? = some (some d)) (eB : gv (slot s.fr d) want = some b) (eD : dstOk o.dst s.n)
    (h1 : b = want → bindK (opF T s (s.ev G) o.op) fun v => (∀ H', S H' → opF T { s with H := H' } (St.ev G { s with H := H' }) o.op = some (v.1, H')) ∧ RA P T G ds S rest K (s.put o.dst v.1)) (h2 : b ≠ want → RA P T G ds S rest K (s.put o.dst (.tup []))) :
    runAuto P T G ds S (o :: rest) s K := by
  unfold runAuto
  rw [if_pos hc, hg]
  refine ⟨eD, b, ?_, ?_⟩
  · simp only [guardVal, hd, eB]
  · exact guardK_in h1 h2
theorem stepOp_mono {A B : St → Prop} (hAB : ∀ s, A s → B s) (h : stepOp P T G o s A) : stepOp P T G o s B := by
  obtain ⟨a, b⟩ := stepOp_iff.1 h
  exact stepOp_iff.2 ⟨a, stepV_mono (fun _ _ h => hAB _ h) b⟩
theorem runAuto_eff (hc : calmOp o.op = false) (hg : o.guard = none) (h : stepOp P T G o s fun s' => S s'.H ∧ RA P T G ds S rest K s') : runAuto P T G ds S (o :: rest) s K := by
  unfold runAuto
  rw [if_neg (by simp [hc]), hg]
  exact h
theorem runAuto_effG (hc : calmOp o.op = false) (hg : o.guard = some (j, want)) (hd : ds[j]? = some (some d)) (eB : gv (slot s.fr d) want = some b)
    (h1 : b = want → stepOp P T G o s fun s' => S s'.H ∧ RA P T G ds S rest K s') (h2 : b ≠ want → dstOk o.dst s.n ∧ RA P T G ds S rest K (s.put o.dst (.tup []))) :
    runAuto P T G ds S (o :: rest) s K := by
  unfold runAuto
  rw [if_neg (by simp [hc]), hg]
  refine ⟨b, ?_, ?_⟩
  · simp only [guardVal, hd, eB]
  · exact guardK_in h1 h2
theorem runAuto_calmGQ (hc : calmOp o.op = true) (hg : o.guard = some (j, want)) (hd : ds[j]? = some (some d))
    (h : dstOk o.dst s.n ∧ bindK (gv (slot s.fr d) want) fun b => (b = want → bindK (opF T s (s.ev G) o.op) fun v => (∀ H', S H' → opF T { s with H := H' } (St.ev G { s with H := H' }) o.op = some (v.1, H')) ∧ RA P T G ds S rest K (s.put o.dst v.1)) ∧ (b ≠ want → RA P T G ds S rest K (s.put o.dst (.tup [])))) :
    runAuto P T G ds S (o :: rest) s K := by
  obtain ⟨hdst, b, h0, h1, h2⟩ := h
  refine runAuto_calmG hc hg hd (b := b) ?_ hdst h1 h2
  exact h0
theorem runAuto_effGQ (hc : calmOp o.op = false) (hg : o.guard = some (j, want)) (hd : ds[j]? = some (some d))
    (h : bindK (gv (slot s.fr d) want) fun b => (b = want → stepOp P T G o s fun s' => S s'.H ∧ RA P T G ds S rest K s') ∧ (b ≠ want → dstOk o.dst s.n ∧ RA P T G ds S rest K (s.put o.dst (.tup [])))) :
    runAuto P T G ds S (o :: rest) s K := by
  obtain ⟨b, h0, h1, h2⟩ := h
  refine runAuto_effG hc hg hd (b := b) ?_ h1 h2
  exact h0
end

mutual
/-- A value with less told of its slices. -/
def PV.gen : PV → PV
  | .sl f cs n => .asl f cs n
  | .nsl f cs n => .asl f cs n
  | .nil => .asl true [] 0
  | .agg cs => .agg (PV.gens cs)
  | .int k n => .int k n
  | .bool b => .bool b
  | .str s => .str s
  | .asl f cs n => .asl f cs n
  | .fn f c => .fn f c
  | .nilfn => .nilfn
  | .nilp => .nilp
  | .ip f c o => .ip f c o
  | .ifc t v => .ifc t v
  | .nilif => .nilif
  | .nilmap => .nilmap
  | .raw v => .raw v
def PV.gens : List PV → List PV
  | [] => []
  | p :: r => p.gen :: PV.gens r
end
mutual
theorem gen_wk : ∀ p : PV, p.wk p.gen
  | .sl f cs n => by unfold PV.gen PV.wk; exact ⟨rfl, rfl, rfl⟩
  | .nsl f cs n => by unfold PV.gen PV.wk; exact ⟨rfl, rfl, rfl⟩
  | .nil => by unfold PV.gen PV.wk; exact ⟨rfl, rfl⟩
  | .agg cs => by unfold PV.gen PV.wk; exact gens_wk cs
  | .int k n => by unfold PV.gen PV.wk; rfl
  | .bool b => by unfold PV.gen PV.wk; rfl
  | .str s => by unfold PV.gen PV.wk; rfl
  | .asl f cs n => by unfold PV.gen PV.wk; rfl
  | .fn f c => by unfold PV.gen PV.wk; rfl
  | .nilfn => by unfold PV.gen PV.wk; rfl
  | .nilp => by unfold PV.gen PV.wk; rfl
  | .ip f c o => by unfold PV.gen PV.wk; rfl
  | .ifc t v => by unfold PV.gen PV.wk; rfl
  | .nilif => by unfold PV.gen PV.wk; rfl
  | .nilmap => by unfold PV.gen PV.wk; rfl
  | .raw v => by unfold PV.gen PV.wk; rfl
theorem gens_wk : ∀ l : List PV, PV.wks l (PV.gens l)
  | [] => trivial
  | p :: r => ⟨gen_wk p, gens_wk r⟩
end
theorem gens_ints (k : IntKind) (l : List Int) : PV.gens (l.map (PV.int k)) = l.map (PV.int k) := by
  induction l with
  | nil => rfl
  | cons a l ih => simp only [List.map_cons, PV.gens, PV.gen, ih]
theorem gens_append : ∀ (a b : List PV), PV.gens (a ++ b) = PV.gens a ++ PV.gens b
  | [], _ => rfl
  | p :: r, b => by simp only [List.cons_append, PV.gens, gens_append r b]
attribute [go_sem] PV.gen PV.gens gens_ints gens_append
/-- What goes on behind a call. -/
structure Keep (X : Prop) : Prop where
  out : X
/-- A call by a contract in which the arguments' slices are told of in one way. -/
theorem ACall.gen {P : Program} {G : Nat → Option (List PV)} {s : St} {f : FuncId} {args : List LV} {p pvs : List PV} {x : LV} {H : List Blk} {K : LV → List Blk → Prop} (eA : mapO (snap 4 s.H) args = some p) (eG : PV.gens p = pvs) (eS : Sum P G f pvs (Is x H))
    (eK : Keep (K (x.toImm H) s.H)) : ACall P G f args s K :=
  ACall.isW eS ⟨p, eA, eG ▸ gens_wk p⟩ eK.out
/-- The same, with the result's new blocks. -/
theorem ACall.genS {P : Program} {G : Nat → Option (List PV)} {s : St} {f : FuncId} {args : List LV} {p pvs : List PV} {Post : LV → List Blk → Prop} {K : LV → List Blk → Prop} (eA : mapO (snap 4 s.H) args = some p) (eG : PV.gens p = pvs) (eS : Sum P G f pvs Post)
    (eK : ∀ lv H, Post lv H → K (lv.shift s.H.length) (s.H ++ H)) : ACall P G f args s K :=
  ACall.sum (eS.args (eG ▸ gens_wk p)) eA eK
theorem ACall.genR {P : Program} {G : Nat → Option (List PV)} {s : St} {f : FuncId} {args : List LV} {p pvs : List PV} {x : LV} {H : List Blk} {K : LV → List Blk → Prop} (eA : mapO (snap 4 s.H) args = some p) (eG : PV.gens p = pvs) (eS : Sum P G f pvs (Is x H))
    (eK : Keep (K (x.shift s.H.length) (s.H ++ H))) : ACall P G f args s K :=
  ACall.genS eA eG eS (by rintro _ _ ⟨rfl, rfl⟩; exact eK.out)
theorem freshs_append (a b : List PV) : PV.freshs (a ++ b) = (PV.freshs a && PV.freshs b) := by rw [freshs_eq, freshs_eq, freshs_eq, List.all_append]
theorem olds_append (a b : List PV) : PV.olds (a ++ b) = PV.olds a ++ PV.olds b := by rw [olds_eq, olds_eq, olds_eq, List.map_append]
attribute [go_sem] freshs_append olds_append
def insN (b : Nat) (l : List Nat) : List Nat := if b ∈ l then l else l ++ [b]
def unN : List Nat → List Nat → List Nat
  | l, [] => l
  | l, b :: r => unN (insN b l) r
/-- The blocks to which a value leads. -/
def LV.refs : Nat → LV → List Nat
  | _, .ref b _ _ _ => [b]
  | _, .nref b _ _ => [b]
  | _, .ptr b _ => [b]
  | _, .mref b => [b]
  | n + 1, .agg cs => cs.foldl (fun l x => unN l (LV.refs n x)) []
  | n + 1, .tup cs => cs.foldl (fun l x => unN l (LV.refs n x)) []
  | n + 1, .fn _ cs => cs.foldl (fun l x => unN l (LV.refs n x)) []
  | n + 1, .ifc _ x => LV.refs n x
  | _, _ => []
theorem refs_pv (n : Nat) (p : PV) : LV.refs n (.pv p) = [] := by cases n <;> rfl
theorem refs_ref (n b o l e : Nat) : LV.refs n (.ref b o l e) = [b] := by cases n <;> rfl
theorem refs_nref (n b l e : Nat) : LV.refs n (.nref b l e) = [b] := by cases n <;> rfl
theorem refs_ptr (n b o : Nat) : LV.refs n (.ptr b o) = [b] := by cases n <;> rfl
theorem refs_mref (n b : Nat) : LV.refs n (.mref b) = [b] := by cases n <;> rfl
theorem refs_dead (n : Nat) : LV.refs n .dead = [] := by cases n <;> rfl
theorem refs_agg (n : Nat) (cs : List LV) : LV.refs (n + 1) (.agg cs) = cs.foldl (fun l x => unN l (LV.refs n x)) [] := rfl
theorem refs_tup (n : Nat) (cs : List LV) : LV.refs (n + 1) (.tup cs) = cs.foldl (fun l x => unN l (LV.refs n x)) [] := rfl
theorem refs_fn (n : Nat) (f : FuncId) (cs : List LV) : LV.refs (n + 1) (.fn f cs) = cs.foldl (fun l x => unN l (LV.refs n x)) [] := rfl
theorem refs_ifc (n : Nat) (t : TypeId) (x : LV) : LV.refs (n + 1) (.ifc t x) = LV.refs n x := rfl
attribute [go_sem] refs_pv refs_ref refs_nref refs_ptr refs_mref refs_dead refs_agg refs_tup refs_fn refs_ifc insN unN List.foldl_cons List.foldl_nil List.mem_cons List.not_mem_nil or_false
theorem BodyPost.retA {T : TypeId → Option TI} {s : St} {rs : List ResultVar} {Post : LV → List Blk → Prop} (h : bindK (mapO (resP T s) rs) fun lvs => RetP T s rs (LV.refs 3 (retLV lvs)) Post) : BodyPost T rs Post .ret s :=
  let ⟨_, _, h⟩ := h
  .ret _ h
theorem BodyPost.norA {T : TypeId → Option TI} {s : St} {rs : List ResultVar} {Post : LV → List Blk → Prop} (h : bindK (mapO (resP T s) rs) fun lvs => RetP T s rs (LV.refs 3 (retLV lvs)) Post) : BodyPost T rs Post .normal s :=
  let ⟨_, _, h⟩ := h
  ⟨.inr rfl, h.out⟩
theorem cons_eq {a b : PV} {l r : List PV} (h : a = b) (k : l = r) : a :: l = b :: r := by rw [h, k]
theorem asl_eq {f : Bool} {c d : List PV} {n m : Nat} (h : c = d) (k : n = m) : PV.asl f c n = PV.asl f d m := by rw [h, k]
theorem agg_eq {l r : List PV} (h : l = r) : PV.agg l = PV.agg r := by rw [h]
theorem drop_map {α γ : Type} (f : α → γ) (l : List α) (n : Nat) : (l.map f).drop n = (l.drop n).map f := (List.map_drop ..).symm
theorem take_map {α γ : Type} (f : α → γ) (l : List α) (n : Nat) : (l.map f).take n = (l.take n).map f := (List.map_take ..).symm
attribute [go_sem] drop_map take_map
@[congr] theorem stepOp_congr {P : Program} {T : TypeId → Option TI} {G : Nat → Option (List PV)} {o : Oper} {K : St → Prop} {s s' : St} (k : s = s') : stepOp P T G o s K = stepOp P T G o s' K := by rw [k]
/-- A loop whose heads look alike; π₀: the blocks at its beginning, π: behind a round. -/
theorem AWp.loopP {P : Program} {G : Nat → Option (List PV)} {c : Code} {Q : Exit → St → Prop} {s : St} {α : Type} (live π₀ π : List Nat) (st : α → St) (J : α → Prop) (μ : α → Nat) (x0 : α) (hup : upB s.up π₀ = true)
    (h0 : J x0 ∧ bindK (s.norm live π₀) fun t => t = st x0) (round : ∀ x, J x → AWp P G c (AThen (fun s' => upB s'.up π = true ∧ ∃ x', J x' ∧ μ x' < μ x ∧ bindK (s'.norm live π) fun t => t = st x') Q) (st x)) : AWp P G (.loop c) Q s := by
  obtain ⟨hJ, t, h1, rfl⟩ := h0
  refine AWp.weak (St.norm_weak hup h1) ?_
  refine AWp.loop (fun g s => ∃ x, J x ∧ μ x = g ∧ s = st x) (μ x0) ⟨x0, hJ, rfl, rfl⟩ ?_
  rintro g s ⟨x, hx, rfl, rfl⟩
  refine AWp.mono ?_ (round x hx)
  intro e s' h
  cases e with
  | normal =>
    obtain ⟨hu, x', h2, h3, t, h4, rfl⟩ := h
    exact ⟨μ x', h3, _, St.norm_weak hu h4, x', h2, rfl, rfl⟩
  | _ => exact h
@[go_sem] theorem set_int (k : IntKind) (l : List Int) (i : Nat) (x : Int) : (l.map (PV.int k)).set i (.int k x) = (l.set i x).map (PV.int k) := List.map_set.symm
theorem gd (l : List Int) (k : Nat) (h : k < l.length) : l[k]? = some (l.getD k 0) := by simp [h]
theorem Sum.uniW {P : Program} {G : Nat → Option (List PV)} {f : FuncId} {args : List PV} {x : LV} (h : Sum P G f args (fun lv H => (lv.toImm H).wk x)) : Sum P G f args (Is x []) := h.uni fun _ _ h => h
@[go_sem] theorem int_beq (a b : Int) : (a == b) = decide (a = b) := by by_cases h : a = b <;> simp [h]
@[go_sem] theorem int_bne (a b : Int) : (a != b) = decide (¬ a = b) := by by_cases h : a = b <;> simp [h]
@[go_sem] theorem bool_beq (a b : Bool) : (a == b) = decide (a = b) := by cases a <;> cases b <;> rfl
theorem le_self (n : Nat) : (n ≤ n) = True := by simp
@[go_sem] theorem repl1 {α : Type} (x : α) : List.replicate 1 x = [x] := rfl
@[go_sem] theorem repl2 {α : Type} (x : α) : List.replicate 2 x = [x, x] := rfl
@[go_sem] theorem repl3 {α : Type} (x : α) : List.replicate 3 x = [x, x, x] := rfl
@[go_sem] theorem repl4 {α : Type} (x : α) : List.replicate 4 x = [x, x, x, x] := rfl
@[go_sem] theorem repl5 {α : Type} (x : α) : List.replicate 5 x = [x, x, x, x, x] := rfl
@[go_sem] theorem repl6 {α : Type} (x : α) : List.replicate 6 x = [x, x, x, x, x, x] := rfl
@[go_sem] theorem repl7 {α : Type} (x : α) : List.replicate 7 x = [x, x, x, x, x, x, x] := rfl
@[go_sem] theorem repl8 {α : Type} (x : α) : List.replicate 8 x = [x, x, x, x, x, x, x, x] := rfl
@[go_sem] theorem repl9 {α : Type} (x : α) : List.replicate 9 x = [x, x, x, x, x, x, x, x, x] := rfl
@[go_sem] theorem repl10 {α : Type} (x : α) : List.replicate 10 x = [x, x, x, x, x, x, x, x, x, x] := rfl
@[go_sem] theorem repl11 {α : Type} (x : α) : List.replicate 11 x = [x, x, x, x, x, x, x, x, x, x, x] := rfl
@[go_sem] theorem repl12 {α : Type} (x : α) : List.replicate 12 x = [x, x, x, x, x, x, x, x, x, x, x, x] := rfl
@[go_sem] theorem repl13 {α : Type} (x : α) : List.replicate 13 x = [x, x, x, x, x, x, x, x, x, x, x, x, x] := rfl
@[go_sem] theorem repl14 {α : Type} (x : α) : List.replicate 14 x = [x, x, x, x, x, x, x, x, x, x, x, x, x, x] := rfl
@[go_sem] theorem repl15 {α : Type} (x : α) : List.replicate 15 x = [x, x, x, x, x, x, x, x, x, x, x, x, x, x, x] := rfl
@[go_sem] theorem repl16 {α : Type} (x : α) : List.replicate 16 x = [x, x, x, x, x, x, x, x, x, x, x, x, x, x, x, x] := rfl
@[go_sem] theorem repl17 {α : Type} (x : α) : List.replicate 17 x = [x, x, x, x, x, x, x, x, x, x, x, x, x, x, x, x, x] := rfl
@[go_sem] theorem repl18 {α : Type} (x : α) : List.replicate 18 x = [x, x, x, x, x, x, x, x, x, x, x, x, x, x, x, x, x, x] := rfl
@[go_sem] theorem repl19 {α : Type} (x : α) : List.replicate 19 x = [x, x, x, x, x, x, x, x, x, x, x, x, x, x, x, x, x, x, x] := rfl
@[go_sem] theorem repl20 {α : Type} (x : α) : List.replicate 20 x = [x, x, x, x, x, x, x, x, x, x, x, x, x, x, x, x, x, x, x, x] := rfl
@[go_sem] theorem repl21 {α : Type} (x : α) : List.replicate 21 x = [x, x, x, x, x, x, x, x, x, x, x, x, x, x, x, x, x, x, x, x, x] := rfl
@[go_sem] theorem repl22 {α : Type} (x : α) : List.replicate 22 x = [x, x, x, x, x, x, x, x, x, x, x, x, x, x, x, x, x, x, x, x, x, x] := rfl
@[go_sem] theorem repl23 {α : Type} (x : α) : List.replicate 23 x = [x, x, x, x, x, x, x, x, x, x, x, x, x, x, x, x, x, x, x, x, x, x, x] := rfl
@[go_sem] theorem repl24 {α : Type} (x : α) : List.replicate 24 x = [x, x, x, x, x, x, x, x, x, x, x, x, x, x, x, x, x, x, x, x, x, x, x, x] := rfl
attribute [go_sem] le_self List.take_replicate Nat.min_self List.map_replicate
attribute [go_sem] Int.zero_add Int.add_zero Int.sub_zero Int.mul_one Int.one_mul Int.sub_self
theorem take_all {α : Type} (l : List α) (n : Nat) (h : l.length ≤ n) : l.take n = l := List.take_of_length_le h
theorem olds_repl (n : Nat) (k : IntKind) (x : Int) : PV.olds (List.replicate n (.int k x)) = List.replicate n (.int k x) := by rw [olds_eq, List.map_replicate]; rfl
theorem freshs_repl (n : Nat) (k : IntKind) (x : Int) : PV.freshs (List.replicate n (.int k x)) = true := by rw [freshs_eq]; simp [PV.fresh]
theorem gens_repl (n : Nat) (k : IntKind) (x : Int) : PV.gens (List.replicate n (.int k x)) = List.replicate n (.int k x) := by
  induction n with
  | zero => rfl
  | succ n ih => rw [List.replicate_succ, PV.gens, PV.gen, ih]
attribute [go_sem] take_all olds_repl freshs_repl gens_repl List.isEmpty_nil List.isEmpty_cons beq_self_eq_true Blk.isRow
attribute [go_sem] Bool.not_eq_true' Bool.not_eq_false' decide_not
end Hm
namespace Hm
open Go Go.RowKit
/-! ### A callee that is entered where it is called -/
def enumLV : Nat → List LV → List (Nat × LV)
  | _, [] => []
  | k, p :: r => (k, p) :: enumLV (k + 1) r
theorem enumLV_get : ∀ {l : List LV} {k t : Nat} {lv : LV}, (enumLV k l).lookup t = some lv → k ≤ t ∧ l[t - k]? = some lv
  | [], k, t, lv, h => by cases h
  | p :: r, k, t, lv, h => by
    simp only [enumLV, List.lookup_cons] at h
    by_cases e : t = k
    · subst e; simp at h; subst h; exact ⟨Nat.le_refl _, by simp⟩
    · have e' : (t == k) = false := by simp [e]
      rw [e'] at h
      obtain ⟨h1, h2⟩ := enumLV_get h
      have : t - k = (t - (k + 1)) + 1 := by omega
      exact ⟨by omega, by rw [this]; simpa using h2⟩
/-- It leads to none but the first m blocks. -/
inductive LV.bd (m : Nat) : LV → Prop
  | pv (p : PV) : LV.bd m (.pv p)
  | ref (b off len esz : Nat) (h : b < m) : LV.bd m (.ref b off len esz)
  | nref0 (b esz : Nat) : LV.bd m (.nref b 0 esz)
  | nref (b len esz : Nat) (h : b < m) : LV.bd m (.nref b len esz)
  | ptr (b off : Nat) (h : b < m) : LV.bd m (.ptr b off)
  | agg (cs : List LV) (h : ∀ (i : Nat) c, cs[i]? = some c → LV.bd m c) : LV.bd m (.agg cs)
  | fn (f : FuncId) (cs : List LV) (h : ∀ (i : Nat) c, cs[i]? = some c → LV.bd m c) : LV.bd m (.fn f cs)
  | tup (cs : List LV) (h : ∀ (i : Nat) c, cs[i]? = some c → LV.bd m c) : LV.bd m (.tup cs)
  | ifc (t : TypeId) (x : LV) (h : LV.bd m x) : LV.bd m (.ifc t x)
  | emp : LV.bd m .emp
  | mref (b : Nat) (h : b < m) : LV.bd m (.mref b)
  | dead : LV.bd m .dead
section
variable {β : Nat → Nat} {n m : Nat} {w : World} {ok : Bool → Nat → Prop} {lv : LV} {v : Value}
theorem LR.bd (h : LR β n w ok lv v) : lv.bd n := by
  induction h with
  | pv h => exact .pv _
  | ref b off len esz cap c E fz hb => exact .ref _ _ _ _ hb
  | refz b off esz a hb => exact .ref _ _ _ _ hb
  | nref0 => exact .nref0 _ _
  | nref b len esz v h0 h ih => cases ih with | ref _ _ _ _ hb => exact .nref _ _ _ hb
  | ptr b off hb => exact .ptr _ _ hb
  | agg cells vs hl h1 hv ih =>
    exact .agg _ fun i c hc => by
      have : i < vs.size := by have := (List.getElem?_eq_some_iff.1 hc).1; omega
      exact ih i c vs[i] hc (by simp [this])
  | fn f cells vs hl hv ih =>
    exact .fn _ _ fun i c hc => by
      have : i < vs.size := by have := (List.getElem?_eq_some_iff.1 hc).1; omega
      exact ih i c vs[i] hc (by simp [this])
  | tup cells vs hl hv ih =>
    exact .tup _ fun i c hc => by
      have : i < vs.size := by have := (List.getElem?_eq_some_iff.1 hc).1; omega
      exact ih i c vs[i] hc (by simp [this])
  | ifc t p v h ih => exact .ifc _ _ ih
  | emp => exact .emp
  | mref b hb => exact .mref _ hb
  | dead => exact .dead
theorem LR.cut (h : LR β n w ok lv v) : lv.bd m → LR β m w ok lv v := by
  induction h with
  | pv h => exact fun _ => .pv h
  | ref b off len esz cap c E fz hb hh hl hs => exact fun k => by cases k with | ref _ _ _ _ hb => exact .ref _ _ _ _ _ _ _ _ hb hh hl hs
  | refz b off esz a hb => exact fun k => by cases k with | ref _ _ _ _ hb => exact .refz _ _ _ _ hb
  | nref0 b esz a => exact fun _ => .nref0 _ _ _
  | nref b len esz v h0 h ih =>
    exact fun k => by
      cases k with
      | nref0 => omega
      | nref _ _ _ hb => exact .nref _ _ _ _ h0 (ih (.ref _ _ _ _ hb))
  | ptr b off hb => exact fun k => by cases k with | ptr _ _ hb => exact .ptr _ _ hb
  | agg cells vs hl h1 hv ih => exact fun k => by cases k with | agg _ h => exact .agg _ _ hl h1 fun i p v hp hv => ih i p v hp hv (h i p hp)
  | fn f cells vs hl hv ih => exact fun k => by cases k with | fn _ _ h => exact .fn _ _ _ hl fun i p v hp hv => ih i p v hp hv (h i p hp)
  | tup cells vs hl hv ih => exact fun k => by cases k with | tup _ h => exact .tup _ _ hl fun i p v hp hv => ih i p v hp hv (h i p hp)
  | ifc t p v h ih => exact fun k => by cases k with | ifc _ _ k => exact .ifc _ _ _ (ih k)
  | emp a => exact fun _ => .emp _
  | mref b hb => exact fun k => by cases k with | mref _ hb => exact .mref _ hb
  | dead v => exact fun _ => .dead _
end
section
variable {P : Program} {T : TypeId → Option TI} {G : Nat → Option (List PV)} {w0 : World} {β : Nat → Nat} {s : St} {acts : List Act} {a : Act} {w : World}
/-- A callee's beginning. -/
theorem Rel.enter {s1 : St} (hr : Rel G w0 β s1 acts a w) {n : Nat} {args : List LV} {vs : List Value} (hl : args.length = vs.length) (hle : args.length ≤ n)
    (hv : ∀ (i : Nat) lv v, args[i]? = some lv → vs[i]? = some v → LR β s1.H.length w (okOf w0 β s1.H w) lv v) :
    Rel G w0 β { n := n, fr := enumLV 0 args, H := s1.H, up := (s1.H.length, s1.fr) :: s1.up } (a :: acts) { tmps := vs.toArray ++ Array.replicate (n - vs.toArray.size) undef, defers := [] } w := by
  refine ⟨hr.below, rfl, by simp; omega, hr.ge, hr.lt, hr.inj, hr.blk, ?_, ?_, hr.gl⟩
  · intro t lv hlk
    obtain ⟨_, h2⟩ := enumLV_get hlk
    simp only [Nat.sub_zero] at h2
    have ht : t < vs.length := by have := (List.getElem?_eq_some_iff.1 h2).1; omega
    have h3 := hv t lv vs[t] h2 (by simp [ht])
    have h4 : (vs.toArray ++ Array.replicate (n - vs.toArray.size) undef).getD t undef = vs[t] := by
      have h5 : t < (vs.toArray ++ Array.replicate (n - vs.toArray.size) undef).size := by simp; omega
      simp only [Array.getD, h5, dite_true]
      rw [Array.getInternal_eq_getElem, Array.getElem_append_left (by simpa using ht)]
      simp
    rw [h4]
    exact h3
  · intro i f hf
    cases i with
    | zero =>
      simp only [List.getElem?_cons_zero, Option.some.injEq] at hf
      subst hf
      exact ⟨Nat.le_refl _, a, rfl, hr.fr⟩
    | succ i =>
      simp only [List.getElem?_cons_succ] at hf
      obtain ⟨h1, act, h2, h3⟩ := hr.up i f hf
      exact ⟨h1, act, by simpa using h2, h3⟩
/-- A callee's end: what it hands back, told of the caller's blocks and some new ones. -/
def InlPost (T : TypeId → Option TI) (rs : List ResultVar) (up : List (Nat × List (Nat × LV))) (K : LV → List Blk → Prop) (e : Exit) (s : St) : Prop :=
  (e = .ret ∨ e = .normal) ∧ s.up = up ∧ bindK (mapO (resP T s) rs) fun lvs => ∃ π, upB s.up π = true ∧ bindK (St.norm [0] π { n := 1, fr := [(0, retLV lvs)], H := s.H, up := s.up }) fun t => K (slot t.fr 0) t.H
theorem norm_up {live π : List Nat} {s t : St} (h : s.norm live π = some t) : t.up = s.up := by
  unfold St.norm at h
  split at h
  · split at h
    · simp only [Option.some.injEq] at h; subst h; rfl
    · cases h
  · cases h
theorem ACall.enterL (hT : TOk P T) {f : FuncId} {fn : Func} {c : Code} {n : Nat} {rs : Array ResultVar} (hf : P.funcs[f]? = some fn) (hb : fn.body = some c) (hname : (fn.name == "runtime.NumGoroutine") = false)
    (hn : fn.ntmps = n) (hrs : fn.results = rs) {args : List LV} (hle : args.length ≤ n) {K : LV → List Blk → Prop}
    (h : ∀ fr, AWp P G c (InlPost T rs.toList ((s.H.length, fr) :: s.up) K) { n := n, fr := enumLV 0 args, H := s.H, up := (s.H.length, fr) :: s.up }) : ACall P G f args s K := by
  subst hn hrs
  refine fun s1 w0 β acts a w vs e1 e2 hr hl hv => Runs.of ⟨fn, hf, by rw [hb]; rfl, hname⟩ (calls_of_wp hf hb ?_)
  rw [← e1] at hv
  have hrc := hr.enter hl hle hv
  rw [e1, e2] at hrc
  refine wp_mono (h s1.fr w0 β (a :: acts) _ w hrc) ?_
  rintro e a' w' ⟨s', β', ⟨he, hu, lvs, h1, π, h2, t, h3, h4⟩, hr'⟩
  obtain ⟨v, h6, h7⟩ := run_results hT hr' h1
  have hr2 : Rel G w0 β' { n := 1, fr := [(0, retLV lvs)], H := s'.H, up := s'.up } (a :: acts) { tmps := #[v], defers := [] } w' := by
    refine ⟨hr'.below, rfl, rfl, hr'.ge, hr'.lt, hr'.inj, hr'.blk, fun t lv hl => ?_, hr'.up, hr'.gl⟩
    simp only [List.lookup_cons] at hl
    by_cases e : t = 0
    · subst e; simp at hl; subst hl; simpa using h7
    · have e' : (t == 0) = false := by simp [e]
      rw [e'] at hl; cases hl
  obtain ⟨β'', hr3⟩ := St.norm_weak (G := G) (s := { n := 1, fr := [(0, retLV lvs)], H := s'.H, up := s'.up }) h2 h3 w0 β' (a :: acts) _ w' hr2
  have hup : t.up = (s.H.length, s1.fr) :: s.up := (norm_up h3).trans hu
  have h8 := hr3.slot 0
  have fin : Rel G w0 β'' { s1 with H := t.H } acts a w' := by
    refine ⟨hr3.below, hr.nodef, hr.sz, hr3.ge, hr3.lt, hr3.inj, hr3.blk, ?_, ?_, hr3.gl⟩
    · obtain ⟨hm, act, k1, k2⟩ := hr3.up 0 (s.H.length, s1.fr) (by rw [hup]; rfl)
      simp only [List.getElem?_cons_zero, Option.some.injEq] at k1
      subst k1
      exact fun t lv hl => (k2 t lv hl).mono hm (fun _ _ => rfl) (fun _ c _ fz h => ⟨c, fz, h, rfl⟩) (fun _ _ _ => rfl) (fun _ _ h => h)
    · intro i f hf
      obtain ⟨hm, act, k1, k2⟩ := hr3.up (i + 1) f (by rw [hup, ← e2]; exact hf)
      exact ⟨hm, act, by simpa using k1, k2⟩
  rcases he with rfl | rfl
  · exact ⟨hr'.nodef, v, h6, v, slot t.fr 0, t.H, β'', rfl, h4, fin, by simpa using h8⟩
  · exact ⟨hr'.nodef, v, h6, v, slot t.fr 0, t.H, β'', rfl, h4, fin, by simpa using h8⟩
/-- No block but new ones leads to new ones. -/
def Chg (m : Nat) (H H' : List Blk) : Prop := m ≤ H'.length ∧ ∀ (i : Nat) B, i < m → H'[i]? = some B → H[i]? = some B ∨ ∀ (j : Nat) lv, B.get j = some lv → lv.bd m
theorem Chg.refl (H : List Blk) : Chg H.length H H := ⟨Nat.le_refl _, fun _ _ _ h => .inl h⟩
theorem Chg.app {m : Nat} {H H' g : List Blk} (h : Chg m H H') : Chg m H (H' ++ g) := ⟨by rw [List.length_append]; have := h.1; omega, fun i B hi hB => h.2 i B hi (by
  rw [List.getElem?_append_left (by have := h.1; omega)] at hB; exact hB)⟩
theorem Chg.set {m b : Nat} {H H' : List Blk} {X : Blk} (h : Chg m H H') (hX : ∀ (j : Nat) lv, X.get j = some lv → lv.bd m) : Chg m H (H'.set b X) := ⟨by rw [List.length_set]; exact h.1, fun i B hi hB => by
  by_cases hb : b < H'.length
  · rcases getElem?_set hb hB with ⟨rfl, rfl⟩ | ⟨h1, h2⟩
    · exact .inr hX
    · exact h.2 i B hi h2
  · rw [List.set_eq_of_length_le (by omega)] at hB
    exact h.2 i B hi hB⟩
theorem Chg.setP {m b : Nat} {H H' : List Blk} {cs : List PV} (h : Chg m H H') : Chg m H (H'.set b (.p cs)) := h.set fun j lv hj => by
  simp only [Blk.get, Option.map_eq_some_iff] at hj
  obtain ⟨p, _, rfl⟩ := hj
  exact .pv _
theorem Chg.setN {m b : Nat} {H H' : List Blk} {cs : List PV} (h : Chg m H H') : Chg m H (H'.set b (.n cs)) := h.set fun j lv hj => by
  simp only [Blk.get, Option.map_eq_some_iff] at hj
  obtain ⟨p, _, rfl⟩ := hj
  exact .pv _
theorem Chg.setM {m b : Nat} {H H' : List Blk} {kvs : List (PV × PV)} (h : Chg m H H') : Chg m H (H'.set b (.m kvs)) := h.set fun j lv hj => by cases hj
theorem Chg.setG {m b : Nat} {H H' : List Blk} (h : Chg m H H') : Chg m H (H'.set b .gone) := h.set fun j lv hj => by cases hj
def InlPostS (T : TypeId → Option TI) (rs : List ResultVar) (H0 : List Blk) (up : List (Nat × List (Nat × LV))) (K : LV → List Blk → Prop) (e : Exit) (s : St) : Prop :=
  (e = .ret ∨ e = .normal) ∧ s.up = up ∧ bindK (mapO (resP T s) rs) fun lvs => Chg H0.length H0 s.H ∧ (retLV lvs).bd H0.length ∧ K (retLV lvs) (s.H.take H0.length)
/-- The same, of blocks that are not listed. -/
theorem ACall.enterS (hT : TOk P T) {f : FuncId} {fn : Func} {c : Code} {n : Nat} {rs : Array ResultVar} (hf : P.funcs[f]? = some fn) (hb : fn.body = some c) (hname : (fn.name == "runtime.NumGoroutine") = false)
    (hn : fn.ntmps = n) (hrs : fn.results = rs) {args : List LV} (hle : args.length ≤ n) {K : LV → List Blk → Prop}
    (h : ∀ fr, AWp P G c (InlPostS T rs.toList s.H ((s.H.length, fr) :: s.up) K) { n := n, fr := enumLV 0 args, H := s.H, up := (s.H.length, fr) :: s.up }) : ACall P G f args s K := by
  subst hn hrs
  refine fun s1 w0 β acts a w vs e1 e2 hr hl hv => Runs.of ⟨fn, hf, by rw [hb]; rfl, hname⟩ (calls_of_wp hf hb ?_)
  rw [← e1] at hv
  have hrc := hr.enter hl hle hv
  rw [e1, e2] at hrc
  refine wp_mono (h s1.fr w0 β (a :: acts) _ w hrc) ?_
  rintro e a' w' ⟨s', β', ⟨he, hu, lvs, h1, ⟨hlen, hchg⟩, hbd, h4⟩, hr'⟩
  obtain ⟨v, h6, h7⟩ := run_results hT hr' h1
  have htk : ∀ (i : Nat) B, (s'.H.take s.H.length)[i]? = some B → i < s.H.length ∧ s'.H[i]? = some B := fun i B hB => by
    rw [List.getElem?_take] at hB
    split at hB
    · exact ⟨‹_›, hB⟩
    · cases hB
  have hlt : (s'.H.take s.H.length).length = s.H.length := by rw [List.length_take]; omega
  have hok : ∀ f b, okOf w0 β' s'.H w' f b → okOf w0 β' (s'.H.take s.H.length) w' f b := fun f b hb => ⟨hb.1, hb.2.1, fun i B hi hl => hb.2.2 i B (htk i B hi).2 hl⟩
  have hmono : ∀ lv v, LR β' s.H.length w' (okOf w0 β' s'.H w') lv v → LR β' s.H.length w' (okOf w0 β' (s'.H.take s.H.length) w') lv v := fun lv v h =>
    h.mono (Nat.le_refl _) (fun _ _ => rfl) (fun _ c _ fz h => ⟨c, fz, h, rfl⟩) (fun _ _ _ => rfl) hok
  have fin : Rel G w0 β' { s1 with H := s'.H.take s.H.length } acts a w' := by
    refine ⟨hr'.below, hr.nodef, hr.sz, fun i B hi hl => hr'.ge i B (htk i B hi).2 hl, fun i B hi hl => hr'.lt i B (htk i B hi).2 hl,
      fun i j B C hi hl hj hl' he => hr'.inj i j B C (htk i B hi).2 hl (htk j C hj).2 hl' he, fun i B hi hl => ?_, ?_, ?_, hr'.gl⟩
    · obtain ⟨hi1, hi2⟩ := htk i B hi
      have hB := hr'.blk i B hi2 hl
      have hbB : ∀ (j : Nat) lv, B.get j = some lv → lv.bd s.H.length := by
        rcases hchg i B hi1 hi2 with h | h
        · intro j lv hj
          by_cases hR : B.isRow = true
          · rw [← e1] at h
            obtain ⟨c, E, fz, k1, k2, k3, k4⟩ := (hr.blk i B h hl).row hR
            obtain ⟨_, u, _, k5⟩ := k4 j lv hj
            rw [← e1]; exact k5.bd
          · cases B <;> first | exact absurd rfl hR | cases hj
        · exact h
      rw [hlt]
      by_cases hR : B.isRow = true
      · obtain ⟨c, E, fz, k1, k2, k3, k4⟩ := hB.row hR
        refine BlkRow.rel (hB := hR) ⟨c, E, fz, k1, k2, k3, fun j lv hj => ?_⟩
        obtain ⟨k5, u, k6, k7⟩ := k4 j lv hj
        exact ⟨k5, u, k6, hmono _ _ (k7.cut (hbB j lv hj))⟩
      · cases B with
        | m kvs => exact hB.transM rfl fun p v h => h.mono (fun _ _ _ => rfl) hok
        | _ => exact absurd rfl hR
    · obtain ⟨hm, act, k1, k2⟩ := hr'.up 0 (s.H.length, s1.fr) (by rw [hu]; rfl)
      simp only [List.getElem?_cons_zero, Option.some.injEq] at k1
      subst k1
      intro t lv hl
      show LR β' (s'.H.take s.H.length).length _ _ _ _
      rw [hlt]
      exact hmono _ _ (k2 t lv hl)
    · intro i f hf
      obtain ⟨hm, act, k1, k2⟩ := hr'.up (i + 1) f (by rw [hu, ← e2]; exact hf)
      obtain ⟨hm', _⟩ := hr.up i f hf
      refine ⟨by rw [hlt, ← e1]; exact hm', act, by simpa using k1, fun t lv hl => (k2 t lv hl).mono (Nat.le_refl _) (fun _ _ => rfl) (fun _ c _ fz h => ⟨c, fz, h, rfl⟩) (fun _ _ _ => rfl) hok⟩
  have h8 : LR β' (s'.H.take s.H.length).length w' (okOf w0 β' (s'.H.take s.H.length) w') (retLV lvs) v := by
    rw [hlt]; exact hmono _ _ (h7.cut hbd)
  rcases he with rfl | rfl
  · exact ⟨hr'.nodef, v, h6, v, _, _, β', rfl, h4, fin, h8⟩
  · exact ⟨hr'.nodef, v, h6, v, _, _, β', rfl, h4, fin, h8⟩
theorem ACall.mono {f : FuncId} {args : List LV} {K K' : LV → List Blk → Prop} (h : ACall P G f args s K) (hK : ∀ lv H, K lv H → K' lv H) : ACall P G f args s K' :=
  fun s1 w0 β acts a w vs e1 e2 hr hl hv => (h s1 w0 β acts a w vs e1 e2 hr hl hv).mono fun _ _ ⟨v, lv, H', β', k1, k2, k3⟩ => ⟨v, lv, H', β', k1, hK _ _ k2, k3⟩
/-- A call by a contract of a callee that writes to the caller's blocks. -/
theorem ACall.use {f : FuncId} {args args' : List LV} {x : LV} {H : List Blk} {K : LV → List Blk → Prop} (eS : ACall P G f args' s (Is x H)) (eA : args = args') (eK : Keep (K x H)) : ACall P G f args s K := by
  subst eA
  exact eS.mono (by rintro _ _ ⟨rfl, rfl⟩; exact eK.out)
end
end Hm
namespace Hm
open Go Go.RowKit
/-! ### Regions whose order is drawn, with several orders of what changes memory -/
inductive PT where
  | done
  | line (σ : List Nat) (r : PT)
  | alts (i : Nat) (r m : PT)
  | none
def PT.size : PT → Nat
  | .done => 0
  | .line σ r => r.size + σ.length
  | .alts _ r m => max (r.size + 1) m.size
  | .none => 0
def PT.heads : PT → List Nat
  | .alts i _ m => i :: m.heads
  | _ => []
def headOk (md : Region.Mode) (ops : Array Oper) : PT → Array Bool → Bool
  | .alts i r m, l => !(Region.ready md ops l).isEmpty && (Region.ready md ops l).all fun j => (PT.alts i r m).heads.contains j
  | .none, _ => false
  | _, _ => true
def planOkT (md : Region.Mode) (ol : List Oper) : PT → Array Bool → Bool
  | .done, l => (Region.ready md ol.toArray l).isEmpty
  | .line σ r, l => (pickPlan ol σ).length == σ.length && planOkE md ol.toArray (fun l => headOk md ol.toArray r l && planOkT md ol r l) (pickPlan ol σ) l
  | .alts i r m, l => (match ol[i]? with | some o => !calmOp o.op | none => false) && headOk md ol.toArray r (l.setIfInBounds i true) && planOkT md ol r (l.setIfInBounds i true) && planOkT md ol m l
  | .none, _ => true
section
variable (P : Program) (T : TypeId → Option TI) (G : Nat → Option (List PV)) (ds : List (Option Nat)) (S : List Blk → Prop) (ol : List Oper)
def runTree : PT → St → (St → Prop) → Prop
  | .done, s, K => K s
  | .line σ r, s, K => runAuto P T G ds S (pick ol σ) s fun s' => runTree r s' K
  | .alts i r m, s, K => (runAuto P T G ds S (pick ol [i]) s fun s' => runTree r s' K) ∧ runTree m s K
  | .none, _, _ => True
def RT (t : PT) (K : St → Prop) (s : St) : Prop := runTree P T G ds S ol t s K
end
section
variable {P : Program} {T : TypeId → Option TI} {G : Nat → Option (List PV)} {ds : List (Option Nat)} {S : List Blk → Prop} {ol : List Oper} {md : Region.Mode} {K : St → Prop}
theorem stepG_mono {o : Oper} {s : St} {A B : St → Prop} (hAB : ∀ s, A s → B s) (h : stepG P T G ds o s A) : stepG P T G ds o s B :=
  ⟨h.1, stepGV_mono (fun _ _ k => hAB _ k) h.2⟩
theorem runTree_sound : ∀ (t : PT), (∀ (n : Nat) (l : Array Bool) (s : St), t.size ≤ n → headOk md ol.toArray t l = true → planOkT md ol t l = true → S s.H → runTree P T G ds S ol t s K → AnyS P T G ds ol.toArray md S K n l s) ∧
    (∀ (n : Nat) (l : Array Bool) (s : St) (j : Nat), j ∈ t.heads → t.size ≤ n + 1 → planOkT md ol t l = true → S s.H → runTree P T G ds S ol t s K →
      ∃ o, ol.toArray[j]? = some o ∧ stepG P T G ds o s fun s' => S s'.H ∧ AnyS P T G ds ol.toArray md S K n (l.setIfInBounds j true) s') := by
  intro t
  induction t with
  | done =>
    refine ⟨fun n l s _ _ h _ hK => ?_, fun _ _ _ _ h => by cases h⟩
    have h0 : Region.ready md ol.toArray l = [] := by simpa [planOkT] using h
    cases n with
    | zero => exact ⟨h0, hK⟩
    | succ n => exact .inl ⟨h0, hK⟩
  | line σ r ih =>
    refine ⟨fun n l s hn _ h hS hK => ?_, fun _ _ _ _ h => by cases h⟩
    simp only [planOkT, Bool.and_eq_true, beq_iff_eq] at h
    obtain ⟨h1, h2⟩ := h
    simp only [PT.size] at hn
    have h3 := runPlan_soundE (ops := ol.toArray) (ol := ol) (md := md) (P := P) (T := T) (G := G) (ds := ds) (S := S) (K := fun s' => runTree P T G ds S ol r s' K) (K' := K) (m := n - σ.length) rfl
      (E := fun l => headOk md ol.toArray r l && planOkT md ol r l) (fun l s hE hS hK => by
        simp only [Bool.and_eq_true] at hE
        exact ih.1 _ l s (by omega) hE.1 hE.2 hS hK) (pickPlan ol σ) l s h2 hS (runAuto_pick σ s hK)
    rw [h1] at h3
    have e : n - σ.length + σ.length = n := by omega
    rwa [e] at h3
  | alts i r m ihr ihm =>
    have B : (∀ (n : Nat) (l : Array Bool) (s : St) (j : Nat), j ∈ (PT.alts i r m).heads → (PT.alts i r m).size ≤ n + 1 → planOkT md ol (.alts i r m) l = true → S s.H → runTree P T G ds S ol (.alts i r m) s K →
      ∃ o, ol.toArray[j]? = some o ∧ stepG P T G ds o s fun s' => S s'.H ∧ AnyS P T G ds ol.toArray md S K n (l.setIfInBounds j true) s') := by
      intro n l s j hj hn h hS hK
      simp only [planOkT, Bool.and_eq_true] at h
      obtain ⟨⟨⟨h1, h2⟩, h3⟩, h4⟩ := h
      simp only [PT.size] at hn
      simp only [PT.heads, List.mem_cons] at hj
      rcases hj with rfl | hj
      · cases ho : ol[j]? with
        | none => rw [ho] at h1; cases h1
        | some o =>
        rw [ho] at h1
        have hc : calmOp o.op = false := by simpa using h1
        have k := runAuto_pick [j] s hK.1
        have e : pickPlan ol [j] = [(false, j)] := by simp [pickPlan, ho, hc]
        rw [e] at k
        obtain ⟨o', k1, k2⟩ := runPlan_head (ops := ol.toArray) rfl hS k
        exact ⟨o', k1, stepG_mono (fun s' ⟨a, b⟩ => ⟨a, ihr.1 n _ s' (by omega) h2 h3 a b⟩) k2⟩
      · exact ihm.2 n l s j hj (by omega) h4 hS hK.2
    refine ⟨fun n l s hn hh h hS hK => ?_, B⟩
    have hsz : 1 ≤ (PT.alts i r m).size := by simp only [PT.size]; omega
    cases n with
    | zero => omega
    | succ n =>
    simp only [headOk, Bool.and_eq_true, List.all_eq_true, Bool.not_eq_true', List.isEmpty_eq_false_iff] at hh
    refine .inr (.inl ⟨hh.1, fun j hj => ?_⟩)
    exact B n l s j (by simpa using hh.2 j hj) hn h hS hK
  | none => exact ⟨fun _ _ _ _ h => (by cases h), fun _ _ _ _ h => (by cases h)⟩
theorem AWp.drawnT (t : PT) (hT : TOk P T) (hm : P.follows .mixedOrders = true) {s : St} {id : Nat} (hds : ol.map (·.dst) = ds) (S : List Blk → Prop)
    (hok : (decide (t.size ≤ ol.length) && headOk .any ol.toArray t (Array.replicate ol.length false) && planOkT .any ol t (Array.replicate ol.length false)) = true) {Q : Exit → St → Prop}
    (h : S s.H ∧ RT P T G ds S ol t (fun s' => Q .normal s') s) : AWp P G (.region id ol.toArray true) Q s := by
  intro w0 β acts a w hr
  simp only [Bool.and_eq_true, decide_eq_true_eq] at hok
  obtain ⟨⟨hl, hh⟩, hok⟩ := hok
  refine wp_region_any hm ?_
  have hA := (runTree_sound (P := P) (T := T) (G := G) (ds := ds) (S := S) (ol := ol) (md := .any) (K := fun s' => Q .normal s') t).1 ol.length _ s hl hh hok h.1 h.2
  have := any_sound (w0 := w0) (acts := acts) hT (by simpa using hds) (Q' := fun e a' w' => ∃ s' β', Q e s' ∧ Rel G w0 β' s' acts a' w') (fun s β a w hK hr => ⟨s, β, hK, hr⟩) ol.length 0 _ s s [] (Array.replicate ol.length false) β a _ rfl hA (SEq.refl s) ⟨rfl, fun j => by simp⟩ h.1 (hr.drewN 1)
  have e : (ol.toArray).size = ol.length := by simp
  rw [e]
  exact this
def refsL (l : List LV) : List Nat := l.foldl (fun l x => unN l (LV.refs 3 x)) []
def closH (H : List Blk) (l : List Nat) : List Nat := l.foldl (fun r b => match H[b]? with | some (Blk.l cs) => unN r (refsL cs) | _ => r) l
/-- Blocks, and those to which they lead. -/
def ordH (H : List Blk) (l : List Nat) : List Nat := closH H (closH H (closH H l))
def upM (up : List (Nat × List (Nat × LV))) : Nat := match up with | [] => 0 | f :: _ => f.1
def ordS (live : List Nat) (s : St) : List Nat := ordH s.H (unN (List.range (upM s.up)) (refsL (live.map (slot s.fr))))
/-- What two orders have in common. -/
def Mrg (live : List Nat) (u s : St) : Prop := upB s.up (ordS live s) = true ∧ bindK (s.norm live (ordS live s)) fun t => t = u
/-- A region whose order is drawn; what comes behind is walked once. -/
theorem AWp.drawnM (t : PT) (live : List Nat) (hT : TOk P T) (hm : P.follows .mixedOrders = true) {s : St} {id : Nat} (hds : ol.map (·.dst) = ds) (S : List Blk → Prop)
    (hok : (decide (t.size ≤ ol.length) && headOk .any ol.toArray t (Array.replicate ol.length false) && planOkT .any ol t (Array.replicate ol.length false)) = true) {Q : Exit → St → Prop}
    (h : ∃ u, (S s.H ∧ RT P T G ds S ol t (Mrg live u) s) ∧ Q .normal u) : AWp P G (.region id ol.toArray true) Q s := by
  intro w0 β acts a w hr
  obtain ⟨u, h, hQ⟩ := h
  simp only [Bool.and_eq_true, decide_eq_true_eq] at hok
  obtain ⟨⟨hl, hh⟩, hok⟩ := hok
  refine wp_region_any hm ?_
  have hA := (runTree_sound (P := P) (T := T) (G := G) (ds := ds) (S := S) (ol := ol) (md := .any) (K := Mrg live u) t).1 ol.length _ s hl hh hok h.1 h.2
  have := any_sound (w0 := w0) (acts := acts) hT (by simpa using hds) (Q' := fun e a' w' => ∃ s' β', Q e s' ∧ Rel G w0 β' s' acts a' w') (fun s β a w ⟨k1, t, k2, k3⟩ hr => by
      subst k3
      obtain ⟨β', hr'⟩ := St.norm_weak k1 k2 w0 β acts a w hr
      exact ⟨t, β', hQ, hr'⟩) ol.length 0 _ s s [] (Array.replicate ol.length false) β a _ rfl hA (SEq.refl s) ⟨rfl, fun j => by simp⟩ h.1 (hr.drewN 1)
  have e : (ol.toArray).size = ol.length := by simp
  rw [e]
  exact this
@[congr] theorem RT_congr {t : PT} {s s' : St} (k : s = s') : RT P T G ds S ol t K s = RT P T G ds S ol t K s' := by rw [k]
theorem RT.done {s : St} (h : K s) : RT P T G ds S ol .done K s := h
theorem RT.line {σ : List Nat} {r : PT} {s : St} (h : runAuto P T G ds S (pick ol σ) s (RT P T G ds S ol r K)) : RT P T G ds S ol (.line σ r) K s := h
theorem RT.alts {i : Nat} {r m : PT} {s : St} (h : runAuto P T G ds S (pick ol [i]) s (RT P T G ds S ol r K)) (h' : RT P T G ds S ol m K s) : RT P T G ds S ol (.alts i r m) K s := ⟨h, h'⟩
theorem RT.none {s : St} : RT P T G ds S ol .none K s := trivial
end
/-- The blocks that were there stay, but for those in X. -/
def preB (X : List Nat) : Nat → List Blk → List Blk → Prop
  | _, [], _ => True
  | k, B :: r, H' => (if X.contains k = true then True else H'[k]? = some B) ∧ preB X (k + 1) r H'
attribute [go_sem] refsL closH ordH upM ordS preB
@[congr] theorem Mrg_congr {live : List Nat} {u : St} {s s' : St} (k : s = s') : Mrg live u s = Mrg live u s' := by rw [k]
@[congr] theorem InlPost_congr {T : TypeId → Option TI} {rs : List ResultVar} {up : List (Nat × List (Nat × LV))} {K : LV → List Blk → Prop} {e e' : Exit} {s s' : St} (h : e = e') (k : s = s') : InlPost T rs up K e s = InlPost T rs up K e' s' := by rw [h, k]
@[congr] theorem InlPostS_congr {T : TypeId → Option TI} {rs : List ResultVar} {H0 : List Blk} {up : List (Nat × List (Nat × LV))} {K : LV → List Blk → Prop} {e e' : Exit} {s s' : St} (h : e = e') (k : s = s') : InlPostS T rs H0 up K e s = InlPostS T rs H0 up K e' s' := by rw [h, k]
/-- The blocks that an entered callee leaves: the caller's, and those to which its result leads. -/
def inlπ (s : St) (lv : LV) : List Nat := ordH s.H (unN (List.range (upM s.up)) (LV.refs 3 lv))
section
variable {T : TypeId → Option TI} {rs : List ResultVar} {up : List (Nat × List (Nat × LV))} {K : LV → List Blk → Prop} {s : St}
def InlK (T : TypeId → Option TI) (rs : List ResultVar) (K : LV → List Blk → Prop) (s : St) : Prop :=
  bindK (mapO (resP T s) rs) fun lvs => upB s.up (inlπ s (retLV lvs)) = true ∧ bindK (St.norm [0] (inlπ s (retLV lvs)) { n := 1, fr := [(0, retLV lvs)], H := s.H, up := s.up }) fun t => Keep (K (slot t.fr 0) t.H)
theorem InlPost.ret (hu : s.up = up) (h : InlK T rs K s) : InlPost T rs up K .ret s := ⟨.inl rfl, hu, let ⟨lvs, h1, h2, t, h3, h4⟩ := h; ⟨lvs, h1, _, h2, t, h3, h4.out⟩⟩
theorem InlPost.nor (hu : s.up = up) (h : InlK T rs K s) : InlPost T rs up K .normal s := ⟨.inr rfl, hu, let ⟨lvs, h1, h2, t, h3, h4⟩ := h; ⟨lvs, h1, _, h2, t, h3, h4.out⟩⟩
def InlKS (T : TypeId → Option TI) (rs : List ResultVar) (H0 : List Blk) (K : LV → List Blk → Prop) (s : St) : Prop :=
  bindK (mapO (resP T s) rs) fun lvs => Chg H0.length H0 s.H ∧ (retLV lvs).bd H0.length ∧ K (retLV lvs) (s.H.take H0.length)
theorem InlPostS.ret {H0 : List Blk} (hu : s.up = up) (h : InlKS T rs H0 K s) : InlPostS T rs H0 up K .ret s := ⟨.inl rfl, hu, h⟩
theorem InlPostS.nor {H0 : List Blk} (hu : s.up = up) (h : InlKS T rs H0 K s) : InlPostS T rs H0 up K .normal s := ⟨.inr rfl, hu, h⟩
end
attribute [go_sem] InlK InlKS inlπ enumLV
@[go_sem] theorem bd_pv (m : Nat) (p : PV) : LV.bd m (.pv p) = True := eq_true (.pv p)
@[go_sem] theorem bd_emp (m : Nat) : LV.bd m .emp = True := eq_true .emp
@[go_sem] theorem bd_dead (m : Nat) : LV.bd m .dead = True := eq_true .dead
@[go_sem] theorem bd_ref (m b o l e : Nat) : LV.bd m (.ref b o l e) = (b < m) := propext ⟨fun h => by cases h; assumption, .ref _ _ _ _⟩
@[go_sem] theorem bd_ptr (m b o : Nat) : LV.bd m (.ptr b o) = (b < m) := propext ⟨fun h => by cases h; assumption, .ptr _ _⟩
@[go_sem] theorem bd_mref (m b : Nat) : LV.bd m (.mref b) = (b < m) := propext ⟨fun h => by cases h; assumption, .mref _⟩
theorem allP_iff {α : Type} {f : α → Prop} : ∀ {l : List α}, allP f l ↔ ∀ (i : Nat) x, l[i]? = some x → f x
  | [] => by simp [allP]
  | y :: r => by
    simp only [allP, allP_iff (l := r)]
    refine ⟨fun h i x hx => ?_, fun h => ⟨h 0 y rfl, fun i x hx => h (i + 1) x (by simpa using hx)⟩⟩
    cases i with
    | zero => simp at hx; subst hx; exact h.1
    | succ i => exact h.2 i x (by simpa using hx)
@[go_sem] theorem bd_agg (m : Nat) (cs : List LV) : LV.bd m (.agg cs) = allP (LV.bd m) cs := propext (Iff.trans ⟨fun h => by cases h; assumption, .agg _⟩ allP_iff.symm)
@[go_sem] theorem bd_tup (m : Nat) (cs : List LV) : LV.bd m (.tup cs) = allP (LV.bd m) cs := propext (Iff.trans ⟨fun h => by cases h; assumption, .tup _⟩ allP_iff.symm)
@[go_sem] theorem bd_fn (m : Nat) (f : FuncId) (cs : List LV) : LV.bd m (.fn f cs) = allP (LV.bd m) cs := propext (Iff.trans ⟨fun h => by cases h; assumption, .fn _ _⟩ allP_iff.symm)
@[go_sem] theorem bd_ifc (m : Nat) (t : TypeId) (x : LV) : LV.bd m (.ifc t x) = LV.bd m x := propext ⟨fun h => by cases h; assumption, .ifc _ _⟩
end Hm
