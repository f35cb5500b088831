/- errors.As at a target of type *api.Errno, as a rule for walks. -/
import Derived.Test.YtkbmkgcenehenaaDoorME2
import Derived.Test.YtkbmkgcenehenaaDoorMG
set_option linter.unusedSimpArgs false
set_option linter.unusedVariables false
set_option maxHeartbeats 4000000
set_option maxRecDepth 100000
namespace Go.Proofs.YtkbmkgcenehenaaDoor
open Go Hm Go.ChangeShapes Go.WideShapes Go.ChangeAt Go.RowKit
attribute [local go_sem] Int.reduceEq Int.reduceNe Int.reduceLT Int.reduceLE Int.reduceNeg Int.reduceToNat Int.reduceAdd Int.reduceSub Int.reduceMul Int.reducePow Int.reduceDiv Int.reduceMod ite_eq_left_iff ite_eq_right_iff imp_false Nat.reduceLT Nat.reduceEqDiff Nat.reduceAdd Nat.reduceSub Nat.reduceMul Nat.reduceLeDiff Nat.reduceBEq reduceIte
section
open Go.RowKit
/-- What errors.errorType holds. -/
def eT : Value := .iface 120 (.agg #[.pointer (some ⟨2, 87, none⟩)])
theorem acall_as {G : Nat → Option (List PV)} (hG : G 1 = some [.raw eT]) {s : St} {b : Nat} {x n : Int} {K : LV → List Blk → Prop} (hb : s.H[b]? = some (Blk.p [.int .i64 x]))
    (h : K (.pv (.bool true)) ((((((s.H ++ [Blk.p []]) ++ [Blk.p []]) ++ [Blk.p []]) ++ [Blk.p []]).set b (Blk.p [.int .i64 n])))) : ACall Tryd.prog G 42 [.pv (.ifc 26 (.int .i64 n)), .ifc 91 (.ptr b 0)] s K := by
  intro s1 w0 β acts a w vs e1 e2 hr hl hv
  obtain ⟨v1, v2, rfl⟩ : ∃ v1 v2, vs = [v1, v2] := by
    match vs, hl with
    | [a, b], _ => exact ⟨a, b, rfl⟩
  have q1 := hv 0 _ v1 rfl rfl
  have q2 := hv 1 _ v2 rfl rfl
  cases q1 with | pv q1 =>
  cases q1 with | ifc _ _ _ q1 =>
  cases q1
  cases q2 with | ifc _ _ _ q2 =>
  cases q2
  have hb1 : s1.H[b]? = some (Blk.p [.int .i64 x]) := by rw [e1]; exact hb
  have hbl : b < s1.H.length := (List.getElem?_eq_some_iff.1 hb1).1
  have g := hr.gok 1 _ hG
  have gc : w.cell? ⟨1, 0, none⟩ = some eT := by
    generalize hz : Value.pointer (some ⟨1, 0, none⟩) = z at g
    cases g with
    | ip f cells off blk o vs h1 hc hv =>
      simp only [Value.pointer.injEq, Option.some.injEq, Addr.mk.injEq] at hz
      obtain ⟨rfl, h0, _⟩ := hz
      have ho : o = 0 := by omega
      subst ho
      have k1 := (hc 0 (by simp)).2
      have k2 := hv 0 (.raw eT) rfl
      generalize vs 0 = y at k1 k2
      cases k2
      simpa using k1
  obtain ⟨c, E, fz, hh, hfz, hsz, hcl⟩ := (hr.blk b _ hb1 rfl).row rfl
  have hlen : 1 ≤ c.size := hsz
  obtain ⟨_, y, hy, hyr⟩ := hcl 0 (.pv (.int .i64 x)) rfl
  have hc0 : w.cell? ⟨β b, 0, none⟩ = some y := by simp [World.cell?, hh, hy]
  have hf0 : w.frozen? ⟨β b, 0, none⟩ = false := by
    have := hfz.out 0 (by omega)
    simp [World.frozen?, hh]
    omega
  have hcall := as_hit n ⟨β b, 0, none⟩ y w gc hc0 hf0
  have r1 := (hr.alloc (B := Blk.p []) (c := #[.pointer (some ⟨β b, 0, none⟩)]) (E := 91) (fz := (0, 0)) (.inl rfl) rfl (by simp [Blk.len]) (fun i lv h => by simp [Blk.get] at h)).1
  have r2 := (r1.alloc (B := Blk.p []) (c := #[.pointer (some ⟨2, 91, none⟩), .pointer (some ⟨w.heap.size, 0, none⟩), .int .u64 150]) (E := 106) (fz := (0, 0)) (.inl rfl) rfl (by simp [Blk.len]) (fun i lv h => by simp [Blk.get] at h)).1
  have r3 := (r2.alloc (B := Blk.p []) (c := #[.pointer (some ⟨2, 91, none⟩), .pointer (some ⟨w.heap.size, 0, none⟩), .int .u64 150]) (E := 106) (fz := (0, 0)) (.inl rfl) rfl (by simp [Blk.len]) (fun i lv h => by simp [Blk.get] at h)).1
  have r4 := (r3.alloc (B := Blk.p []) (c := #[.int .i64 n]) (E := 26) (fz := (0, 0)) (.inl rfl) rfl (by simp [Blk.len]) (fun i lv h => by simp [Blk.get] at h)).1
  simp only at r4
  generalize hw4 : ((((w.alloc (.cells #[.pointer (some ⟨β b, 0, none⟩)] 91 (0, 0))).alloc (.cells #[.pointer (some ⟨2, 91, none⟩), .pointer (some ⟨w.heap.size, 0, none⟩), .int .u64 150] 106 (0, 0))).alloc (.cells #[.pointer (some ⟨2, 91, none⟩), .pointer (some ⟨w.heap.size, 0, none⟩), .int .u64 150] 106 (0, 0))).alloc (.cells #[.int .i64 n] 26 (0, 0))) = w4 at r4
  generalize hβ : ext _ _ _ = β4 at r4
  have hβb : β4 b = β b := by
    rw [← hβ, ext_lt (by simp; omega), ext_lt (by simp; omega), ext_lt (by simp; omega), ext_lt hbl]
  have hH4 : ((((s1.H ++ [Blk.p []]) ++ [Blk.p []]) ++ [Blk.p []]) ++ [Blk.p []])[b]? = some (Blk.p [.int .i64 x]) := by
    rw [List.getElem?_append_left (by simp; omega), List.getElem?_append_left (by simp; omega), List.getElem?_append_left (by simp; omega), List.getElem?_append_left hbl]
    exact hb1
  have r5 := r4.store (b := b) (o := 0) (B' := Blk.p [.int .i64 n]) (vs := [.int .i64 n]) (lvs := [.pv (.int .i64 n)]) hH4 rfl rfl rfl rfl (fun c' E' fz' h5 => by
      obtain ⟨c2, E2, fz2, h6, _, h7, _⟩ := (r4.blk b _ hH4 rfl).row rfl
      rw [h6] at h5
      simp only [Option.some.injEq, Obj.cells.injEq] at h5
      obtain ⟨rfl, _, _⟩ := h5
      exact h7) (fun i hi => by
      have : i = 0 := by simpa [Blk.len] using hi
      subst this
      rfl) (fun i lv h5 => by
      match i, h5 with
      | 0, h5 => cases h5; rfl) (fun i lv v h5 h6 => by
      match i, h5, h6 with
      | 0, h5, h6 => cases h5; cases h6; exact .pv (.int _ _))
  refine (Runs.of ⟨_, Tryd.func42, rfl, rfl⟩ hcall).mono ?_
  rintro e w' ⟨rfl, rfl⟩
  refine ⟨.bool true, .pv (.bool true), _, β4, rfl, h, ?_, .pv (.bool _)⟩
  rw [← e1]
  rw [hβb] at r5
  have e9 : World.setCells w4 (β b) 0 [.int .i64 n] = w4.setCell ⟨β b, 0, none⟩ (.int .i64 n) := rfl
  rw [e9, ← hw4] at r5
  exact r5
/-- A contract over fewer known globals. -/
theorem sum_up {P : Program} {G G' : Nat → Option (List PV)} {f : FuncId} {args : List PV} {Post : LV → List Blk → Prop} (h : Hm.Sum P G f args Post) (hg : ∀ w, GOk G' w → GOk G w) : Hm.Sum P G' f args Post :=
  ⟨h.1, fun w vs h1 => h.2 w vs (hg w h1)⟩
def GE : Nat → Option (List PV) := fun g => if g = 0 then some qCells else if g = 1 then some [.raw eT] else none
theorem GE1 : GE 1 = some [.raw eT] := rfl
theorem ge_up (w : World) (h : GOk GE w) : GOk G w := fun g cells hg => h g cells (by
  unfold G at hg
  split at hg
  · rename_i e
    subst e
    rw [← hg]
    rfl
  · cases hg)
end
end Go.Proofs.YtkbmkgcenehenaaDoor
