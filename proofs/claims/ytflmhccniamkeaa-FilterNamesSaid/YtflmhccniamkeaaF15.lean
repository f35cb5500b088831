/- Filters: Undo of the program ranges over a function: what its callees do, told of the memory; and what it answers. -/
import Derived.Test.YtflmhccniamkeaaF13
import Derived.Test.YtflmhccniamkeaaF14
set_option linter.unusedSimpArgs false
set_option linter.unusedVariables false
set_option maxHeartbeats 4000000
set_option maxRecDepth 100000
namespace Go.Proofs.Ytflmhccniamkeaa
open Go Hm Go.ChangeShapes Go.WideShapes Go.ChangeAt Go.RowKit
attribute [local go_sem] Int.reduceEq Int.reduceNe Int.reduceLT Int.reduceLE Int.reduceNeg Int.reduceToNat Int.reduceAdd Int.reduceSub Int.reduceMul Int.reducePow Int.reduceDiv Int.reduceMod ite_eq_left_iff ite_eq_right_iff imp_false Nat.reduceLT Nat.reduceEqDiff Nat.reduceAdd Nat.reduceSub Nat.reduceMul Nat.reduceLeDiff Nat.reduceBEq reduceIte
open Go.Shelf
attribute [local go_sem] Oper.semAt_some
def CellAt (W : World) (b : Nat) : Prop := ∃ c E fz, W.heap[b]? = some (.cells c E fz)
theorem cellAt_of {W : World} {a : Addr} {v : Value} (h : W.cell? a = some v) : CellAt W a.block := by
  unfold World.cell? at h
  cases hb : W.heap[a.block]? with
  | none => rw [hb] at h; simp at h
  | some o =>
    cases o with
    | cells c E fz => exact ⟨c, E, fz, hb⟩
    | _ => rw [hb] at h; simp at h
theorem imm_cells {w : World} {ok : Bool → Nat → Prop} {p : PV} {v : Value} (h : Imm w ok p v) : Imm w (fun f b => ok f b ∧ CellAt w b) p v := by
  induction h with
  | int k n => exact .int k n
  | bool b => exact .bool b
  | str s => exact .str s
  | nil => exact .nil
  | sl f cells len blk off cap vs hl h1 hc hv ih => exact .sl f cells len blk off cap vs hl h1 (fun i hi => ⟨⟨(hc i hi).1, cellAt_of (hc i hi).2⟩, (hc i hi).2⟩) ih
  | nsl0 f cells => exact .nsl0 f cells
  | nsl f cells len v h0 h ih => exact .nsl f cells len v h0 ih
  | asl0 f cells => exact .asl0 f cells
  | asl f cells len v h ih => exact .asl f cells len v ih
  | slz f cells a cap => exact .slz f cells a cap
  | agg cells vs hl h1 hv ih => exact .agg cells vs hl h1 ih
  | fn f cap vs hl hv ih => exact .fn f cap vs hl ih
  | nilfn => exact .nilfn
  | nilp => exact .nilp
  | ip f cells off blk o vs h1 hc hv ih => exact .ip f cells off blk o vs h1 (fun i hi => ⟨⟨(hc i hi).1, cellAt_of (hc i hi).2⟩, (hc i hi).2⟩) ih
  | ifc t p v h ih => exact .ifc t p v ih
  | nilif => exact .nilif
  | nilmap => exact .nilmap
/-- v holds the bytes x, in rows from n on, row B apart. -/
def HB (n B : Nat) (W : World) (v : Value) (x : List Int) : Prop := Imm W (fun f b => (f = false ∧ n ≤ b ∧ b ≠ B) ∧ CellAt W b) (.asl false (x.map (PV.int .u8)) x.length) v
theorem HB.kept {n B : Nat} {W W' : World} {v : Value} {x : List Int} (h : HB n B W v x) (hk : ∀ b, n ≤ b → b ≠ B → CellAt W b → W'.heap[b]? = W.heap[b]?) : HB n B W' v x :=
  Imm.mono (fun f b hb => hk b hb.1.2.1 hb.1.2.2 hb.2) (fun f b hb => ⟨hb.1, by obtain ⟨c, E, fz, h1⟩ := hb.2; exact ⟨c, E, fz, (hk b hb.1.2.1 hb.1.2.2 hb.2).trans h1⟩⟩) h
theorem CellAt.lt {W : World} {b : Nat} (h : CellAt W b) : b < W.heap.size := by obtain ⟨c, E, fz, h⟩ := h; exact (Array.getElem?_eq_some_iff.1 h).1
theorem HB.arg {n B : Nat} {W : World} {v : Value} {x : List Int} (h : HB n B W v x) : Imm W (fun f b => f = true ∧ b < W.heap.size) (.asl true (x.map (PV.int .u8)) x.length) v := by
  have := Imm.toOld (ok' := fun f b => f = true ∧ b < W.heap.size) (fun f b hb => ⟨rfl, hb.2.lt⟩) h
  have e : PV.old (.asl false (x.map (PV.int .u8)) x.length) = .asl true (x.map (PV.int .u8)) x.length := by simp only [go_sem]
  rwa [e] at this
/-- What a callee hands back lies in new rows. -/
def New (W W' : World) (v : Value) (x : List Int) : Prop := Imm W' (fun f b => (f = false ∧ W.heap.size ≤ b) ∧ CellAt W' b) (.asl false (x.map (PV.int .u8)) x.length) v
theorem New.hb {W W' : World} {v : Value} {x : List Int} (h : New W W' v x) {n B : Nat} (hn : n ≤ W.heap.size) (hB : B < W.heap.size) : HB n B W' v x :=
  Imm.mono (fun _ _ _ => rfl) (fun f b hb => ⟨⟨hb.1.1, by omega, by omega⟩, hb.2⟩) h
theorem new_of {W W' : World} {β : Nat → Nat} {v : Value} {x : List Int} (h : LR β 0 W' (okFr W β [] W') (.pv (.asl false (x.map (PV.int .u8)) x.length)) v) : New W W' v x := by
  cases h with | pv h => exact (imm_cells h).mono (fun _ _ _ => rfl) (fun f b hb => ⟨⟨hb.1.1, hb.1.2.2.1 rfl⟩, hb.2⟩)
theorem imm_flt {w : World} {ok : Bool → Nat → Prop} (k n : Int) : Imm w ok (.agg [.int .u8 k, .int .i64 n]) (.agg #[.int .u8 k, .int .i64 n]) := by
  refine .agg _ _ rfl (fun i p h => ?_) fun i p v h1 h2 => ?_
  · match i, h with
    | 0, h => cases h; rfl
    | 1, h => cases h; rfl
  · match i, h1, h2 with
    | 0, h1, h2 => cases h1; cases h2; exact .int _ _
    | 1, h1, h2 => cases h1; cases h2; exact .int _ _
theorem back_calls (k n : Int) (h : flE k n = 0) (b : List Int) (hB : Byt b) (hl : b.length ≤ 20000) (W : World) (v : Value) (hv : Imm W (fun f b => f = true ∧ b < W.heap.size) (.asl true (b.map (PV.int .u8)) b.length) v) :
    Calls Try.prog 28 #[.agg #[.int .u8 k, .int .i64 n], v] W fun e W' => ∃ v', e = .returned (.tuple #[v', .bool (bkK k b)]) ∧ Below W.heap.size W W' ∧ New W W' v' (bkO k n b) := by
  refine ((back_sum k n h b hB hl).2 W [.agg #[.int .u8 k, .int .i64 n], v] (fun g c h => by cases h) rfl fun i p u h1 h2 => ?_).mono ?_
  · match i, h1, h2 with
    | 0, h1, h2 => cases h1; cases h2; exact imm_flt k n
    | 1, h1, h2 => cases h1; cases h2; exact hv
  · rintro e W' ⟨u, lv, H, β, rfl, ⟨rfl, rfl⟩, hp, hlr⟩
    cases hlr with
    | tup _ vs hs hvs =>
      obtain ⟨v1, v2, rfl⟩ : ∃ v1 v2, vs = #[v1, v2] := by
        obtain ⟨l⟩ := vs
        match l, hs with
        | [a, b], _ => exact ⟨a, b, rfl⟩
      have e1 := hvs 0 _ v1 rfl rfl
      have e2 := hvs 1 _ v2 rfl rfl
      cases e2 with | pv e2 => cases e2; exact ⟨v1, rfl, hp.below, new_of e1⟩
theorem clone_calls (b : List Int) (hl : b.length ≤ 65536) (W : World) (v : Value) (hv : Imm W (fun f b => f = true ∧ b < W.heap.size) (.asl true (b.map (PV.int .u8)) b.length) v) :
    Calls Try.prog 31 #[v] W fun e W' => ∃ v', e = .returned v' ∧ Below W.heap.size W W' ∧ New W W' v' b := by
  refine ((clone_sum b hl).2 W [v] (fun g c h => by cases h) rfl fun i p u h1 h2 => ?_).mono ?_
  · match i, h1, h2 with
    | 0, h1, h2 => cases h1; cases h2; exact hv
  · rintro e W' ⟨u, lv, H, β, rfl, ⟨rfl, rfl⟩, hp, hlr⟩
    exact ⟨u, rfl, hp.below, new_of hlr⟩
theorem chained_calls (l : List Fl) (hn : l.length ≤ maxLen) (W : World) (v : Value) (hv : Imm W (fun f b => f = true ∧ b < W.heap.size) (.asl true (l.flatMap Fl.c) l.length) v) :
    Calls Try.prog 30 #[v] W fun e W' => e = .returned (.int .i64 (chE l)) ∧ Below W.heap.size W W' := by
  refine ((chained_sum l hn).2 W [v] (fun g c h => by cases h) rfl fun i p u h1 h2 => ?_).mono ?_
  · match i, h1, h2 with
    | 0, h1, h2 => cases h1; cases h2; exact hv
  · rintro e W' ⟨u, lv, H, β, rfl, ⟨rfl, rfl⟩, hp, hlr⟩
    cases hlr with | pv e2 => cases e2; exact ⟨rfl, hp.below⟩
theorem imm_below {w W : World} {p : PV} {v : Value} (h : Imm w (fun f b => f = true ∧ b < w.heap.size) p v) (hb : Below w.heap.size w W) : Imm W (fun f b => f = true ∧ b < W.heap.size) p v :=
  h.mono (fun _ b hb' => hb.block b hb'.2) (fun _ _ h => ⟨h.1, Nat.lt_of_lt_of_le h.2 hb.size⟩)
theorem fl_form {w : World} {l : List Fl} {v : Value} (h : Imm w (fun f b => f = true ∧ b < w.heap.size) (.asl true (l.flatMap Fl.c) l.length) v) : ∃ a cap, v = .slice a l.length cap ∧ (0 < l.length → ∃ b off, a = some ⟨b, off, none⟩ ∧ b < w.heap.size ∧
    ∀ j, j < l.length → w.cell? ⟨b, off + j * 2, none⟩ = some (.int .u8 (l.getD j default).kind) ∧ w.cell? ⟨b, off + j * 2 + 1, none⟩ = some (.int .i64 (l.getD j default).n)) := by
  have h0 := fun j hj => Fl.c_g0 l j hj
  have h1 := fun j hj => Fl.c_g1 l j hj
  have hfl := Fl.c_fl l
  generalize hn : l.length = n at h h0 h1 hfl ⊢
  generalize hc : l.flatMap Fl.c = cs at h h0 h1 hfl
  cases h with
  | asl0 => exact ⟨none, 0, rfl, fun h => absurd h (Nat.lt_irrefl _)⟩
  | asl f cells len v h =>
    cases h with
    | slz f cells a cap => exact ⟨some a, cap, rfl, fun h => absurd h (Nat.lt_irrefl _)⟩
    | sl f cells len blk off cap vs hl g1 hcc hv =>
      refine ⟨_, cap, rfl, fun hp => ⟨blk, off, rfl, (hcc 0 (by omega)).1.2, fun j hj => ⟨?_, ?_⟩⟩⟩
      · have := hcc (j * 2) (by omega)
        rw [this.2]
        have e := hv (j * 2) _ (h0 j hj)
        generalize vs (j * 2) = z at e
        cases e; rfl
      · have := hcc (j * 2 + 1) (by omega)
        rw [Nat.add_assoc, this.2]
        have e := hv (j * 2 + 1) _ (h1 j hj)
        generalize vs (j * 2 + 1) = z at e
        cases e; rfl
end Go.Proofs.Ytflmhccniamkeaa
