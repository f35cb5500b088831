/- Filters: what Undo of the program answers for a valid chain. -/
import Derived.Test.YtflmhccniamkeaaF15
set_option linter.unusedSimpArgs false
set_option linter.unusedVariables false
set_option maxHeartbeats 4000000
set_option maxRecDepth 100000
namespace Go.Proofs.Ytflmhccniamkeaa
open Go Hm Go.ChangeShapes Go.WideShapes Go.ChangeAt Go.RowKit
attribute [local go_sem] Int.reduceEq Int.reduceNe Int.reduceLT Int.reduceLE Int.reduceNeg Int.reduceToNat Int.reduceAdd Int.reduceSub Int.reduceMul Int.reducePow Int.reduceDiv Int.reduceMod ite_eq_left_iff ite_eq_right_iff imp_false Nat.reduceLT Nat.reduceEqDiff Nat.reduceAdd Nat.reduceSub Nat.reduceMul Nat.reduceLeDiff Nat.reduceBEq reduceIte
open Go.Shelf
attribute [local go_sem] Oper.semAt_some
theorem asl_form {w : World} {ok : Bool → Nat → Prop} {f : Bool} {cs : List PV} {n : Nat} {v : Value} (h : Imm w ok (.asl f cs n) v) : ∃ a cap, v = .slice a n cap := by
  cases h with
  | asl0 => exact ⟨none, 0, rfl⟩
  | asl f cells len v h => cases h <;> exact ⟨_, _, rfl⟩
theorem backward_in (F : Fence) (n : Nat) (h5 : F.fn 33) (hro : F.round = none) (a : Option Addr) (len cap : Nat) (w : World) :
    CallsIn F n Try.prog 33 #[.slice a len cap] w fun e w' => e = .returned (.func (.func 45) #[] #[.pointer (some ⟨w.heap.size, 0, none⟩)]) ∧ w' = w.alloc (.cells #[.slice a len cap] 37) := by
  refine callsIn_of_wp Try.func33 rfl h5 ?_ hro
  simp only [Try.ntmps33, List.size_toArray, List.length_cons, List.length_nil, Nat.reduceAdd, Nat.reduceSub, Array.replicate_succ, Array.replicate_zero, List.push_toArray, List.append_toArray, List.nil_append, List.cons_append]
  gi_wp2
  go_ret
  exact ⟨rfl, rfl⟩
/-- What the rounds have made of the bytes. -/
def unP (pre : List (Nat × VF)) (b : List Int) : Option (List Int) := pre.foldl (fun o x => unS x.2.1 o) (some b)
theorem unP_snoc (pre : List (Nat × VF)) (x : Nat × VF) (b : List Int) : unP (pre ++ [x]) b = unS x.2.1 (unP pre b) := by simp [unP]
theorem unP_upto (l : List VF) (b : List Int) : ∀ k, k ≤ l.length → unP (upto (bwd l) k) b = un ((l.map (·.1)).drop (l.length - k)) b
  | 0, _ => by
    rw [Nat.sub_zero, List.drop_eq_nil_of_le (by rw [List.length_map]; exact Nat.le_refl _)]
    rfl
  | k + 1, hk => by
    rw [upto_succ, unP_snoc, unP_upto l b k (by omega)]
    have hi : l.length - (k + 1) < (l.map (·.1)).length := by rw [List.length_map]; omega
    rw [un_drop _ b hi, show l.length - (k + 1) + 1 = l.length - k by omega]
    congr 1
    unfold bwd
    rw [show l.length - 1 - k = l.length - (k + 1) by omega, getD_get _ _ hi, getD_get _ _ (show l.length - (k + 1) < l.length by omega), List.getElem_map]
theorem unP_none (l : List VF) (b : List Int) {k : Nat} (hk : k ≤ l.length) (h : unP (upto (bwd l) k) b = none) : un (l.map (·.1)) b = none := by
  rw [unP_upto l b k hk] at h
  rw [un_split _ b (l.length - k), h]
  exact unS_none _
theorem results_cell2 {fn : Func} {p q : Nat} {t u : TypeId} (h : fn.results = #[.cell p t, .cell q u]) (tmps : Array Value) (P : Program) (w : World) :
    (results fn tmps).run P w =
      ((asAddr (tmps.getD p undef)).run P w).andThen fun a w₁ => ((loadVar t a).run P w₁).andThen fun v w₂ => ((asAddr (tmps.getD q undef)).run P w₂).andThen fun a' w₃ => ((loadVar u a').run P w₃).andThen fun v' w₄ => .ok (.tuple #[v, v']) w₄ := by
  simp only [results, h]
  simp [Sem.run_bind, Result.andThen]
theorem undo_res {w : World} {tmps : Array Value} {B4 B5 : Nat} {v : Value} {n : Int} (h4 : tmps.getD 4 undef = .pointer (some ⟨B4, 0, none⟩)) (h5 : tmps.getD 5 undef = .pointer (some ⟨B5, 0, none⟩)) (b4 : Boxed w B4 24 v) (b5 : Boxed w B5 26 (.int .i64 n)) :
    (results Try.f20 tmps).run Try.prog w = .ok (.tuple #[v, .int .i64 n]) w := by
  have c4 := b4.cell
  have c5 := b5.cell
  rw [results_cell2 (p := 4) (q := 5) (t := 24) (u := 26) (by kernel_rfl), h4, h5]
  have a4 := hT.isAgg (P := Try.prog) (w := w) T24
  have a5 := hT.isAgg (P := Try.prog) (w := w) T26
  rw [und24] at a4
  rw [und26] at a5
  simp [loadVar, asAddr, Result.andThen, Sem.run_bind, a4, a5, isAggD, run_load, c4, c5]
theorem undo_in (l : List VF) (hlen : l.length ≤ 4) (b : List Int) (hB : Byt b) (hl : b.length ≤ 10125) (w : World) (cap capb : Nat) (a ab : Option Addr)
    (il : Imm w (fun f b => f = true ∧ b < w.heap.size) (.asl true ((l.map (·.1)).flatMap Fl.c) (l.map (·.1)).length) (.slice a l.length cap)) (ib : Imm w (fun f b => f = true ∧ b < w.heap.size) (.asl true (b.map (PV.int .u8)) b.length) (.slice ab b.length capb))
    (hf : 0 < l.length → ∃ b off, a = some ⟨b, off, none⟩ ∧ b < w.heap.size ∧ ∀ j, j < l.length → w.cell? ⟨b, off + j * 2, none⟩ = some (.int .u8 (l.getD j default).1.kind) ∧ w.cell? ⟨b, off + j * 2 + 1, none⟩ = some (.int .i64 (l.getD j default).1.n))
    (hch : chE (l.map (·.1)) = 0) (lo : Int) (ll : List Int) (hlo : ∀ x, un (l.map (·.1)) b = some x → lo = (if 2000 < x.length then 12 else 0) ∧ ll = if 2000 < x.length then [] else x) (hno : un (l.map (·.1)) b = none → lo = 12 ∧ ll = []) :
    CallsIn Fence.wide 100 Try.prog 20 #[.slice a l.length cap, .slice ab b.length capb] w fun e W' => ∃ v, e = .returned (.tuple #[v, .int .i64 lo]) ∧ Below w.heap.size w W' ∧ Imm W' (fun f b => (f = false ∧ w.heap.size ≤ b) ∧ CellAt W' b) (.asl false (ll.map (PV.int .u8)) ll.length) v := by
  have hbl : (b.length : Int) ≤ 10125 := by omega
  refine callsIn_of_wp_marks Try.func20 rfl trivial ?_ rfl
  simp only [Try.ntmps20, List.size_toArray, List.length_cons, List.length_nil, Nat.reduceAdd, Nat.reduceSub, Array.replicate_succ, Array.replicate_zero, List.push_toArray, List.append_toArray, List.nil_append, List.cons_append]
  have hw2 : Below w.heap.size w ((w.alloc (.cells #[.slice none 0 0] 24)).alloc (.cells #[.int .i64 0] 26)) := ((Below.refl _ w).alloc (Nat.le_refl _) _).alloc (by simp) _
  have b4 := (Boxed.new w 24 (.slice none 0 0)).alloc (.cells #[.int .i64 0] 26)
  have b5 := Boxed.new (w.alloc (.cells #[.slice none 0 0] 24)) 26 (.int .i64 0)
  simp only [World.size_alloc] at b5
  gi_wp2
  refine ⟨trivial, (callsIn_wide.2 (chained_calls (l.map (·.1)) (by rw [List.length_map]; unfold maxLen; omega) _ _ (imm_below il hw2))).mono ?_⟩
  rintro e w3 ⟨rfl, hb3⟩
  rw [hch]
  have hsz2 : ((w.alloc (.cells #[.slice none 0 0] 24)).alloc (.cells #[.int .i64 0] 26)).heap.size = w.heap.size + 2 := by simp
  have hw3 : Below w.heap.size w w3 := hw2.trans (hb3.mono (by omega))
  have b43 : Boxed w3 w.heap.size 24 (.slice none 0 0) := (hb3.block _ b4.lt).trans b4
  have b53 : Boxed w3 (w.heap.size + 1) 26 (.int .i64 0) := (hb3.block _ b5.lt).trans b5
  have hs3 : w.heap.size + 2 ≤ w3.heap.size := by have := hb3.size; omega
  clear b4 b5 hb3 hw2 hsz2
  gi_wp2
  refine ⟨trivial, (callsIn_wide.2 (clone_calls b (by omega) w3 _ (imm_below ib hw3))).mono ?_⟩
  rintro e w4 ⟨v4, rfl, hb4, hn4⟩
  obtain ⟨a4, c4, rfl⟩ := asl_form hn4
  have hs4 : w3.heap.size ≤ w4.heap.size := hb4.size
  have hw4 : Below w.heap.size w w4 := hw3.trans (hb4.mono (by omega))
  have b44 : Boxed w4 w.heap.size 24 (.slice none 0 0) := (hb4.block _ b43.lt).trans b43
  have b54 : Boxed w4 (w.heap.size + 1) 26 (.int .i64 0) := (hb4.block _ b53.lt).trans b53
  clear b43 b53 hw3
  gi_wp2
  refine ⟨trivial, (backward_in Fence.wide 99 trivial rfl _ _ _ _).mono ?_⟩
  rintro e w' ⟨rfl, rfl⟩
  gi_wp2
  obtain ⟨W0, hW0⟩ : ∃ W0, ((w4.alloc (.cells #[.slice a4 b.length c4] 24)).alloc (.cells #[.slice a l.length cap] 37)) = W0 := ⟨_, rfl⟩
  have hsz : W0.heap.size = w4.heap.size + 2 := by rw [← hW0]; simp
  have hkeep : ∀ k, k < w4.heap.size → W0.heap[k]? = w4.heap[k]? := fun k hk => by
    rw [← hW0]
    exact (Below.heap_alloc _ _ _ (by simp; omega)).trans (Below.heap_alloc _ _ _ hk)
  have hw0 : Below w.heap.size w W0 := by rw [← hW0]; exact (hw4.alloc hw4.size _).alloc (by simp; have := hw4.size; omega) _
  have b7 : Boxed W0 w4.heap.size 24 (.slice a4 b.length c4) := by rw [← hW0]; exact (Boxed.new w4 _ _).alloc _
  have bs : Boxed W0 (w4.heap.size + 1) 37 (.slice a l.length cap) := by
    rw [← hW0]
    have := Boxed.new (w4.alloc (.cells #[.slice a4 b.length c4] 24)) 37 (.slice a l.length cap)
    rwa [World.size_alloc] at this
  have b4 : Boxed W0 w.heap.size 24 (.slice none 0 0) := (hkeep _ b44.lt).trans b44
  have b5 : Boxed W0 (w.heap.size + 1) 26 (.int .i64 0) := (hkeep _ b54.lt).trans b54
  have hb7 : HB (w.heap.size + 2) w4.heap.size W0 (.slice a4 b.length c4) b := Imm.mono (fun f k hk => hkeep k hk.2.lt) (fun f k hk => ⟨⟨hk.1.1, by have := hk.1.2; omega, by have := hk.2.lt; omega⟩, by obtain ⟨c, E, fz, h1⟩ := hk.2; exact ⟨c, E, fz, (hkeep k hk.2.lt).trans h1⟩⟩) hn4
  rw [hW0]
  clear hW0 hkeep b44 b54
  refine wpIn_rangeFunc_ownH (α := Nat × VF) (Kp := Kps w.heap.size (w4.heap.size + 1)) rfl (by decide) (gf := 45) (lb := #[.pointer (some ⟨w4.heap.size + 1, 0, none⟩)]) rfl trivial (enters_of Try.func45 (by kernel_rfl) rfl)
    (bwd_stops Fence.wide 99 trivial rfl (by decide) (w4.heap.size + 1) w.heap.size cap a l hlen W0 (by omega) (by omega) bs.cell (fun hp => by
      obtain ⟨bb, off, e1, e2, e3⟩ := hf hp
      exact ⟨bb, off, e1, e2, fun j hj => ⟨(hw0.cell (p := ⟨bb, off + j * 2, none⟩) e2).trans (e3 j hj).1, (hw0.cell (p := ⟨bb, off + j * 2 + 1, none⟩) e2).trans (e3 j hj).2⟩⟩))
    (fun h k => h.trans k) (fun W q o o' hq hh h1 h2 => ⟨belowK_b (w := W0) (by have := hw0.size; omega) W q o o' hq hh h1 h2, World.putObj_heap_other (by omega)⟩) (Below.refl _ _) (fun _ => rfl)
    (fun pre W => ((∃ v x, (unP pre b = some x ∧ Byt x ∧ x.length ≤ 10125) ∧ Boxed W w4.heap.size 24 v ∧ HB (w.heap.size + 2) w4.heap.size W v x) ∧ Boxed W w.heap.size 24 (.slice none 0 0) ∧ Boxed W (w.heap.size + 1) 26 (.int .i64 0) ∧ Boxed W (w4.heap.size + 1) 37 (.slice a l.length cap)) ∧ Below w.heap.size w W)
    (fun c pre W => ((c = .ret ∧ unP pre b = none) ∧ Boxed W w.heap.size 24 (.slice none 0 0) ∧ Boxed W (w.heap.size + 1) 26 (.int .i64 12)) ∧ Below w.heap.size w W)
    ?hI ?hIx ⟨⟨⟨_, b, ⟨rfl, hB, hl⟩, b7, hb7⟩, b4, b5, bs⟩, hw0⟩
    (fun x a' W => ∃ Bx, W.heap[Bx]? = some (.cells #[.int .u8 x.2.1.kind, .int .i64 x.2.1.n] 23 (0, 0)) ∧ a' = { tmps := #[.slice a l.length cap, .slice ab b.length capb, undef, undef, .pointer (some ⟨w.heap.size, 0, none⟩), .pointer (some ⟨w.heap.size + 1, 0, none⟩), .int .i64 0, .pointer (some ⟨w4.heap.size, 0, none⟩), undef, .pointer (some ⟨Bx, 0, none⟩), undef, .slice a l.length cap, .int .i64 0, .int .i64 0, .bool false, undef, .slice ab b.length capb, .int .i64 b.length, .bool (decide ((10125 : Int) < b.length)), .slice ab b.length capb, .slice a4 b.length c4, .slice a l.length cap, .func (.func 45) #[] #[.pointer (some ⟨w4.heap.size + 1, 0, none⟩)], .int .i64 (x.1 : Int), .agg #[.int .u8 x.2.1.kind, .int .i64 x.2.1.n], undef, undef, undef, undef, undef, undef, undef, undef, undef, undef, undef, undef], defers := [] })
    ?hAx ?assign ?body ?done ?stop
  case hI =>
    intro s A B row hs hg hr
    obtain ⟨⟨⟨v, x, h1, h2, h3⟩, h4, h5, h7⟩, h6⟩ := hs
    have hne : ∀ k, CellAt A k → B.heap[k]? = A.heap[k]? := fun k hk => hg.block k hk.lt (fun e => by
      obtain ⟨_, o, ho, hc⟩ := hr k e.symm
      obtain ⟨c, E, fz, hk⟩ := hk
      rw [hk] at ho; cases ho; cases hc)
    exact ⟨⟨⟨v, x, h1, (hne _ ⟨_, _, _, h2⟩).trans h2, h3.kept (fun k _ _ hk => hne k hk)⟩, (hne _ ⟨_, _, _, h4⟩).trans h4, (hne _ ⟨_, _, _, h5⟩).trans h5, (hne _ ⟨_, _, _, h7⟩).trans h7⟩, h6.grown hg h6.size (fun k e => by have := (hr k e).1; have := hw0.size; omega)⟩
  case hIx =>
    intro c s A B row hs hg hr
    obtain ⟨⟨h1, h4, h5⟩, h6⟩ := hs
    have hne : ∀ k, CellAt A k → B.heap[k]? = A.heap[k]? := fun k hk => hg.block k hk.lt (fun e => by
      obtain ⟨_, o, ho, hc⟩ := hr k e.symm
      obtain ⟨c, E, fz, hk⟩ := hk
      rw [hk] at ho; cases ho; cases hc)
    exact ⟨⟨h1, (hne _ ⟨_, _, _, h4⟩).trans h4, (hne _ ⟨_, _, _, h5⟩).trans h5⟩, h6.grown hg h6.size (fun k e => by have := (hr k e).1; have := hw0.size; omega)⟩
  case hAx =>
    intro x a' _ A B row hs hg hr
    obtain ⟨Bx, h2, h3⟩ := hs
    have hne : ∀ k, CellAt A k → B.heap[k]? = A.heap[k]? := fun k hk => hg.block k hk.lt (fun e => by
      obtain ⟨_, o, ho, hc⟩ := hr k e.symm
      obtain ⟨c, E, fz, hk⟩ := hk
      rw [hk] at ho; cases ho; cases hc)
    exact ⟨Bx, (hne _ ⟨_, _, _, h2⟩).trans h2, h3⟩
  case assign =>
    rintro lp pre x W K ⟨⟨⟨v, y, h1, c7, hb⟩, c4, c5, cs⟩, hbw⟩ hK
    unfold bwdE
    gi_wp2
    have hkp : ∀ k, k < W.heap.size → (W.alloc (Obj.cells #[Value.int IntKind.u8 x.2.1.kind, Value.int IntKind.i64 x.2.1.n] 23)).heap[k]? = W.heap[k]? := fun k hk => Below.heap_alloc _ _ _ hk
    exact hK _ _ ((KeepsOthers.alloc _ _).from _) ⟨(Below.refl _ W).alloc hbw.size _, hkp _ cs.lt⟩ ⟨⟨⟨v, y, h1, c7.alloc _, hb.kept (fun k _ _ hk => hkp k hk.lt)⟩, c4.alloc _, c5.alloc _, cs.alloc _⟩, hbw.alloc hbw.size _⟩ ⟨W.heap.size, World.alloc_heap_new W _, rfl⟩
  case body =>
    rintro lp pre x a' W hl' ⟨r, hr⟩ ⟨⟨⟨v, y, ⟨hu, hy, hyl⟩, c7, hb⟩, c4, c5, cs⟩, hbw⟩ ⟨Bx, bX, rfl⟩ hlt
    have x0 : W.cell? ⟨Bx, 0, none⟩ = some (.int .u8 x.2.1.kind) := by simp [World.cell?, bX]
    have x1 : W.cell? ⟨Bx, 1, none⟩ = some (.int .i64 x.2.1.n) := by simp [World.cell?, bX]
    have k7 := c7.cell
    obtain ⟨ay, cy, rfl⟩ := asl_form hb
    gi_wp2
    refine ⟨trivial, (CallsIn.inRound lp (callsIn_wide.2 (back_calls _ _ x.2.2 y hy (by omega) W _ hb.arg))).mono ?_⟩
    rintro e W2 ⟨v2, rfl, hb2, hn2⟩
    obtain ⟨a2, c2, rfl⟩ := asl_form hn2
    have hs2 := hb2.size
    have hbw2 : Below w.heap.size w W2 := hbw.trans (hb2.mono hbw.size)
    have d7 : Boxed W2 w4.heap.size 24 (.slice ay y.length cy) := (hb2.block _ c7.lt).trans c7
    have d4 : Boxed W2 w.heap.size 24 (.slice none 0 0) := (hb2.block _ c4.lt).trans c4
    have d5 : Boxed W2 (w.heap.size + 1) 26 (.int .i64 0) := (hb2.block _ c5.lt).trans c5
    have ds : Boxed W2 (w4.heap.size + 1) 37 (.slice a l.length cap) := (hb2.block _ cs.lt).trans cs
    have hK2 : KeepsOthers W W2 := ⟨hs2, fun k o hk _ => (hb2.block k (Array.getElem?_eq_some_iff.1 hk).1).trans hk⟩
    have k72 := d7.cell
    have f72 := d7.frozen
    have k42 := d4.cell
    have f42 := d4.frozen
    have k52 := d5.cell
    have f52 := d5.frozen
    have hh2 := hn2.hb (n := w.heap.size + 2) (B := w4.heap.size) (by have := cs.lt; omega) c7.lt
    have hset : ∀ (u : Value) (k : Nat), k ≠ w4.heap.size → (W2.setCell ⟨w4.heap.size, 0, none⟩ u).heap[k]? = W2.heap[k]? := fun u k hk => Below.heap_setCell _ _ _ _ hk
    cases hKb : bkK x.2.1.kind y with
    | true =>
      gi_wp2
      have e9 := bkO_ok x.2.2 hKb
      have hl9 := bk_len x.2.2 hKb
      refine ⟨(hK2.trans (KeepsOthers.setCell W2 _ _)).from _, ⟨(hb2.mono hbw.size).setCell (p := ⟨w4.heap.size, 0, none⟩) hw4.size _, (hset _ _ (by omega)).trans (hb2.block _ cs.lt)⟩,
        ⟨⟨⟨_, bkO x.2.1.kind x.2.1.n y, ⟨?_, ?_, ?_⟩, d7.set _, hh2.kept (fun k _ hk _ => hset _ k hk)⟩, d4.other (by omega) _, d5.other (by omega) _, ds.other (by omega) _⟩, hbw2.setCell (p := ⟨w4.heap.size, 0, none⟩) hw4.size _⟩⟩
      · rw [unP_snoc, hu, unS, Option.bind_some, if_pos hKb, e9]
      · rw [e9]; exact bk_byt _ _ hy
      · rw [e9]; omega
    | false =>
      gi_wp2
      refine ⟨((hK2.trans (KeepsOthers.setCell W2 _ _)).trans ((KeepsOthers.setCell _ _ _).trans (KeepsOthers.setCell _ _ _))).from _, ⟨⟨rfl, ?_⟩, ?_, ?_⟩, ((hbw2.setCell (p := ⟨w4.heap.size, 0, none⟩) hw4.size _).setCell (p := ⟨w.heap.size, 0, none⟩) (Nat.le_refl _) _).setCell (p := ⟨w.heap.size + 1, 0, none⟩) (Nat.le_succ _) _⟩
      · rw [unP_snoc, hu, unS, Option.bind_some, hKb]; rfl
      · exact ((d4.other (by omega) _).set _).other (by omega) _
      · exact ((d5.other (by omega) _).other (by omega) _).set _
  case done =>
    rintro D ys W hD rfl ⟨⟨⟨v, y, ⟨hu, hy, hyl⟩, c7, hb⟩, c4, c5, cs⟩, hbw⟩ hK
    have k7 := c7.cell
    have k4 := c4.cell
    have f4 := c4.frozen
    have k5 := c5.cell
    have f5 := c5.frozen
    rw [unP_upto l b l.length (Nat.le_refl _), Nat.sub_self, List.drop_zero] at hu
    obtain ⟨e1, e2⟩ := hlo y hu
    clear hlo hno
    obtain ⟨ay, cy, rfl⟩ := asl_form hb
    have hDn : D < W.heap.size := (Array.getElem?_eq_some_iff.1 hK).1
    have hD2 : w.heap.size + 1 < D := by omega
    by_cases h3 : 2000 < y.length
    · rw [if_pos h3] at e1 e2
      subst e1 e2
      gi_wp2
      have hK' := (KeepsOthers.setCell (W.setCell ⟨w.heap.size, 0, none⟩ (.slice none 0 0)) (⟨w.heap.size + 1, 0, none⟩ : Addr) (.int .i64 12)).same D _ ((KeepsOthers.setCell W _ _).same D _ hK rfl) rfl
      have hB2 : Below w.heap.size w ((W.setCell ⟨w.heap.size, 0, none⟩ (.slice none 0 0)).setCell ⟨w.heap.size + 1, 0, none⟩ (.int .i64 12)) := (hbw.setCell (p := ⟨w.heap.size, 0, none⟩) (Nat.le_refl _) _).setCell (p := ⟨w.heap.size + 1, 0, none⟩) (Nat.le_succ _) _
      have r4 := (c4.set (.slice none 0 0)).other (B' := w.heap.size + 1) (by omega) (.int .i64 12)
      have r5 := ((c5.other (B' := w.heap.size) (by omega) (.slice none 0 0))).set (.int .i64 12)
      refine ⟨by simp, .inl ⟨_, _, rfl, run_takeDeferred hK', ?_⟩⟩
      refine ⟨_, undo_res rfl rfl ((World.putObj_heap_other (by omega)).trans r4) ((World.putObj_heap_other (by omega)).trans r5), _, rfl, hB2.trans (belowK_b (w := w) (Nat.le_refl _) _ D _ _ (by omega) hK' rfl rfl), ?_⟩
      exact .asl0 _ _
    · rw [if_neg h3] at e1 e2
      have e3 := e2.symm
      subst e1 e3
      gi_wp2
      have hK' := (KeepsOthers.setCell (W.setCell ⟨w.heap.size, 0, none⟩ (.slice ay y.length cy)) (⟨w.heap.size + 1, 0, none⟩ : Addr) (.int .i64 0)).same D _ ((KeepsOthers.setCell W _ _).same D _ hK rfl) rfl
      have hB2 : Below w.heap.size w ((W.setCell ⟨w.heap.size, 0, none⟩ (.slice ay y.length cy)).setCell ⟨w.heap.size + 1, 0, none⟩ (.int .i64 0)) := (hbw.setCell (p := ⟨w.heap.size, 0, none⟩) (Nat.le_refl _) _).setCell (p := ⟨w.heap.size + 1, 0, none⟩) (Nat.le_succ _) _
      have r4 := (c4.set (.slice ay y.length cy)).other (B' := w.heap.size + 1) (by omega) (.int .i64 0)
      have r5 := ((c5.other (B' := w.heap.size) (by omega) (.slice ay y.length cy))).set (.int .i64 0)
      refine ⟨by simp, .inl ⟨_, _, rfl, run_takeDeferred hK', ?_⟩⟩
      refine ⟨_, undo_res rfl rfl ((World.putObj_heap_other (by omega)).trans r4) ((World.putObj_heap_other (by omega)).trans r5), _, rfl, hB2.trans (belowK_b (w := w) (Nat.le_refl _) _ D _ _ (by omega) hK' rfl rfl), ?_⟩
      have hkk : ∀ k, w.heap.size + 2 ≤ k → CellAt W k → (((W.setCell ⟨w.heap.size, 0, none⟩ (.slice ay y.length cy)).setCell ⟨w.heap.size + 1, 0, none⟩ (.int .i64 0)).putObj D (.deferred none)).heap[k]? = W.heap[k]? := fun k hk hc => by
        have hkD : k ≠ D := fun e => by
          subst e
          obtain ⟨c, E, fz, h1⟩ := hc
          rw [h1] at hK; cases hK
        have s1 : ((W.setCell ⟨w.heap.size, 0, none⟩ (.slice ay y.length cy)).setCell ⟨w.heap.size + 1, 0, none⟩ (.int .i64 0)).heap[k]? = (W.setCell ⟨w.heap.size, 0, none⟩ (.slice ay y.length cy)).heap[k]? := Below.heap_setCell _ _ _ _ (show k ≠ w.heap.size + 1 by omega)
        have s2 : (W.setCell ⟨w.heap.size, 0, none⟩ (.slice ay y.length cy)).heap[k]? = W.heap[k]? := Below.heap_setCell _ _ _ _ (show k ≠ w.heap.size by omega)
        exact (World.putObj_heap_other hkD).trans (s1.trans s2)
      exact Imm.mono (fun f k hk => hkk k hk.1.2.1 hk.2) (fun f k hk => ⟨⟨hk.1.1, by have := hk.1.2.1; omega⟩, by obtain ⟨c, E, fz, h1⟩ := hk.2; exact ⟨c, E, fz, (hkk k hk.1.2.1 hk.2).trans h1⟩⟩) hb
  case stop =>
    rintro D c pre W hD ⟨k, hk, rfl⟩ ⟨⟨⟨rfl, hu⟩, c4, c5⟩, hbw⟩ hK
    have hDn : D < W.heap.size := (Array.getElem?_eq_some_iff.1 hK).1
    obtain ⟨e1, e2⟩ := hno (unP_none l b hk hu)
    subst e1 e2
    gi_wp2
    refine ⟨by simp, .inl ⟨_, _, rfl, run_takeDeferred hK, ?_⟩⟩
    refine ⟨_, undo_res rfl rfl ((World.putObj_heap_other (by omega)).trans c4) ((World.putObj_heap_other (by omega)).trans c5), _, rfl, hbw.trans (belowK_b (w := w) (Nat.le_refl _) _ D _ _ (by omega) hK rfl rfl), ?_⟩
    exact .asl0 _ _
end Go.Proofs.Ytflmhccniamkeaa
