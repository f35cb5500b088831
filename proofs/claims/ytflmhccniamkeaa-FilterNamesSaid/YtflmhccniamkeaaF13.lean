/- Filters: slices.Backward over a list of filters: which values it hands to a loop's body. -/
import Derived.RangeFuncNested
import Derived.RangeFuncBox
import Derived.RangeFuncLeaves
import Derived.Shelf.Abstract
import Derived.WalkKit
import Derived.OwnWalkIn
import Derived.TacticsInMore
import Derived.LoopNIn
import Derived.LoopIn
import Derived.Test.YtflmhccniamkeaaF10
set_option linter.unusedSimpArgs false
set_option linter.unusedVariables false
set_option maxHeartbeats 4000000
set_option maxRecDepth 100000
namespace Go.Proofs.Ytflmhccniamkeaa
open Go Hm Go.ChangeShapes Go.WideShapes Go.ChangeAt Go.RowKit
attribute [local go_sem] Int.reduceEq Int.reduceNe Int.reduceLT Int.reduceLE Int.reduceNeg Int.reduceToNat Int.reduceAdd Int.reduceSub Int.reduceMul Int.reducePow Int.reduceDiv Int.reduceMod ite_eq_left_iff ite_eq_right_iff imp_false Nat.reduceLT Nat.reduceEqDiff Nat.reduceAdd Nat.reduceSub Nat.reduceMul Nat.reduceLeDiff Nat.reduceBEq reduceIte
open Go.Shelf
attribute [local go_sem] Oper.semAt_some
def upto {α : Type} (f : Nat → α) (k : Nat) : List α := (List.range k).map f
theorem upto_succ {α : Type} (f : Nat → α) (k : Nat) : upto f (k + 1) = upto f k ++ [f k] := by simp [upto, List.range_succ]
theorem upto_length {α : Type} (f : Nat → α) (k : Nat) : (upto f k).length = k := by simp [upto]
/-- A valid filter. -/
abbrev VF := { f : Fl // flE f.kind f.n = 0 }
instance : Inhabited VF := ⟨⟨⟨2, 0⟩, rfl⟩⟩
/-- The k-th value from behind. -/
def bwd (l : List VF) (k : Nat) : Nat × VF := (l.length - 1 - k, l.getD (l.length - 1 - k) default)
def bwdE (x : Nat × VF) : Array Value := #[.int .i64 (x.1 : Int), .agg #[.int .u8 x.2.1.kind, .int .i64 x.2.1.n]]
/-- What a round keeps: what lay below n₀, and row Bs. -/
def Kps (n₀ Bs : Nat) (W W' : World) : Prop := Below n₀ W W' ∧ W'.heap[Bs]? = W.heap[Bs]?
theorem Kps.trans {n₀ Bs : Nat} {A B C : World} (h : Kps n₀ Bs A B) (k : Kps n₀ Bs B C) : Kps n₀ Bs A C := ⟨h.1.trans k.1, k.2.trans h.2⟩
theorem Kps.box {n₀ Bs : Nat} {A B : World} (h : Kps n₀ Bs A B) {o : Nat} {v : Value} (hc : A.cell? ⟨Bs, o, none⟩ = some v) : B.cell? ⟨Bs, o, none⟩ = some v := (World.cell?_of_block (a := ⟨Bs, o, none⟩) h.2).trans hc
theorem bwd1_in (F : Fence) (n : Nat) (h7 : F.fn 45) (hro : F.round = none) (hn : 1 ≤ n) (lp Bs n₀ b off cap : Nat) (l : List VF) (hlen : l.length ≤ 4) (hb : b < n₀) (J Jx : List (Nat × VF) → World → Prop)
    (hY : ∀ pre x W, J pre W → pre.length < l.length → YieldAt F (n - 1) Try.prog lp (bwdE x) W fun e W' =>
      (e = .returned (.bool true) ∧ J (pre ++ [x]) W' ∧ Kps n₀ Bs W W') ∨ (e = .returned (.bool false) ∧ Jx (pre ++ [x]) W'))
    (W : World) (hBs : W.cell? ⟨Bs, 0, none⟩ = some (.slice (some ⟨b, off, none⟩) l.length cap))
    (hc : ∀ j, j < l.length → W.cell? ⟨b, off + j * 2, none⟩ = some (.int .u8 (l.getD j default).1.kind) ∧ W.cell? ⟨b, off + j * 2 + 1, none⟩ = some (.int .i64 (l.getD j default).1.n)) (h0 : J [] W) :
    CallsIn F n Try.prog 45 #[.func (.yield lp) #[] #[], .pointer (some ⟨Bs, 0, none⟩)] W fun e W' => (∃ v, e = .returned v) ∧
      ((∃ ys, ys = upto (bwd l) l.length ∧ J ys W') ∨ (∃ pre, (∃ k, k ≤ l.length ∧ pre = upto (bwd l) k) ∧ Jx pre W')) := by
  refine callsIn_of_wp Try.func45 rfl h7 ?_ hro
  simp only [Try.ntmps45, List.size_toArray, List.length_cons, List.length_nil, Nat.reduceAdd, Nat.reduceSub, Array.replicate_succ, Array.replicate_zero, List.push_toArray, List.append_toArray, List.nil_append, List.cons_append]
  gi_wp2
  gi_loopw [3] (fun i wr => ∃ k : Nat, k ≤ l.length ∧ i = .int .i64 ((l.length : Int) - 1 - k) ∧ J (upto (bwd l) k) wr ∧ Kps n₀ Bs W wr)
    (fun i _ => (intOf i + 1).toNat)
  case atStart => exact ⟨0, Nat.zero_le _, by simp, h0, Below.refl _ _, rfl⟩
  case round =>
    obtain ⟨k, hk, rfl, hJs, hnx⟩ := hrel
    have hBs' := hnx.box hBs
    by_cases hlt : k < l.length
    · have hi : l.length - 1 - k < l.length := by omega
      have e1 : (l.length : Int) - 1 - k = ((l.length - 1 - k : Nat) : Int) := by omega
      obtain ⟨c1, c2⟩ := hc _ hi
      have c3 := (hnx.1.cell (p := ⟨b, off + (l.length - 1 - k) * 2, none⟩) hb).trans c1
      have c4 := (hnx.1.cell (p := ⟨b, off + (l.length - 1 - k) * 2 + 1, none⟩) hb).trans c2
      obtain ⟨fn, tmps, assign, body, hy, hR⟩ := hY _ (bwd l k) wr hJs (by rw [upto_length]; exact hlt)
      unfold bwdE bwd at hy
      dsimp only at hy
      rw [e1]
      generalize l.length - 1 - k = q at *
      generalize (l.getD q default).1.kind = fk at *
      generalize (l.getD q default).1.n = fm at *
      clear hc c1 c2
      gi_wp2
      refine hR.mono ?_
      rintro e W3 (⟨rfl, hJ3, hk3⟩ | ⟨rfl, hJx3⟩)
      · gi_wp2
        go_roundw
        case rel => exact ⟨k + 1, by omega, by simp only [Value.int.injEq, true_and]; omega, by rw [upto_succ]; exact hJ3, hnx.trans hk3⟩
        case measure => first | (simp [intOf]; done) | (simp [intOf]; omega)
      · gi_wp2
        refine bodyPost_ret (results_none rfl _ _ _) rfl ?_
        exact ⟨⟨_, rfl⟩, .inr ⟨_, ⟨k + 1, by omega, (upto_succ _ _).symm⟩, hJx3⟩⟩
    · obtain rfl : k = l.length := by omega
      have e2 : (l.length : Int) - 1 - l.length = -1 := by omega
      rw [e2]
      gi_wp2
      go_end0
      exact ⟨⟨_, rfl⟩, .inl ⟨_, rfl, hJs⟩⟩
theorem bwd0_in (F : Fence) (n : Nat) (h7 : F.fn 45) (hro : F.round = none) (lp Bs cap : Nat) (a : Option Addr) (J : List (Nat × VF) → World → Prop)
    (W : World) (hBs : W.cell? ⟨Bs, 0, none⟩ = some (.slice a 0 cap)) (h0 : J [] W) :
    CallsIn F n Try.prog 45 #[.func (.yield lp) #[] #[], .pointer (some ⟨Bs, 0, none⟩)] W fun e W' => (∃ v, e = .returned v) ∧ J [] W' := by
  refine callsIn_of_wp Try.func45 rfl h7 ?_ hro
  simp only [Try.ntmps45, List.size_toArray, List.length_cons, List.length_nil, Nat.reduceAdd, Nat.reduceSub, Array.replicate_succ, Array.replicate_zero, List.push_toArray, List.append_toArray, List.nil_append, List.cons_append]
  gi_wp2
  gi_loopw [3] (fun i wr => i = .int .i64 (-1) ∧ J [] wr) (fun _ _ => 0)
  case atStart => exact ⟨rfl, h0⟩
  case round =>
    obtain ⟨rfl, hJs⟩ := hrel
    gi_wp2
    go_end0
    exact ⟨⟨_, rfl⟩, hJs⟩
theorem bwd_stops (F : Fence) (n : Nat) (h7 : F.fn 45) (hro : F.round = none) (hn : 1 ≤ n) (Bs n₀ cap : Nat) (a : Option Addr) (l : List VF) (hlen : l.length ≤ 4) (w : World) (hBs : Bs < w.heap.size) (hn₀ : n₀ ≤ w.heap.size)
    (hc : w.cell? ⟨Bs, 0, none⟩ = some (.slice a l.length cap))
    (hf : 0 < l.length → ∃ b off, a = some ⟨b, off, none⟩ ∧ b < n₀ ∧ ∀ j, j < l.length → w.cell? ⟨b, off + j * 2, none⟩ = some (.int .u8 (l.getD j default).1.kind) ∧ w.cell? ⟨b, off + j * 2 + 1, none⟩ = some (.int .i64 (l.getD j default).1.n)) :
    SeqStopsK F n Try.prog 45 #[.pointer (some ⟨Bs, 0, none⟩)] bwdE (Kps n₀ Bs) (fun ys => ys = upto (bwd l) l.length) (fun pre => ∃ k, k ≤ l.length ∧ pre = upto (bwd l) k) l.length w := fun lp J Jx W hW _ _ hY h0 => by
  have hc' := (hW.cell (p := ⟨Bs, 0, none⟩) hBs).trans hc
  by_cases hp : 0 < l.length
  · obtain ⟨b, off, rfl, hb, hcs⟩ := hf hp
    exact bwd1_in F n h7 hro hn lp Bs n₀ b off cap l hlen hb J Jx hY W hc' (fun j hj => ⟨(hW.cell (p := ⟨b, off + j * 2, none⟩) (Nat.lt_of_lt_of_le hb hn₀)).trans (hcs j hj).1, (hW.cell (p := ⟨b, off + j * 2 + 1, none⟩) (Nat.lt_of_lt_of_le hb hn₀)).trans (hcs j hj).2⟩) h0
  · have e : l = [] := List.eq_nil_of_length_eq_zero (by omega)
    subst e
    exact (bwd0_in F n h7 hro lp Bs cap a J W hc' h0).mono fun e W' ⟨he, hj⟩ => ⟨he, .inl ⟨_, rfl, hj⟩⟩
end Go.Proofs.Ytflmhccniamkeaa
