/- Two operations of a drawn region that may come in either order and leave the same state but for the order of its slots. -/
import Derived.Test.YtflmhccniamkeaaF24
set_option linter.unusedSimpArgs false
set_option linter.unusedVariables false
set_option maxHeartbeats 4000000
set_option maxRecDepth 100000
namespace Go.Proofs.Ytflmhccniamkeaa
open Go Hm Go.ChangeShapes Go.WideShapes Go.ChangeAt Go.RowKit
attribute [local go_sem] Int.reduceEq Int.reduceNe Int.reduceLT Int.reduceLE Int.reduceNeg Int.reduceToNat Int.reduceAdd Int.reduceSub Int.reduceMul Int.reducePow Int.reduceDiv Int.reduceMod ite_eq_left_iff ite_eq_right_iff imp_false Nat.reduceLT Nat.reduceEqDiff Nat.reduceAdd Nat.reduceSub Nat.reduceMul Nat.reduceLeDiff Nat.reduceBEq reduceIte
section
variable {P : Program} {T : TypeId → Option TI} {G : Nat → Option (List PV)} {ds : List (Option Nat)} {S : List Blk → Prop} {ol : List Oper} {K : St → Prop}
theorem bindK_mono {α : Type} {o : Option α} {A B : α → Prop} (h : ∀ x, A x → B x) : bindK o A → bindK o B := fun ⟨x, e, k⟩ => ⟨x, e, h x k⟩
theorem guardK_mono {b want : Bool} {X Y X' Y' : Prop} (h1 : X → X') (h2 : Y → Y') (h : guardK b want X Y) : guardK b want X' Y' :=
  guardK_in (fun e => h1 ((guardK_out h).1 e)) (fun e => h2 ((guardK_out h).2 e))
theorem runAuto_mono : ∀ (l : List Oper) {s : St} {A B : St → Prop}, (∀ s, A s → B s) → runAuto P T G ds S l s A → runAuto P T G ds S l s B
  | [], _, _, _, hAB, h => hAB _ h
  | o :: r, s, A, B, hAB, h => by
    have ih := fun s' => runAuto_mono r (s := s') hAB
    unfold runAuto at h ⊢
    split at h
    · rw [if_pos ‹_›]
      refine ⟨h.1, ?_⟩
      have h2 := h.2
      cases hg : o.guard with
      | none => rw [hg] at h2; exact bindK_mono (fun v k => ⟨k.1, ih _ k.2⟩) h2
      | some q => rw [hg] at h2; exact bindK_mono (fun b k => guardK_mono (fun k => bindK_mono (fun v k => ⟨k.1, ih _ k.2⟩) k) (ih _) k) h2
    · rw [if_neg ‹_›]
      cases hg : o.guard with
      | none => rw [hg] at h; exact stepOp_mono (fun s' k => ⟨k.1, ih _ k.2⟩) h
      | some q => rw [hg] at h; exact bindK_mono (fun b k => guardK_mono (fun k => stepOp_mono (fun s' k => ⟨k.1, ih _ k.2⟩) k) (fun k => ⟨k.1, ih _ k.2⟩) k) h
def PairEnd (X : List (Nat × LV) → Prop) (n : Nat) (H : List Blk) (up : List (Nat × List (Nat × LV))) (s : St) : Prop := X s.fr ∧ s.n = n ∧ s.H = H ∧ s.up = up
@[congr] theorem PairEnd_congr {X : List (Nat × LV) → Prop} {n : Nat} {H : List Blk} {up : List (Nat × List (Nat × LV))} {s s' : St} (k : s = s') : PairEnd X n H up s = PairEnd X n H up s' := by rw [k]
theorem pair_end {X : List (Nat × LV) → Prop} {n : Nat} {H : List Blk} {up : List (Nat × List (Nat × LV))} {fr : List (Nat × LV)} (h : X fr) : PairEnd X n H up ⟨n, fr, H, up⟩ := ⟨h, rfl, rfl, rfl⟩
theorem rt_pair (X : List (Nat × LV) → Prop) (i j : Nat) {t : PT} {s : St} {n : Nat} {H : List Blk} {up : List (Nat × List (Nat × LV))}
    (h1 : RT P T G ds S ol (.line [i] (.line [j] .done)) (PairEnd X n H up) s) (h2 : RT P T G ds S ol (.line [j] (.line [i] .done)) (PairEnd X n H up) s)
    (h : ∀ fr, X fr → RT P T G ds S ol t K ⟨n, fr, H, up⟩) : RT P T G ds S ol (.alts i (.line [j] t) (.alts j (.line [i] t) .none)) K s := by
  have e : ∀ s', PairEnd X n H up s' → RT P T G ds S ol t K s' := fun s' ⟨k1, k2, k3, k4⟩ => by
    have := h s'.fr k1
    rw [← k2, ← k3, ← k4] at this
    exact this
  exact ⟨runAuto_mono _ (fun s' k => runAuto_mono _ e k) h1, runAuto_mono _ (fun s' k => runAuto_mono _ e k) h2, trivial⟩
end
end Go.Proofs.Ytflmhccniamkeaa
