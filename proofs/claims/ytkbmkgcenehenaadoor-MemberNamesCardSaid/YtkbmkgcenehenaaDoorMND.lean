/- MemberNames: the call returns true; sha.quarters and errors.errorType hold what the program's text lays. -/
import Derived.LaidHandle
import Derived.Test.YtkbmkgcenehenaaDoorMR1
import Derived.Test.YtkbmkgcenehenaaDoorM35
set_option linter.unusedSimpArgs false
set_option linter.unusedVariables false
set_option maxHeartbeats 4000000
set_option maxRecDepth 100000
namespace Go.Proofs.YtkbmkgcenehenaaDoor
open Go Hm Go.ChangeShapes Go.WideShapes Go.ChangeAt Go.RowKit
attribute [local go_sem] Int.reduceEq Int.reduceNe Int.reduceLT Int.reduceLE Int.reduceNeg Int.reduceToNat Int.reduceAdd Int.reduceSub Int.reduceMul Int.reducePow Int.reduceDiv Int.reduceMod ite_eq_left_iff ite_eq_right_iff imp_false Nat.reduceLT Nat.reduceEqDiff Nat.reduceAdd Nat.reduceSub Nat.reduceMul Nat.reduceLeDiff Nat.reduceBEq reduceIte
set_option maxRecDepth 100000
theorem names_all : ∀ qs, TypVs T 4 Tryd.f8.params.toList qs → WtVs Tryd.prog Tryd.f8.params.toList qs → Sum Tryd.prog GE 8 qs (Is (.pv (.bool true)) []) := by
  intro qs h hw
  rw [Tryd.params8] at h hw
  obtain rfl := typVs_nil h
  exact names_law
noncomputable def laidWorldE (os : Os) : World :=
  let w0 := World.holding Tryd.prog os ⟨#[], #[], []⟩
  { w0 with heap := (w0.heap.modify 0 fun
      | .cells _ t frozen => .cells (quarters.map (Value.int .u32)).toArray t frozen
      | o => o).modify 1 fun
      | .cells _ t frozen => .cells #[.iface 120 (.agg #[.pointer (some ⟨2, 87, none⟩)])] t frozen
      | o => o }
theorem names_lifted (os : Os) (started : os.Started) (H : Type) (enc : TypeId × Value → H) :
    ReturnsInHanded {} Tryd.checked os 8 .any (fun w args => (Rows.memberNamesSpec.pre enc Tryd.prog Tryd.f8 Rows.memberNamesRow.domain false w args ∧ laidMetH Tryd.prog Rows.memberNamesRow.laid w) ∧ sizedMet enc Tryd.prog Tryd.f8 (OpenSpec.ofChange Rows.memberNamesSpec) false w args)
      (Rows.memberNamesSpec.post enc Tryd.prog Tryd.f8 false true false false) := by
  refine returnsInHanded_of_change_and (C := Tryd.checked) (X := fun w _ => laidMetH Tryd.prog Rows.memberNamesRow.laid w) (fun _ _ _ hh h => h.of_heap hh) own started (by kernel_rfl) Tryd.func8
    (ChangeSpec.witness_at (enc := enc) (C := Tryd.checked) (os := os) (X := fun w _ => laidMetH Tryd.prog Rows.memberNamesRow.laid w) false (laidWorldE os) #[] 8 rfl (by kernel_rfl) (by kernel_rfl) (by kernel_rfl) (by kernel_rfl) (by kernel_rfl) (laidMetH_of_parts (laidMet_of_run' 8 (by kernel_rfl) (by kernel_rfl)) (by kernel_rfl))) ?_
  intro W base args ds gs before hval hW _ hz hL _
  exact law_contractW (G := GE) hT rfl (fun ds h => by match ds, h with | [], _ => rfl) rfl boolUnder names_all (by decide +kernel) laidOut W base args ds gs before hval hW hz (gokE hL)
theorem names_holds : Rows.MemberNamesSaid :=
  OpenClaim.holds_of_wide 8 Tryd.f8 rfl rfl rfl rfl rfl rfl rfl ⟨rfl, rfl, rfl, rfl, rfl⟩ rfl rfl rfl rfl rfl (by kernel_rfl) Tryd.func8 (by kernel_rfl)
    (of_decide_eq_true (by kernel_rfl)) (by unfold Func.isWrapper; first | (rw [if_pos (by decide +kernel)]; kernel_rfl) | (rw [if_neg (by decide +kernel)]; exact ⟨rfl, rfl⟩))
    (fun os started H enc _ => names_lifted os started H enc)
theorem names_card : Rows.MemberNamesCardSaid :=
  Claim7.holds_tied_plain_at .later [] [.handle, .data] true (true, "65c14298005b1475f8dcfa8826feea96e8e7f784ad2ba486561ac271b3565835") true
    names_holds (fun _ h => by cases h) (by kernel_rfl) (fun _ h => by cases h) memberNames_row_tie rfl ⟨rfl, rfl⟩ (by kernel_rfl) rfl
    (fun f fn hf hfn => by
      obtain rfl : f = 8 := Option.some.inj ((show Tryd.prog.funcNamed "bitloft/bitloftlaw28.MemberNames" = some 8 by kernel_rfl).symm.trans hf) |>.symm
      obtain rfl : fn = Tryd.f8 := (Option.some.inj (Tryd.func8.symm.trans hfn)).symm
      exact ⟨by kernel_rfl, fun j t ht => by
        simp [Tryd.params8] at ht⟩)
    (by kernel_rfl)
#print axioms names_card
end Go.Proofs.YtkbmkgcenehenaaDoor
