/- MemberRight: for all members the call returns true and leaves its arguments as they were; sha.quarters holds what the program's text lays. -/
import Derived.Test.YtkbmkgcenehenaaDoorMR0
import Derived.Test.YtkbmkgcenehenaaDoorM20
set_option linter.unusedSimpArgs false
set_option linter.unusedVariables false
set_option maxHeartbeats 4000000
set_option maxRecDepth 100000
namespace Go.Proofs.YtkbmkgcenehenaaDoor
open Go Hm Go.ChangeShapes Go.WideShapes Go.ChangeAt Go.RowKit
attribute [local go_sem] Int.reduceEq Int.reduceNe Int.reduceLT Int.reduceLE Int.reduceNeg Int.reduceToNat Int.reduceAdd Int.reduceSub Int.reduceMul Int.reducePow Int.reduceDiv Int.reduceMod ite_eq_left_iff ite_eq_right_iff imp_false Nat.reduceLT Nat.reduceEqDiff Nat.reduceAdd Nat.reduceSub Nat.reduceMul Nat.reduceLeDiff Nat.reduceBEq reduceIte
set_option maxRecDepth 100000
theorem right_all : ∀ qs, TypVs T 4 Tryd.f5.params.toList qs → Sum Tryd.prog G 5 qs (Is (.pv (.bool true)) []) := by
  intro qs h
  rw [Tryd.params5] at h
  obtain ⟨q1, r, rfl, h1, h⟩ := typVs_cons h
  obtain rfl := typVs_nil h
  obtain ⟨l, hl, hll, ka⟩ := Mem.typs (n := 0) (typV_one h1 T22 rfl) T22 und22
  obtain rfl : q1 = _ := List.cons.inj hl |>.1
  exact right_law l hll ka
theorem right_lifted (os : Os) (started : os.Started) (H : Type) (enc : TypeId × Value → H) :
    ReturnsInHanded {} Tryd.checked os 5 .any (fun w args => (Rows.memberRightSpec.pre enc Tryd.prog Tryd.f5 Rows.memberRightRow.domain false w args ∧ laidMet Tryd.prog Rows.memberRightRow.laid w) ∧ sizedMet enc Tryd.prog Tryd.f5 (OpenSpec.ofChange Rows.memberRightSpec) false w args)
      (Rows.memberRightSpec.post enc Tryd.prog Tryd.f5 false true false false) := by
  refine returnsInHanded_of_change_and (C := Tryd.checked) (X := fun w _ => laidMet Tryd.prog Rows.memberRightRow.laid w) (fun _ _ _ hh h => h.of_heap hh) own started (by kernel_rfl) Tryd.func5
    (ChangeSpec.witness_at (enc := enc) (C := Tryd.checked) (os := os) (X := fun w _ => laidMet Tryd.prog Rows.memberRightRow.laid w) false (laidWorld os) #[.slice none 0 0] 8 rfl (by kernel_rfl) (by kernel_rfl) (by kernel_rfl) (by kernel_rfl) (by kernel_rfl) (laidMet_of_run' 8 (by kernel_rfl) (by kernel_rfl))) ?_
  intro W base args ds gs before hval hW _ _ hL _
  exact law_contract hT rfl (fun ds h => by match ds, h with | [_], _ => rfl) rfl boolUnder right_all (by decide +kernel) laidOut W base args ds gs before hval hW (gok hL)
theorem right_holds : Rows.MemberRightSaid :=
  OpenClaim.holds_of_wide 5 Tryd.f5 rfl rfl rfl rfl rfl rfl rfl ⟨rfl, rfl, rfl, rfl, rfl⟩ rfl rfl rfl rfl rfl (by kernel_rfl) Tryd.func5 (by kernel_rfl)
    (of_decide_eq_true (by kernel_rfl)) (by unfold Func.isWrapper; first | (rw [if_pos (by decide +kernel)]; kernel_rfl) | (rw [if_neg (by decide +kernel)]; exact ⟨rfl, rfl⟩))
    (fun os started H enc _ => right_lifted os started H enc)
theorem right_card : Rows.MemberRightCardSaid :=
  Claim7.holds_tied_plain_at .later [] [.data] true (true, "65c14298005b1475f8dcfa8826feea96e8e7f784ad2ba486561ac271b3565835") true
    right_holds (fun _ h => by cases h) (by kernel_rfl) (fun _ h => by cases h) memberRight_row_tie rfl ⟨rfl, rfl⟩ (by kernel_rfl) rfl
    (fun f fn hf hfn => by
      obtain rfl : f = 5 := Option.some.inj ((show Tryd.prog.funcNamed "bitloft/bitloftlaw28.MemberRight" = some 5 by kernel_rfl).symm.trans hf) |>.symm
      obtain rfl : fn = Tryd.f5 := (Option.some.inj (Tryd.func5.symm.trans hfn)).symm
      have hall : (Tryd.f5.params.toList.all fun t => !Tryd.prog.wantsStandIn t) = true := by kernel_rfl
      exact ⟨by kernel_rfl, fun j t ht => by
        have := List.all_eq_true.1 hall t (List.mem_of_getElem? (by simpa using ht))
        have h2 : Tryd.prog.wantsStandIn t = false := by simpa using this
        exact h2⟩)
    (by kernel_rfl)
#print axioms right_card
end Go.Proofs.YtkbmkgcenehenaaDoor
