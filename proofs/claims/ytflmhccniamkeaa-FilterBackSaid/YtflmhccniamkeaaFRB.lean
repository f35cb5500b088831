/- FilterBack: for every filter, every list of filters and every string of bytes the call returns true. -/
import Derived.Test.YtflmhccniamkeaaFR0
import Derived.Test.YtflmhccniamkeaaF19
set_option linter.unusedSimpArgs false
set_option linter.unusedVariables false
set_option maxHeartbeats 4000000
set_option maxRecDepth 100000
namespace Go.Proofs.Ytflmhccniamkeaa
open Go Hm Go.ChangeShapes Go.WideShapes Go.ChangeAt Go.RowKit
attribute [local go_sem] Int.reduceEq Int.reduceNe Int.reduceLT Int.reduceLE Int.reduceNeg Int.reduceToNat Int.reduceAdd Int.reduceSub Int.reduceMul Int.reducePow Int.reduceDiv Int.reduceMod ite_eq_left_iff ite_eq_right_iff imp_false Nat.reduceLT Nat.reduceEqDiff Nat.reduceAdd Nat.reduceSub Nat.reduceMul Nat.reduceLeDiff Nat.reduceBEq reduceIte
theorem back_all : ∀ qs, TypVs T 6 Try.f7.params.toList qs → Sum Try.prog G 7 qs (Is (.pv (.bool true)) []) := by
  intro qs h
  rw [Try.params7] at h
  obtain ⟨q1, r, rfl, h1, h⟩ := typVs_cons h
  obtain ⟨q2, r, rfl, h2, h⟩ := typVs_cons h
  obtain ⟨q3, r, rfl, h3, h⟩ := typVs_cons h
  obtain rfl := typVs_nil h
  obtain ⟨ps, rfl, hf⟩ := typV_agg h1 T23 rfl
  obtain ⟨f, rfl, _⟩ := Fl.typ (n := 4) hf
  obtain ⟨l, hl0, hll, _⟩ := Fl.typs (n := 3) (typV_one h2 T37 rfl) T37 und37
  obtain rfl : q2 = _ := List.cons.inj hl0 |>.1
  obtain ⟨b, rfl, hm, hl⟩ := typV_ints h3 T24 und24 T5 und5
  exact back_law f.kind f.n l hll b (fun x hx => byt_wf (hl x hx)) hm
theorem back_lifted (os : Os) (started : os.Started) (H : Type) (enc : TypeId × Value → H) :
    ReturnsInHanded {} Try.checked os 7 .any (Rows.filterBackSpec.pre6 enc Try.prog Try.f7 Rows.filterBackRow.domain false) (Rows.filterBackSpec.post enc Try.prog Try.f7 false true false false) := by
  refine returnsInHanded_of_change (C := Try.checked) own started (by kernel_rfl) Try.func7
    (ChangeSpec.witness6 (enc := enc) (C := Try.checked) (os := os) false ⟨#[], #[.agg #[.int .u8 0, .int .i64 0], .slice none 0 0, .slice none 0 0], []⟩ 400 (by kernel_rfl) (by kernel_rfl) (by kernel_rfl) (by kernel_rfl)) ?_
  intro W base args ds gs before hval hW _ _
  exact law_contract hT rfl (fun ds h => by match ds, h with | [_, _, _], _ => rfl) rfl boolUnder back_all (by decide +kernel) laidOut W base args ds gs before hval hW gok0
theorem back_holds : Rows.FilterBackSaid :=
  OpenClaim.holds_of_wide 7 Try.f7 rfl rfl rfl rfl rfl rfl rfl ⟨rfl, rfl, rfl, rfl, rfl⟩ rfl rfl rfl rfl rfl (by kernel_rfl) Try.func7 (by kernel_rfl)
    (of_decide_eq_true (by kernel_rfl)) (by unfold Func.isWrapper; first | (rw [if_pos (by decide +kernel)]; kernel_rfl) | (rw [if_neg (by decide +kernel)]; exact ⟨rfl, rfl⟩))
    (fun os started H enc _ => back_lifted os started H enc)
#print axioms back_holds
end Go.Proofs.Ytflmhccniamkeaa
