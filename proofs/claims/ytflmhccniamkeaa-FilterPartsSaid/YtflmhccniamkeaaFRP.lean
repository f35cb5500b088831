/- FilterParts: for every list of filters, every index and every string of bytes the call returns true. -/
import Derived.Test.YtflmhccniamkeaaFR0
import Derived.Test.YtflmhccniamkeaaF20
set_option linter.unusedSimpArgs false
set_option linter.unusedVariables false
set_option maxHeartbeats 4000000
set_option maxRecDepth 100000
namespace Go.Proofs.Ytflmhccniamkeaa
open Go Hm Go.ChangeShapes Go.WideShapes Go.ChangeAt Go.RowKit
attribute [local go_sem] Int.reduceEq Int.reduceNe Int.reduceLT Int.reduceLE Int.reduceNeg Int.reduceToNat Int.reduceAdd Int.reduceSub Int.reduceMul Int.reducePow Int.reduceDiv Int.reduceMod ite_eq_left_iff ite_eq_right_iff imp_false Nat.reduceLT Nat.reduceEqDiff Nat.reduceAdd Nat.reduceSub Nat.reduceMul Nat.reduceLeDiff Nat.reduceBEq reduceIte
theorem parts_all : ∀ qs, TypVs T 6 Try.f8.params.toList qs → Sum Try.prog G 8 qs (Is (.pv (.bool true)) []) := by
  intro qs h
  rw [Try.params8] at h
  obtain ⟨q1, r, rfl, h1, h⟩ := typVs_cons h
  obtain ⟨q2, r, rfl, h2, h⟩ := typVs_cons h
  obtain ⟨q3, r, rfl, h3, h⟩ := typVs_cons h
  obtain rfl := typVs_nil h
  obtain ⟨l, hl0, hll, _⟩ := Fl.typs (n := 3) (typV_one h1 T37 rfl) T37 und37
  obtain rfl : q1 = _ := List.cons.inj hl0 |>.1
  obtain ⟨a, rfl, _⟩ := typV_int h2 T3 und3
  obtain ⟨b, rfl, hm, hl⟩ := typV_ints h3 T24 und24 T5 und5
  exact parts_law l hll a b (fun x hx => byt_wf (hl x hx)) hm
theorem parts_lifted (os : Os) (started : os.Started) (H : Type) (enc : TypeId × Value → H) :
    ReturnsInHanded {} Try.checked os 8 .any (Rows.filterPartsSpec.pre6 enc Try.prog Try.f8 Rows.filterPartsRow.domain false) (Rows.filterPartsSpec.post enc Try.prog Try.f8 false true false false) := by
  refine returnsInHanded_of_change (C := Try.checked) own started (by kernel_rfl) Try.func8
    (ChangeSpec.witness6 (enc := enc) (C := Try.checked) (os := os) false ⟨#[], #[.slice none 0 0, .int .i64 0, .slice none 0 0], []⟩ 400 (by kernel_rfl) (by kernel_rfl) (by kernel_rfl) (by kernel_rfl)) ?_
  intro W base args ds gs before hval hW _ _
  exact law_contract hT rfl (fun ds h => by match ds, h with | [_, _, _], _ => rfl) rfl boolUnder parts_all (by decide +kernel) laidOut W base args ds gs before hval hW gok0
theorem parts_holds : Rows.FilterPartsSaid :=
  OpenClaim.holds_of_wide 8 Try.f8 rfl rfl rfl rfl rfl rfl rfl ⟨rfl, rfl, rfl, rfl, rfl⟩ rfl rfl rfl rfl rfl (by kernel_rfl) Try.func8 (by kernel_rfl)
    (of_decide_eq_true (by kernel_rfl)) (by unfold Func.isWrapper; first | (rw [if_pos (by decide +kernel)]; kernel_rfl) | (rw [if_neg (by decide +kernel)]; exact ⟨rfl, rfl⟩))
    (fun os started H enc _ => parts_lifted os started H enc)
#print axioms parts_holds
end Go.Proofs.Ytflmhccniamkeaa
