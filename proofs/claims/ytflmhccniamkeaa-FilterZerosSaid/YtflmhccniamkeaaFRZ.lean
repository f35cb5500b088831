/- FilterZeros: for every distance and every string of bytes the call returns true. -/
import Derived.Test.YtflmhccniamkeaaFR0
import Derived.Test.YtflmhccniamkeaaF12
set_option linter.unusedSimpArgs false
set_option linter.unusedVariables false
set_option maxHeartbeats 4000000
set_option maxRecDepth 100000
namespace Go.Proofs.Ytflmhccniamkeaa
open Go Hm Go.ChangeShapes Go.WideShapes Go.ChangeAt Go.RowKit
theorem zeros_all : ∀ qs, TypVs T 4 Try.f4.params.toList qs → Sum Try.prog G 4 qs (Is (.pv (.bool true)) []) := by
  intro qs h
  rw [Try.params4] at h
  obtain ⟨q1, r, rfl, h1, h⟩ := typVs_cons h
  obtain ⟨q2, r, rfl, h2, h⟩ := typVs_cons h
  obtain rfl := typVs_nil h
  obtain ⟨n, rfl, _⟩ := typV_int h1 T3 und3
  obtain ⟨b, rfl, hm, hl⟩ := typV_ints h2 T24 und24 T5 und5
  exact zeros_law n b (fun x hx => byt_wf (hl x hx)) hm
theorem zeros_lifted (os : Os) (started : os.Started) (H : Type) (enc : TypeId × Value → H) :
    ReturnsInHanded {} Try.checked os 4 .any (Rows.filterZerosSpec.pre6 enc Try.prog Try.f4 Rows.filterZerosRow.domain false) (Rows.filterZerosSpec.post enc Try.prog Try.f4 false true false false) := by
  refine returnsInHanded_of_change (C := Try.checked) own started (by kernel_rfl) Try.func4
    (ChangeSpec.witness6 (enc := enc) (C := Try.checked) (os := os) false ⟨#[], #[.int .i64 0, .slice none 0 0], []⟩ 400 (by kernel_rfl) (by kernel_rfl) (by kernel_rfl) (by kernel_rfl)) ?_
  intro W base args ds gs before hval hW _ _
  exact law_contract hT rfl (fun ds h => by match ds, h with | [_, _], _ => rfl) rfl boolUnder zeros_all (by decide +kernel) laidOut W base args ds gs before hval hW gok0
theorem zeros_holds : Rows.FilterZerosSaid :=
  OpenClaim.holds_of_wide 4 Try.f4 rfl rfl rfl rfl rfl rfl rfl ⟨rfl, rfl, rfl, rfl, rfl⟩ rfl rfl rfl rfl rfl (by kernel_rfl) Try.func4 (by kernel_rfl)
    (of_decide_eq_true (by kernel_rfl)) (by unfold Func.isWrapper; first | (rw [if_pos (by decide +kernel)]; kernel_rfl) | (rw [if_neg (by decide +kernel)]; exact ⟨rfl, rfl⟩))
    (fun os started H enc _ => zeros_lifted os started H enc)
#print axioms zeros_holds
end Go.Proofs.Ytflmhccniamkeaa
