/- MarkerNames: the call returns true. -/
import Derived.Test.YtmgjogbpmaiahaaKR0
import Derived.Test.YtmgjogbpmaiahaaK9
set_option linter.unusedSimpArgs false
set_option linter.unusedVariables false
set_option maxHeartbeats 4000000
set_option maxRecDepth 100000
namespace Go.Proofs.Ytmgjogbpmaiahaa
open Go Hm Go.ChangeShapes Go.WideShapes Go.ChangeAt Go.RowKit
theorem names_all {mx : Int} : ∀ qs, TypVs T 4 Try.f7.params.toList qs → WtVs Try.prog Try.f7.params.toList qs → Sum Try.prog (Gm mx) 7 qs (Is (.pv (.bool true)) []) := by
  intro qs h hw
  rw [Try.params7] at h hw
  obtain rfl := typVs_nil h
  exact names_law
theorem names_lifted (os : Os) (started : os.Started) (H : Type) (enc : TypeId × Value → H) :
    ReturnsInHanded {} Try.checked os 7 .any (Rows.markerNamesSpec.pre6 enc Try.prog Try.f7 Rows.markerNamesRow.domain false) (Rows.markerNamesSpec.post enc Try.prog Try.f7 false true false false) := by
  refine handedW (C := Try.checked) own started (by kernel_rfl) Try.func7
    (ChangeSpec.witness6 (enc := enc) (C := Try.checked) (os := os) false ⟨#[], #[], []⟩ 8 (by kernel_rfl) (by kernel_rfl) (by kernel_rfl) (by kernel_rfl)) ?_
  intro W base args ds gs before hsh hval hW hz
  obtain ⟨mx, hG⟩ := gokW hsh
  exact law_contractW (G := Gm mx) hT rfl (fun ds h => by match ds, h with | [], _ => rfl) rfl boolUnder names_all (by decide +kernel) laidOut W base args ds gs before hval hW hz hG
theorem names_holds : Rows.MarkerNamesSaid :=
  OpenClaim.holds_of_wide 7 Try.f7 rfl rfl rfl rfl rfl rfl rfl ⟨rfl, rfl, rfl, rfl, rfl⟩ rfl rfl rfl rfl rfl (by kernel_rfl) Try.func7 (by kernel_rfl)
    (of_decide_eq_true (by kernel_rfl)) (by unfold Func.isWrapper; first | (rw [if_pos (by decide +kernel)]; kernel_rfl) | (rw [if_neg (by decide +kernel)]; exact ⟨rfl, rfl⟩))
    (fun os started H enc _ => names_lifted os started H enc)
#print axioms names_holds
end Go.Proofs.Ytmgjogbpmaiahaa
