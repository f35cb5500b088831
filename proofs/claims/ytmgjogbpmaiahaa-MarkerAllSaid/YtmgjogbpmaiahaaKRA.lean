/- MarkerAll: for every string of bytes the call returns true. -/
import Derived.Test.YtmgjogbpmaiahaaKR0
import Derived.Test.YtmgjogbpmaiahaaK8
set_option linter.unusedSimpArgs false
set_option linter.unusedVariables false
set_option maxHeartbeats 4000000
set_option maxRecDepth 100000
namespace Go.Proofs.Ytmgjogbpmaiahaa
open Go Hm Go.ChangeShapes Go.WideShapes Go.ChangeAt Go.RowKit
theorem alls_all {mx : Int} : ∀ qs, TypVs T 4 Try.f8.params.toList qs → WtVs Try.prog Try.f8.params.toList qs → Sum Try.prog (Gm mx) 8 qs (Is (.pv (.bool true)) []) := by
  intro qs h hw
  rw [Try.params8] at h hw
  obtain ⟨q1, r, rfl, h1, h⟩ := typVs_cons h
  obtain rfl := typVs_nil h
  obtain ⟨l, rfl, hm, hl⟩ := typV_ints h1 T22 und22 T5 und5
  exact all_law l (fun x hx => byt_wf (hl x hx)) hm
theorem alls_lifted (os : Os) (started : os.Started) (H : Type) (enc : TypeId × Value → H) :
    ReturnsInHanded {} Try.checked os 8 .any (Rows.markerAllSpec.pre6 enc Try.prog Try.f8 Rows.markerAllRow.domain false) (Rows.markerAllSpec.post enc Try.prog Try.f8 false true false false) := by
  refine handedW (C := Try.checked) own started (by kernel_rfl) Try.func8
    (ChangeSpec.witness6 (enc := enc) (C := Try.checked) (os := os) false ⟨#[], #[.slice none 0 0], []⟩ 8 (by kernel_rfl) (by kernel_rfl) (by kernel_rfl) (by kernel_rfl)) ?_
  intro W base args ds gs before hsh hval hW hz
  obtain ⟨mx, hG⟩ := gokW hsh
  exact law_contractW (G := Gm mx) hT rfl (fun ds h => by match ds, h with | [_], _ => rfl) rfl boolUnder alls_all (by decide +kernel) laidOut W base args ds gs before hval hW hz hG
theorem alls_holds : Rows.MarkerAllSaid :=
  OpenClaim.holds_of_wide 8 Try.f8 rfl rfl rfl rfl rfl rfl rfl ⟨rfl, rfl, rfl, rfl, rfl⟩ rfl rfl rfl rfl rfl (by kernel_rfl) Try.func8 (by kernel_rfl)
    (of_decide_eq_true (by kernel_rfl)) (by unfold Func.isWrapper; first | (rw [if_pos (by decide +kernel)]; kernel_rfl) | (rw [if_neg (by decide +kernel)]; exact ⟨rfl, rfl⟩))
    (fun os started H enc _ => alls_lifted os started H enc)
#print axioms alls_holds
end Go.Proofs.Ytmgjogbpmaiahaa
