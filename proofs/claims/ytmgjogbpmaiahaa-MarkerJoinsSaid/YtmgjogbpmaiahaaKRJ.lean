/- MarkerJoins: for any two strings of bytes the call returns true. -/
import Derived.Test.YtmgjogbpmaiahaaKR0
import Derived.Test.YtmgjogbpmaiahaaK7z
set_option linter.unusedSimpArgs false
set_option linter.unusedVariables false
set_option maxHeartbeats 4000000
set_option maxRecDepth 100000
namespace Go.Proofs.Ytmgjogbpmaiahaa
open Go Hm Go.ChangeShapes Go.WideShapes Go.ChangeAt Go.RowKit
theorem joins_all {mx : Int} : ∀ qs, TypVs T 4 Try.f6.params.toList qs → WtVs Try.prog Try.f6.params.toList qs → Sum Try.prog (Gm mx) 6 qs (Is (.pv (.bool true)) []) := by
  intro qs h hw
  rw [Try.params6] at h hw
  obtain ⟨q1, r, rfl, h1, h⟩ := typVs_cons h
  obtain ⟨q2, r, rfl, h2, h⟩ := typVs_cons h
  obtain rfl := typVs_nil h
  obtain ⟨l, rfl, hm, hl⟩ := typV_ints h1 T22 und22 T5 und5
  obtain ⟨m, rfl, hm2, hl2⟩ := typV_ints h2 T22 und22 T5 und5
  exact joins_law l m (fun x hx => byt_wf (hl x hx)) (fun x hx => byt_wf (hl2 x hx)) hm hm2
theorem joins_lifted (os : Os) (started : os.Started) (H : Type) (enc : TypeId × Value → H) :
    ReturnsInHanded {} Try.checked os 6 .any (Rows.markerJoinsSpec.pre6 enc Try.prog Try.f6 Rows.markerJoinsRow.domain false) (Rows.markerJoinsSpec.post enc Try.prog Try.f6 false true false false) := by
  refine handedW (C := Try.checked) own started (by kernel_rfl) Try.func6
    (ChangeSpec.witness6 (enc := enc) (C := Try.checked) (os := os) false ⟨#[], #[.slice none 0 0, .slice none 0 0], []⟩ 8 (by kernel_rfl) (by kernel_rfl) (by kernel_rfl) (by kernel_rfl)) ?_
  intro W base args ds gs before hsh hval hW hz
  obtain ⟨mx, hG⟩ := gokW hsh
  exact law_contractW (G := Gm mx) hT rfl (fun ds h => by match ds, h with | [_, _], _ => rfl) rfl boolUnder joins_all (by decide +kernel) laidOut W base args ds gs before hval hW hz hG
theorem joins_holds : Rows.MarkerJoinsSaid :=
  OpenClaim.holds_of_wide 6 Try.f6 rfl rfl rfl rfl rfl rfl rfl ⟨rfl, rfl, rfl, rfl, rfl⟩ rfl rfl rfl rfl rfl (by kernel_rfl) Try.func6 (by kernel_rfl)
    (of_decide_eq_true (by kernel_rfl)) (by unfold Func.isWrapper; first | (rw [if_pos (by decide +kernel)]; kernel_rfl) | (rw [if_neg (by decide +kernel)]; exact ⟨rfl, rfl⟩))
    (fun os started H enc _ => joins_lifted os started H enc)
#print axioms joins_holds
end Go.Proofs.Ytmgjogbpmaiahaa
