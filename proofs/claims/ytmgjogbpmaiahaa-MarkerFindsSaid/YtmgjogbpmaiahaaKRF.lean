/- MarkerFinds: for every string of bytes and place the call returns true. -/
import Derived.Test.YtmgjogbpmaiahaaKR0
import Derived.Test.YtmgjogbpmaiahaaK3
set_option linter.unusedSimpArgs false
set_option linter.unusedVariables false
set_option maxHeartbeats 4000000
set_option maxRecDepth 100000
namespace Go.Proofs.Ytmgjogbpmaiahaa
open Go Hm Go.ChangeShapes Go.WideShapes Go.ChangeAt Go.RowKit
theorem finds_all {mx : Int} : ∀ qs, TypVs T 4 Try.f3.params.toList qs → WtVs Try.prog Try.f3.params.toList qs → Sum Try.prog (Gm mx) 3 qs (Is (.pv (.bool true)) []) := by
  intro qs h hw
  rw [Try.params3] at h hw
  obtain ⟨q1, r, rfl, h1, h⟩ := typVs_cons h
  obtain ⟨q2, r, rfl, h2, h⟩ := typVs_cons h
  obtain rfl := typVs_nil h
  obtain ⟨l, rfl, _, hl⟩ := typV_ints h1 T22 und22 T5 und5
  obtain ⟨a, rfl, _⟩ := typV_int h2 T3 und3
  exact finds_law l (fun x hx => byt_wf (hl x hx)) (wt_bytes hw 0 rfl rfl) a
theorem finds_lifted (os : Os) (started : os.Started) (H : Type) (enc : TypeId × Value → H) :
    ReturnsInHanded {} Try.checked os 3 .any (Rows.markerFindsSpec.pre6 enc Try.prog Try.f3 Rows.markerFindsRow.domain false) (Rows.markerFindsSpec.post enc Try.prog Try.f3 false true false false) := by
  refine handedW (C := Try.checked) own started (by kernel_rfl) Try.func3
    (ChangeSpec.witness6 (enc := enc) (C := Try.checked) (os := os) false ⟨#[], #[.slice none 0 0, .int .i64 0], []⟩ 8 (by kernel_rfl) (by kernel_rfl) (by kernel_rfl) (by kernel_rfl)) ?_
  intro W base args ds gs before hsh hval hW hz
  obtain ⟨mx, hG⟩ := gokW hsh
  exact law_contractW (G := Gm mx) hT rfl (fun ds h => by match ds, h with | [_, _], _ => rfl) rfl boolUnder finds_all (by decide +kernel) laidOut W base args ds gs before hval hW hz hG
theorem finds_holds : Rows.MarkerFindsSaid :=
  OpenClaim.holds_of_wide 3 Try.f3 rfl rfl rfl rfl rfl rfl rfl ⟨rfl, rfl, rfl, rfl, rfl⟩ rfl rfl rfl rfl rfl (by kernel_rfl) Try.func3 (by kernel_rfl)
    (of_decide_eq_true (by kernel_rfl)) (by unfold Func.isWrapper; first | (rw [if_pos (by decide +kernel)]; kernel_rfl) | (rw [if_neg (by decide +kernel)]; exact ⟨rfl, rfl⟩))
    (fun os started H enc _ => finds_lifted os started H enc)
#print axioms finds_holds
end Go.Proofs.Ytmgjogbpmaiahaa
