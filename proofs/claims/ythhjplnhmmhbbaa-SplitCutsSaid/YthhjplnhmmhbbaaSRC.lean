/- SplitCuts: for every list of sizes, members and block size the call returns true. -/
import Derived.Test.YthhjplnhmmhbbaaRows
import Derived.Test.YthhjplnhmmhbbaaS3
set_option linter.unusedSimpArgs false
set_option linter.unusedVariables false
set_option maxHeartbeats 4000000
set_option maxRecDepth 100000
namespace Go.Proofs.Ythhjplnhmmhbbaa
open Go Hm Go.ChangeShapes Go.WideShapes Go.ChangeAt Go.RowKit
theorem own : ownKnob Try.prog.godebug = none := by kernel_rfl
theorem laidOut : laidOutB Try.prog = true := by kernel_rfl
theorem boolUnder : Try.prog.underlying 4 = some .bool := by kernel_rfl
theorem gok0 {W : World} : GOk G W := fun g cells hg => by cases hg
theorem cuts_all : ∀ qs, TypVs T 4 Try.f3.params.toList qs → Sum Try.prog G 3 qs (Is (.pv (.bool true)) []) := by
  intro qs h
  rw [Try.params3] at h
  obtain ⟨q1, r, rfl, h1, h⟩ := typVs_cons h
  obtain ⟨q2, r, rfl, h2, h⟩ := typVs_cons h
  obtain ⟨q3, r, rfl, h3, h⟩ := typVs_cons h
  obtain rfl := typVs_nil h
  obtain ⟨s, rfl, hs, _⟩ := typV_ints h1 T22 und22 T3 und3
  obtain ⟨l, hl, hll, ka⟩ := Mem.typs (n := 0) (typV_one h2 T23 rfl) T23 und23
  obtain rfl : q2 = _ := List.cons.inj hl |>.1
  obtain ⟨b, rfl, _⟩ := typV_int h3 T3 und3
  exact cuts_law s hs l hll ka b
theorem cuts_lifted (os : Os) (started : os.Started) (H : Type) (enc : TypeId × Value → H) :
    ReturnsInHanded {} Try.checked os 3 .any (Rows.splitCutsSpec.pre6 enc Try.prog Try.f3 Rows.splitCutsRow.domain false) (Rows.splitCutsSpec.post enc Try.prog Try.f3 false true false false) := by
  refine returnsInHanded_of_change (C := Try.checked) own started (by kernel_rfl) Try.func3
    (ChangeSpec.witness6 (enc := enc) (C := Try.checked) (os := os) false ⟨#[], #[.slice none 0 0, .slice none 0 0, .int .i64 0], []⟩ 8 (by kernel_rfl) (by kernel_rfl) (by kernel_rfl) (by kernel_rfl)) ?_
  intro W base args ds gs before hval hW _ _
  exact law_contract hT rfl (fun ds h => by match ds, h with | [_, _, _], _ => rfl) rfl boolUnder cuts_all (by decide +kernel) laidOut W base args ds gs before hval hW gok0
theorem cuts_holds : Rows.SplitCutsSaid :=
  OpenClaim.holds_of_wide 3 Try.f3 rfl rfl rfl rfl rfl rfl rfl ⟨rfl, rfl, rfl, rfl, rfl⟩ rfl rfl rfl rfl rfl (by kernel_rfl) Try.func3 (by kernel_rfl)
    (of_decide_eq_true (by kernel_rfl)) (by unfold Func.isWrapper; first | (rw [if_pos (by decide +kernel)]; kernel_rfl) | (rw [if_neg (by decide +kernel)]; exact ⟨rfl, rfl⟩))
    (fun os started H enc _ => cuts_lifted os started H enc)
#print axioms cuts_holds
end Go.Proofs.Ythhjplnhmmhbbaa
