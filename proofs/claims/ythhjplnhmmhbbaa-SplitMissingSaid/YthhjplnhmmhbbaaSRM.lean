/- SplitMissing: for every list of sizes and pieces the call returns true. -/
import Derived.Test.YthhjplnhmmhbbaaRows
import Derived.Test.YthhjplnhmmhbbaaS12
set_option linter.unusedSimpArgs false
set_option linter.unusedVariables false
set_option maxHeartbeats 4000000
set_option maxRecDepth 100000
namespace Go.Proofs.Ythhjplnhmmhbbaa
open Go Hm Go.ChangeShapes Go.WideShapes Go.ChangeAt Go.RowKit
attribute [local go_sem] Int.reduceEq Int.reduceNe Int.reduceLT Int.reduceLE Int.reduceNeg Int.reduceToNat Int.reduceAdd Int.reduceSub Int.reduceMul Int.reducePow Int.reduceDiv Int.reduceMod ite_eq_left_iff ite_eq_right_iff imp_false Nat.reduceLT Nat.reduceEqDiff Nat.reduceAdd Nat.reduceSub Nat.reduceMul Nat.reduceLeDiff Nat.reduceBEq reduceIte
theorem own : ownKnob Try.prog.godebug = none := by kernel_rfl
theorem laidOut : laidOutB Try.prog = true := by kernel_rfl
theorem boolUnder : Try.prog.underlying 4 = some .bool := by kernel_rfl
theorem gok0 {W : World} : GOk G W := fun g cells hg => by cases hg
theorem gaps_all : ∀ qs, TypVs T 4 Try.f5.params.toList qs → Sum Try.prog G 5 qs (Is (.pv (.bool true)) []) := by
  intro qs h
  rw [Try.params5] at h
  obtain ⟨q1, r, rfl, h1, h⟩ := typVs_cons h
  obtain ⟨q2, r, rfl, h2, h⟩ := typVs_cons h
  obtain rfl := typVs_nil h
  obtain ⟨s, rfl, hs, _⟩ := typV_ints h1 T22 und22 T3 und3
  obtain ⟨l, hl, hll, ka⟩ := Pc.typs (n := 1) (typV_one h2 T27 rfl) T27 und27
  obtain rfl : q2 = _ := List.cons.inj hl |>.1
  exact missing_law s hs l hll
theorem gaps_lifted (os : Os) (started : os.Started) (H : Type) (enc : TypeId × Value → H) :
    ReturnsInHanded {} Try.checked os 5 .any (Rows.splitMissingSpec.pre6 enc Try.prog Try.f5 Rows.splitMissingRow.domain false) (Rows.splitMissingSpec.post enc Try.prog Try.f5 false true false false) := by
  refine returnsInHanded_of_change (C := Try.checked) own started (by kernel_rfl) Try.func5
    (ChangeSpec.witness6 (enc := enc) (C := Try.checked) (os := os) false ⟨#[], #[.slice none 0 0, .slice none 0 0], []⟩ 8 (by kernel_rfl) (by kernel_rfl) (by kernel_rfl) (by kernel_rfl)) ?_
  intro W base args ds gs before hval hW _ _
  exact law_contract hT rfl (fun ds h => by match ds, h with | [_, _], _ => rfl) rfl boolUnder gaps_all (by decide +kernel) laidOut W base args ds gs before hval hW gok0
theorem gaps_holds : Rows.SplitMissingSaid :=
  OpenClaim.holds_of_wide 5 Try.f5 rfl rfl rfl rfl rfl rfl rfl ⟨rfl, rfl, rfl, rfl, rfl⟩ rfl rfl rfl rfl rfl (by kernel_rfl) Try.func5 (by kernel_rfl)
    (of_decide_eq_true (by kernel_rfl)) (by unfold Func.isWrapper; first | (rw [if_pos (by decide +kernel)]; kernel_rfl) | (rw [if_neg (by decide +kernel)]; exact ⟨rfl, rfl⟩))
    (fun os started H enc _ => gaps_lifted os started H enc)
#print axioms gaps_holds
end Go.Proofs.Ythhjplnhmmhbbaa
