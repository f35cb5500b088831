/- MemberBack: for all bytes and numbers the call returns true and leaves its arguments as they were; sha.quarters and errors.errorType hold what the program's text lays. -/
import Derived.LaidHandle
import Derived.Test.YtkbmkgcenehenaaDoorMR1
import Derived.Test.YtkbmkgcenehenaaDoorM30
set_option linter.unusedSimpArgs false
set_option linter.unusedVariables false
set_option maxHeartbeats 4000000
set_option maxRecDepth 100000
namespace Go.Proofs.YtkbmkgcenehenaaDoor
open Go Hm Go.ChangeShapes Go.WideShapes Go.ChangeAt Go.RowKit
attribute [local go_sem] Int.reduceEq Int.reduceNe Int.reduceLT Int.reduceLE Int.reduceNeg Int.reduceToNat Int.reduceAdd Int.reduceSub Int.reduceMul Int.reducePow Int.reduceDiv Int.reduceMod ite_eq_left_iff ite_eq_right_iff imp_false Nat.reduceLT Nat.reduceEqDiff Nat.reduceAdd Nat.reduceSub Nat.reduceMul Nat.reduceLeDiff Nat.reduceBEq reduceIte
set_option maxRecDepth 100000
theorem sliceU : Tryd.prog.underlying 35 = some (.slice 5) := by kernel_rfl
theorem bytesU : Tryd.prog.bytesOf 5 = 1 := by kernel_rfl
theorem wt_bytes {ts : List TypeId} {qs : List PV} (hw : WtVs Tryd.prog ts qs) (j : Nat) (ht : ts[j]? = some 35) {l : List Int} (hq : qs[j]? = some (.asl true (l.map (PV.int .u8)) l.length)) : l.length ≤ 140737488351232 := by
  have h := hw j _ _ _ _ _ ht hq sliceU
  rw [bytesU] at h
  unfold reachBytes at h
  omega
theorem back_all : ∀ qs, TypVs T 4 Tryd.f7.params.toList qs → WtVs Tryd.prog Tryd.f7.params.toList qs → Sum Tryd.prog GE 7 qs (Is (.pv (.bool true)) []) := by
  intro qs h hw
  rw [Tryd.params7] at h hw
  obtain ⟨q1, r, rfl, h1, h⟩ := typVs_cons h
  obtain ⟨q2, r, rfl, h2, h⟩ := typVs_cons h
  obtain ⟨q3, r, rfl, h3, h⟩ := typVs_cons h
  obtain rfl := typVs_nil h
  obtain ⟨l, hl, hll, ka⟩ := Rec.typs (n := 0) (typV_one h1 T25 rfl) T25 und25
  obtain rfl : q1 = _ := List.cons.inj hl |>.1
  obtain ⟨b, rfl, _, hb⟩ := typV_ints h2 T35 und35 T5 und5
  obtain ⟨a, rfl, _⟩ := typV_int h3 T3 und3
  exact back_law l hll ka b (fun x hx => byt_wf (hb x hx)) (wt_bytes hw 1 rfl rfl) a
noncomputable def laidWorldE (os : Os) : World :=
  let w0 := World.holding Tryd.prog os ⟨#[], #[], []⟩
  { w0 with heap := (w0.heap.modify 0 fun
      | .cells _ t frozen => .cells (quarters.map (Value.int .u32)).toArray t frozen
      | o => o).modify 1 fun
      | .cells _ t frozen => .cells #[.iface 120 (.agg #[.pointer (some ⟨2, 87, none⟩)])] t frozen
      | o => o }
theorem back_lifted (os : Os) (started : os.Started) (H : Type) (enc : TypeId × Value → H) :
    ReturnsInHanded {} Tryd.checked os 7 .any (fun w args => (Rows.memberBackSpec.pre enc Tryd.prog Tryd.f7 Rows.memberBackRow.domain false w args ∧ laidMetH Tryd.prog Rows.memberBackRow.laid w) ∧ sizedMet enc Tryd.prog Tryd.f7 (OpenSpec.ofChange Rows.memberBackSpec) false w args)
      (Rows.memberBackSpec.post enc Tryd.prog Tryd.f7 false true false false) := by
  refine returnsInHanded_of_change_and (C := Tryd.checked) (X := fun w _ => laidMetH Tryd.prog Rows.memberBackRow.laid w) (fun _ _ _ hh h => h.of_heap hh) own started (by kernel_rfl) Tryd.func7
    (ChangeSpec.witness_at (enc := enc) (C := Tryd.checked) (os := os) (X := fun w _ => laidMetH Tryd.prog Rows.memberBackRow.laid w) false (laidWorldE os) #[.slice none 0 0, .slice none 0 0, .int .i64 0] 8 rfl (by kernel_rfl) (by kernel_rfl) (by kernel_rfl) (by kernel_rfl) (by kernel_rfl) (laidMetH_of_parts (laidMet_of_run' 8 (by kernel_rfl) (by kernel_rfl)) (by kernel_rfl))) ?_
  intro W base args ds gs before hval hW _ hz hL _
  exact law_contractW (G := GE) hT rfl (fun ds h => by match ds, h with | [_, _, _], _ => rfl) rfl boolUnder back_all (by decide +kernel) laidOut W base args ds gs before hval hW hz (gokE hL)
theorem back_holds : Rows.MemberBackSaid :=
  OpenClaim.holds_of_wide 7 Tryd.f7 rfl rfl rfl rfl rfl rfl rfl ⟨rfl, rfl, rfl, rfl, rfl⟩ rfl rfl rfl rfl rfl (by kernel_rfl) Tryd.func7 (by kernel_rfl)
    (of_decide_eq_true (by kernel_rfl)) (by unfold Func.isWrapper; first | (rw [if_pos (by decide +kernel)]; kernel_rfl) | (rw [if_neg (by decide +kernel)]; exact ⟨rfl, rfl⟩))
    (fun os started H enc _ => back_lifted os started H enc)
theorem back_card : Rows.MemberBackCardSaid :=
  Claim7.holds_tied_plain_at .later [] [.handle, .data] true (true, "65c14298005b1475f8dcfa8826feea96e8e7f784ad2ba486561ac271b3565835") true
    back_holds (fun _ h => by cases h) (by kernel_rfl) (fun _ h => by cases h) memberBack_row_tie rfl ⟨rfl, rfl⟩ (by kernel_rfl) rfl
    (fun f fn hf hfn => by
      obtain rfl : f = 7 := Option.some.inj ((show Tryd.prog.funcNamed "bitloft/bitloftlaw28.MemberBack" = some 7 by kernel_rfl).symm.trans hf) |>.symm
      obtain rfl : fn = Tryd.f7 := (Option.some.inj (Tryd.func7.symm.trans hfn)).symm
      have hall : (Tryd.f7.params.toList.all fun t => !Tryd.prog.wantsStandIn t) = true := by kernel_rfl
      exact ⟨by kernel_rfl, fun j t ht => by
        have := List.all_eq_true.1 hall t (List.mem_of_getElem? (by simpa using ht))
        have h2 : Tryd.prog.wantsStandIn t = false := by simpa using this
        exact h2⟩)
    (by kernel_rfl)
#print axioms back_card
end Go.Proofs.YtkbmkgcenehenaaDoor
