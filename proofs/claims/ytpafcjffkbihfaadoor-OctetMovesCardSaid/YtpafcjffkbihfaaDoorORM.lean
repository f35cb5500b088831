/- OctetMoves: for every cursor the call returns true and leaves its argument as it was; octet.tops holds what the program's text lays. -/
import Derived.Test.YtpafcjffkbihfaaDoorOR
import Derived.Test.YtpafcjffkbihfaaDoorOLM
set_option linter.unusedSimpArgs false
set_option linter.unusedVariables false
set_option maxHeartbeats 4000000
set_option maxRecDepth 100000
namespace Go.Proofs.YtpafcjffkbihfaaDoor
open Go Hm Go.ChangeShapes Go.WideShapes Go.ChangeAt Go.RowKit
set_option maxRecDepth 100000
theorem moves_all : ∀ qs, TypVs T 3 Tryd.f5.params.toList qs → Sum Tryd.prog G 5 qs (Is (.pv (.bool true)) []) := by
  intro qs h
  rw [Tryd.params5] at h
  obtain ⟨q1, r, rfl, h1, h⟩ := typVs_cons h
  obtain rfl := typVs_nil h
  obtain ⟨ps, rfl, g1⟩ := typV_agg h1 T33 (by rw [und33]; rfl)
  have h2 := typ_struct g1 T33 und33
  obtain ⟨a, b, rfl, h3, h4⟩ := h2
  obtain ⟨c, d, rfl, h5, h6⟩ := h4
  obtain rfl : d = [] := h6
  obtain ⟨l, rfl, _, hl⟩ := typ_ints h3 T23 und23 T5 und5
  obtain ⟨m, rfl, _⟩ := typ_int h5 T3 und3
  exact moves_law l m (fun x hx => by have := wf_u8 (hl x hx); omega)
theorem moves_lifted (os : Os) (started : os.Started) (H : Type) (enc : TypeId × Value → H) :
    ReturnsInHanded {} Tryd.checked os 5 .any (fun w args => (Rows.octetMovesSpec.pre enc Tryd.prog Tryd.f5 Rows.octetMovesRow.domain false w args ∧ laidMet Tryd.prog Rows.octetMovesRow.laid w) ∧ sizedMet enc Tryd.prog Tryd.f5 (OpenSpec.ofChange Rows.octetMovesSpec) false w args)
      (Rows.octetMovesSpec.post enc Tryd.prog Tryd.f5 false true false false) := by
  refine returnsInHanded_of_change_and (C := Tryd.checked) (X := fun w _ => laidMet Tryd.prog Rows.octetMovesRow.laid w) (fun _ _ _ hh h => h.of_heap hh) own started (by kernel_rfl) Tryd.func5
    (ChangeSpec.witness_at (enc := enc) (C := Tryd.checked) (os := os) (X := fun w _ => laidMet Tryd.prog Rows.octetMovesRow.laid w) false (topsWorld os) #[.agg #[.slice none 0 0, .int .i64 0]] 8 rfl (by kernel_rfl) (by kernel_rfl) (by kernel_rfl) (by kernel_rfl) (by kernel_rfl) (laidMet_of_run' 8 (by kernel_rfl) (by kernel_rfl))) ?_
  intro W base args ds gs before hval hW _ _ hL _
  exact law_contract hT rfl (fun ds h => by match ds, h with | [_], _ => rfl) rfl boolUnder moves_all (by decide +kernel) laidOut W base args ds gs before hval hW (gok hL)
theorem moves_holds : Rows.OctetMovesSaid :=
  OpenClaim.holds_of_wide 5 Tryd.f5 rfl rfl rfl rfl rfl rfl rfl ⟨rfl, rfl, rfl, rfl, rfl⟩ rfl rfl rfl rfl rfl (by kernel_rfl) Tryd.func5 (by kernel_rfl)
    (of_decide_eq_true (by kernel_rfl)) (by unfold Func.isWrapper; first | (rw [if_pos (by decide +kernel)]; kernel_rfl) | (rw [if_neg (by decide +kernel)]; exact ⟨rfl, rfl⟩))
    (fun os started H enc _ => moves_lifted os started H enc)
theorem moves_card : Rows.OctetMovesCardSaid :=
  Claim7.holds_tied_plain_at .later [] [.data] true (true, "f39099cf1d62139205bc63a33d97bd772e6dbdae1546b15841778d3e3a335623") false
    moves_holds (fun _ h => by cases h) (by kernel_rfl) (fun _ h => by cases h) octetMoves_row_tie rfl ⟨rfl, rfl⟩ (by kernel_rfl) rfl
    (fun f fn hf hfn => by
      obtain rfl : f = 5 := Option.some.inj ((show Tryd.prog.funcNamed "bitloft/bitloftlaw02.OctetMoves" = some 5 by kernel_rfl).symm.trans hf) |>.symm
      obtain rfl : fn = Tryd.f5 := (Option.some.inj (Tryd.func5.symm.trans hfn)).symm
      have hall : (Tryd.f5.params.toList.all fun t => !Tryd.prog.wantsStandIn t) = true := by kernel_rfl
      exact ⟨by kernel_rfl, fun j t ht => by
        have := List.all_eq_true.1 hall t (List.mem_of_getElem? (by simpa using ht))
        have h2 : Tryd.prog.wantsStandIn t = false := by simpa using this
        exact h2⟩)
    (by kernel_rfl)
#print axioms moves_card
end Go.Proofs.YtpafcjffkbihfaaDoor
