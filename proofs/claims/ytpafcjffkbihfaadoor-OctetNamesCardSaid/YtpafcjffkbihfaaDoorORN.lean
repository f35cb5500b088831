/- OctetNames: the call returns true; octet.tops holds what the program's text lays. -/
import Derived.Test.YtpafcjffkbihfaaDoorOR
import Derived.Test.YtpafcjffkbihfaaDoorOLN
set_option linter.unusedSimpArgs false
set_option linter.unusedVariables false
set_option maxHeartbeats 4000000
set_option maxRecDepth 100000
namespace Go.Proofs.YtpafcjffkbihfaaDoor
open Go Hm Go.ChangeShapes Go.WideShapes Go.ChangeAt Go.RowKit
set_option maxRecDepth 100000
theorem names_all : ∀ qs, TypVs T 3 Tryd.f6.params.toList qs → Sum Tryd.prog G 6 qs (Is (.pv (.bool true)) []) := by
  intro qs h
  rw [Tryd.params6] at h
  obtain rfl := typVs_nil h
  exact names_law
theorem names_lifted (os : Os) (started : os.Started) (H : Type) (enc : TypeId × Value → H) :
    ReturnsInHanded {} Tryd.checked os 6 .any (fun w args => (Rows.octetNamesSpec.pre enc Tryd.prog Tryd.f6 Rows.octetNamesRow.domain false w args ∧ laidMet Tryd.prog Rows.octetNamesRow.laid w) ∧ sizedMet enc Tryd.prog Tryd.f6 (OpenSpec.ofChange Rows.octetNamesSpec) false w args)
      (Rows.octetNamesSpec.post enc Tryd.prog Tryd.f6 false true false false) := by
  refine returnsInHanded_of_change_and (C := Tryd.checked) (X := fun w _ => laidMet Tryd.prog Rows.octetNamesRow.laid w) (fun _ _ _ hh h => h.of_heap hh) own started (by kernel_rfl) Tryd.func6
    (ChangeSpec.witness_at (enc := enc) (C := Tryd.checked) (os := os) (X := fun w _ => laidMet Tryd.prog Rows.octetNamesRow.laid w) false (topsWorld os) #[] 8 rfl (by kernel_rfl) (by kernel_rfl) (by kernel_rfl) (by kernel_rfl) (by kernel_rfl) (laidMet_of_run' 8 (by kernel_rfl) (by kernel_rfl))) ?_
  intro W base args ds gs before hval hW _ _ hL _
  exact law_contract hT rfl (fun ds h => by match ds, h with | [], _ => rfl) rfl boolUnder names_all (by decide +kernel) laidOut W base args ds gs before hval hW (gok hL)
theorem names_holds : Rows.OctetNamesSaid :=
  OpenClaim.holds_of_wide 6 Tryd.f6 rfl rfl rfl rfl rfl rfl rfl ⟨rfl, rfl, rfl, rfl, rfl⟩ rfl rfl rfl rfl rfl (by kernel_rfl) Tryd.func6 (by kernel_rfl)
    (of_decide_eq_true (by kernel_rfl)) (by unfold Func.isWrapper; first | (rw [if_pos (by decide +kernel)]; kernel_rfl) | (rw [if_neg (by decide +kernel)]; exact ⟨rfl, rfl⟩))
    (fun os started H enc _ => names_lifted os started H enc)
theorem names_card : Rows.OctetNamesCardSaid :=
  Claim7.holds_tied_plain_at .later [] [.data] true (true, "f39099cf1d62139205bc63a33d97bd772e6dbdae1546b15841778d3e3a335623") false
    names_holds (fun _ h => by cases h) (by kernel_rfl) (fun _ h => by cases h) octetNames_row_tie rfl ⟨rfl, rfl⟩ (by kernel_rfl) rfl
    (fun f fn hf hfn => by
      obtain rfl : f = 6 := Option.some.inj ((show Tryd.prog.funcNamed "bitloft/bitloftlaw02.OctetNames" = some 6 by kernel_rfl).symm.trans hf) |>.symm
      obtain rfl : fn = Tryd.f6 := (Option.some.inj (Tryd.func6.symm.trans hfn)).symm
      exact ⟨by kernel_rfl, fun j t ht => by
        have h0 : Tryd.f6.params = #[] := Tryd.params6
        rw [h0] at ht
        simp at ht⟩)
    (by kernel_rfl)
#print axioms names_card
end Go.Proofs.YtpafcjffkbihfaaDoor
