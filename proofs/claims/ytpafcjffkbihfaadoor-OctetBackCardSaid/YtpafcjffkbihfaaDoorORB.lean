/- OctetBack: for every number, two strings and every width the call returns true and leaves its arguments as they were; octet.tops holds what the program's text lays. -/
import Derived.Test.YtpafcjffkbihfaaDoorOR
import Derived.Test.YtpafcjffkbihfaaDoorOLB
set_option linter.unusedSimpArgs false
set_option linter.unusedVariables false
set_option maxHeartbeats 4000000
set_option maxRecDepth 100000
namespace Go.Proofs.YtpafcjffkbihfaaDoor
open Go Hm Go.ChangeShapes Go.WideShapes Go.ChangeAt Go.RowKit
set_option maxRecDepth 100000
theorem back_all : ∀ qs, TypVs T 3 Tryd.f7.params.toList qs → Sum Tryd.prog G 7 qs (Is (.pv (.bool true)) []) := by
  intro qs h
  rw [Tryd.params7] at h
  obtain ⟨q1, r, rfl, h1, h⟩ := typVs_cons h
  obtain ⟨q2, r, rfl, h2, h⟩ := typVs_cons h
  obtain ⟨q3, r, rfl, h3, h⟩ := typVs_cons h
  obtain ⟨q4, r, rfl, h4, h⟩ := typVs_cons h
  obtain rfl := typVs_nil h
  obtain ⟨n, rfl, hn⟩ := typV_int h1 T22 und22
  have bn := wf_u64 hn
  obtain ⟨l, rfl, _, hl⟩ := typV_ints h2 T23 und23 T5 und5
  obtain ⟨m, rfl, _, hm⟩ := typV_ints h3 T23 und23 T5 und5
  obtain ⟨w, rfl, hw⟩ := typV_int h4 T3 und3
  exact back_law n (by omega) (by omega) l m (fun x hx => by have := wf_u8 (hl x hx); omega) (fun x hx => by have := wf_u8 (hm x hx); omega) w
theorem back_lifted (os : Os) (started : os.Started) (H : Type) (enc : TypeId × Value → H) :
    ReturnsInHanded {} Tryd.checked os 7 .any (fun w args => (Rows.octetBackSpec.pre enc Tryd.prog Tryd.f7 Rows.octetBackRow.domain false w args ∧ laidMet Tryd.prog Rows.octetBackRow.laid w) ∧ sizedMet enc Tryd.prog Tryd.f7 (OpenSpec.ofChange Rows.octetBackSpec) false w args)
      (Rows.octetBackSpec.post enc Tryd.prog Tryd.f7 false true false false) := by
  refine returnsInHanded_of_change_and (C := Tryd.checked) (X := fun w _ => laidMet Tryd.prog Rows.octetBackRow.laid w) (fun _ _ _ hh h => h.of_heap hh) own started (by kernel_rfl) Tryd.func7
    (ChangeSpec.witness_at (enc := enc) (C := Tryd.checked) (os := os) (X := fun w _ => laidMet Tryd.prog Rows.octetBackRow.laid w) false (topsWorld os) #[.int .u64 0, .slice none 0 0, .slice none 0 0, .int .i64 0] 8 rfl (by kernel_rfl) (by kernel_rfl) (by kernel_rfl) (by kernel_rfl) (by kernel_rfl) (laidMet_of_run' 8 (by kernel_rfl) (by kernel_rfl))) ?_
  intro W base args ds gs before hval hW _ _ hL _
  exact law_contract hT rfl (fun ds h => by match ds, h with | [_, _, _, _], _ => rfl) rfl boolUnder back_all (by decide +kernel) laidOut W base args ds gs before hval hW (gok hL)
theorem back_holds : Rows.OctetBackSaid :=
  OpenClaim.holds_of_wide 7 Tryd.f7 rfl rfl rfl rfl rfl rfl rfl ⟨rfl, rfl, rfl, rfl, rfl⟩ rfl rfl rfl rfl rfl (by kernel_rfl) Tryd.func7 (by kernel_rfl)
    (of_decide_eq_true (by kernel_rfl)) (by unfold Func.isWrapper; first | (rw [if_pos (by decide +kernel)]; kernel_rfl) | (rw [if_neg (by decide +kernel)]; exact ⟨rfl, rfl⟩))
    (fun os started H enc _ => back_lifted os started H enc)
theorem back_card : Rows.OctetBackCardSaid :=
  Claim7.holds_tied_plain_at .later [] [.data] true (true, "f39099cf1d62139205bc63a33d97bd772e6dbdae1546b15841778d3e3a335623") false
    back_holds (fun _ h => by cases h) (by kernel_rfl) (fun _ h => by cases h) octetBack_row_tie rfl ⟨rfl, rfl⟩ (by kernel_rfl) rfl
    (fun f fn hf hfn => by
      obtain rfl : f = 7 := Option.some.inj ((show Tryd.prog.funcNamed "bitloft/bitloftlaw02.OctetBack" = some 7 by kernel_rfl).symm.trans hf) |>.symm
      obtain rfl : fn = Tryd.f7 := (Option.some.inj (Tryd.func7.symm.trans hfn)).symm
      have hall : (Tryd.f7.params.toList.all fun t => !Tryd.prog.wantsStandIn t) = true := by kernel_rfl
      exact ⟨by kernel_rfl, fun j t ht => by
        have := List.all_eq_true.1 hall t (List.mem_of_getElem? (by simpa using ht))
        have h2 : Tryd.prog.wantsStandIn t = false := by simpa using this
        exact h2⟩)
    (by kernel_rfl)
#print axioms back_card
end Go.Proofs.YtpafcjffkbihfaaDoor
