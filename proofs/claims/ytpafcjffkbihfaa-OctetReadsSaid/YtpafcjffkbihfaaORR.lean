/- OctetReads: for every cursor, width and number the call returns true and leaves its arguments as they were. -/
import Derived.Test.YtpafcjffkbihfaaOR0
import Derived.Test.YtpafcjffkbihfaaOLR
set_option linter.unusedSimpArgs false
set_option linter.unusedVariables false
set_option maxHeartbeats 4000000
set_option maxRecDepth 100000
namespace Go.Proofs.Ytpafcjffkbihfaa
open Go Hm Go.ChangeShapes Go.WideShapes Go.ChangeAt Go.RowKit
theorem reads_all : ∀ qs, TypVs T 4 Try.f3.params.toList qs → Sum Try.prog G 3 qs (Is (.pv (.bool true)) []) := by
  intro qs h
  rw [Try.params3] at h
  obtain ⟨q1, r, rfl, h1, h⟩ := typVs_cons h
  obtain ⟨q2, r, rfl, h2, h⟩ := typVs_cons h
  obtain ⟨q3, r, rfl, h3, h⟩ := typVs_cons h
  obtain ⟨q4, r, rfl, h4, h⟩ := typVs_cons h
  obtain rfl := typVs_nil h
  obtain ⟨ps, rfl, hps⟩ := typV_agg h1 T24 rfl
  obtain ⟨a, b, rfl, ha, b, c, rfl, hb, rfl⟩ := typ_struct hps T24 rfl
  obtain ⟨l, rfl, hlen, hl⟩ := typ_ints ha T22 und22 T5 und5
  obtain ⟨a, rfl, hw⟩ := typ_int hb T3 und3
  obtain ⟨w, rfl, hw⟩ := typV_int h2 T3 und3
  obtain ⟨n, rfl, hn⟩ := typV_int h3 T3 und3
  obtain ⟨m, rfl, hm⟩ := typV_int h4 T25 und25
  have := wf_u64 hm
  have := wf_i64 hn
  exact reads_law l (fun x hx => by have := wf_u8 (hl x hx); omega) a w n m (by omega) (by omega)
theorem reads_lifted (os : Os) (started : os.Started) (H : Type) (enc : TypeId × Value → H) :
    ReturnsInHanded {} Try.checked os 3 .any (Rows.octetReadsSpec.pre6 enc Try.prog Try.f3 Rows.octetReadsRow.domain false) (Rows.octetReadsSpec.post enc Try.prog Try.f3 false true false false) := by
  refine returnsInHanded_of_change (C := Try.checked) own started (by kernel_rfl) Try.func3
    (ChangeSpec.witness6 (enc := enc) (C := Try.checked) (os := os) false ⟨#[], #[.agg #[.slice none 0 0, .int .i64 0], .int .i64 0, .int .i64 0, .int .u64 0], []⟩ 8 (by kernel_rfl) (by kernel_rfl) (by kernel_rfl) (by kernel_rfl)) ?_
  intro W base args ds gs before hval hW _ _
  exact law_contract hT rfl (fun ds h => by match ds, h with | [_, _, _, _], _ => rfl) rfl boolUnder reads_all (by decide +kernel) laidOut W base args ds gs before hval hW gok0
theorem reads_holds : Rows.OctetReadsSaid :=
  OpenClaim.holds_of_wide 3 Try.f3 rfl rfl rfl rfl rfl rfl rfl ⟨rfl, rfl, rfl, rfl, rfl⟩ rfl rfl rfl rfl rfl (by kernel_rfl) Try.func3 (by kernel_rfl)
    (of_decide_eq_true (by kernel_rfl)) (by unfold Func.isWrapper; first | (rw [if_pos (by decide +kernel)]; kernel_rfl) | (rw [if_neg (by decide +kernel)]; exact ⟨rfl, rfl⟩))
    (fun os started H enc _ => reads_lifted os started H enc)
#print axioms reads_holds
end Go.Proofs.Ytpafcjffkbihfaa
