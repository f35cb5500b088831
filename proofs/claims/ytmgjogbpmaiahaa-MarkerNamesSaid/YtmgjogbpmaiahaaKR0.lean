/- What the rows of this seat ask for. -/
import Derived.Test.YtmgjogbpmaiahaaRows
import Derived.Test.YtmgjogbpmaiahaaKG
set_option linter.unusedSimpArgs false
set_option linter.unusedVariables false
set_option maxHeartbeats 4000000
set_option maxRecDepth 100000
namespace Go.Proofs.Ytmgjogbpmaiahaa
open Go Hm Go.ChangeShapes Go.WideShapes Go.ChangeAt Go.RowKit
theorem own : ownKnob Try.prog.godebug = none := by kernel_rfl
theorem laidOut : laidOutB Try.prog = true := by kernel_rfl
theorem boolUnder : Try.prog.underlying 4 = some .bool := by kernel_rfl
theorem gokW {W : World} (h : W.ShapedOpen Try.prog) : ∃ mx, GOk (Gm mx) W := by
  obtain ⟨m, hm⟩ := Try.slLays.s1_3 W h
  have hm' : W.cell? ⟨0, 0, none⟩ = some (.int .i64 m) := hm
  refine ⟨m, fun g cells hg => ?_⟩
  unfold Gm at hg
  split at hg
  · rename_i h0
    subst h0
    cases hg
    have := Imm.ip (w := W) (ok := fun f b => f = true ∧ b < W.heap.size) true [.int .i64 m] 0 0 0 (fun _ => .int .i64 m) (fun i p hp => by
      have : i = 0 := by have := (List.getElem?_eq_some_iff.1 hp).1; simpa using this
      subst this; cases hp; rfl) (fun i hi => by
      have : i = 0 := by simpa using hi
      subst this
      exact ⟨⟨rfl, cell_lt hm'⟩, hm'⟩) (fun i p hp => by
      have : i = 0 := by have := (List.getElem?_eq_some_iff.1 hp).1; simpa using this
      subst this; cases hp; exact .int _ _)
    exact this
  · cases hg
theorem bytesU : Try.prog.bytesOf 5 = 1 := by kernel_rfl
theorem sliceU : Try.prog.underlying 22 = some (.slice 5) := by kernel_rfl
theorem wt_bytes {ts : List TypeId} {qs : List PV} (hw : WtVs Try.prog ts qs) (j : Nat) (ht : ts[j]? = some 22) {l : List Int} (hq : qs[j]? = some (.asl true (l.map (PV.int .u8)) l.length)) : l.length ≤ 140737488351232 := by
  have h := hw j _ _ _ _ _ ht hq sliceU
  rw [bytesU] at h
  unfold reachBytes at h
  omega
end Go.Proofs.Ytmgjogbpmaiahaa
