/- Contracts of functions that the statement reaches: each told as values, for all arguments that its hypotheses let in. -/
import Derived.Test.YtpafcjffkbihfaaDoorTie
import Derived.Test.YtpafcjffkbihfaaDoorCards
import Derived.Test.YtpafcjffkbihfaaDoorO0
set_option linter.unusedSimpArgs false
set_option linter.unusedVariables false
set_option maxHeartbeats 4000000
set_option maxRecDepth 100000
namespace Go.Proofs.YtpafcjffkbihfaaDoor
open Go Hm Go.ChangeShapes Go.WideShapes Go.ChangeAt Go.RowKit
set_option maxRecDepth 100000
theorem own : ownKnob Tryd.prog.godebug = none := by kernel_rfl
theorem laidOut : laidOutB Tryd.prog = true := by kernel_rfl
theorem boolUnder : Tryd.prog.underlying 4 = some .bool := by kernel_rfl
theorem topsNamed : Tryd.prog.globalNamed "bitloft/octet.tops" = some 0 := by kernel_rfl
theorem topsType : (Tryd.prog.globals[0]?).map (·.type) = some 56 := by kernel_rfl
noncomputable def topsWorld (os : Os) : World :=
  let w0 := World.holding Tryd.prog os ⟨#[], #[], []⟩
  { w0 with heap := w0.heap.modify 0 fun
      | .cells _ t frozen => .cells (tops.map (Value.int .u64)).toArray t frozen
      | o => o }
theorem gok {W : World} (h : laidMet Tryd.prog [("bitloft/octet.tops", Rows.laid_bitloft_octet_tops)] W) : GOk G W := fun g cells hg => by
  obtain ⟨ps, hl, _⟩ := h
  unfold G at hg
  split at hg
  · rename_i e
    subst e
    simp only [Option.some.injEq] at hg
    subst hg
    exact laid_imm hT (n := 2) hl (List.mem_singleton.2 rfl) topsNamed topsType (by decide +kernel) (by rfl) (by decide)
  · cases hg
end Go.Proofs.YtpafcjffkbihfaaDoor
