/- The mark, and bytes.Index. -/
import Derived.KernelRfl
import Derived.Shelf.LaysM
import Derived.Shelf.Vars
import Derived.Shelf.Bytes.SlIndexWhole
import Derived.Test.YtmgjogbpmaiahaaHt
set_option linter.unusedSimpArgs false
set_option linter.unusedVariables false
set_option maxHeartbeats 4000000
set_option maxRecDepth 100000
namespace Go.Proofs.Ytmgjogbpmaiahaa
open Go Hm Go.ChangeShapes Go.WideShapes Go.ChangeAt Go.RowKit
theorem hM : Try.prog.follows .mixedOrders = true := by kernel_rfl
/-- The variable internal/bytealg.MaxLen holds some number. -/
def Gm (mx : Int) : Nat → Option (List PV) := fun g => if g = 0 then some [PV.int .i64 mx] else none
def Try.slLays_ren : Go.Shelf.Ren := ⟨fun | 185 => 28 | 187 => 34 | 115 => 33 | 253 => 35 | 224 => 36 | 254 => 37 | 255 => 38 | 291 => 39 | n => n, fun | 37 => 22 | 3 => 3 | 4 => 4 | 0 => 0 | 5 => 5 | 46 => 59 | 9 => 9 | 146 => 61 | 51 => 60 | n => n, fun | 1 => 0 | n => n⟩
theorem Try.slLays : Go.Proofs.LaysM.n185 Try.prog Try.slLays_ren where
  mixed := by kernel_rfl
  f115 := Try.func33.trans (congrArg some (by kernel_rfl))
  f185 := Try.func28.trans (congrArg some (by kernel_rfl))
  f187 := Try.func34.trans (congrArg some (by kernel_rfl))
  f224 := Try.func36.trans (congrArg some (by kernel_rfl))
  f253 := Try.func35.trans (congrArg some (by kernel_rfl))
  f254 := Try.func37.trans (congrArg some (by kernel_rfl))
  f255 := Try.func38.trans (congrArg some (by kernel_rfl))
  f291 := Try.func39.trans (congrArg some (by kernel_rfl))
  t0 := Try.underlying0
  a0 := Try.isAgg0
  z0 := Try.sizeOf0
  v0 := Try.zeroValue0
  t3 := Try.underlying3
  a3 := Try.isAgg3
  z3 := Try.sizeOf3
  v3 := Try.zeroValue3
  t4 := Try.underlying4
  a4 := Try.isAgg4
  z4 := Try.sizeOf4
  v4 := Try.zeroValue4
  t5 := Try.underlying5
  a5 := Try.isAgg5
  z5 := Try.sizeOf5
  v5 := Try.zeroValue5
  t9 := Try.underlying9
  a9 := Try.isAgg9
  z9 := Try.sizeOf9
  v9 := Try.zeroValue9
  t37 := Try.underlying22
  a37 := Try.isAgg22
  z37 := Try.sizeOf22
  v37 := Try.zeroValue22
  t46 := Try.underlying59
  a46 := Try.isAgg59
  z46 := Try.sizeOf59
  v46 := Try.zeroValue59
  t51 := Try.underlying60
  a51 := Try.isAgg60
  z51 := Try.sizeOf60
  v51 := Try.zeroValue60
  t146 := Try.underlying61
  a146 := Try.isAgg61
  z146 := Try.sizeOf61
  v146 := Try.zeroValue61
  g1 := by kernel_rfl
  i0 := by kernel_rfl
  i3 := by kernel_rfl
  i4 := by kernel_rfl
  i5 := by kernel_rfl
  i9 := by kernel_rfl
  i37 := by kernel_rfl
  i46 := by kernel_rfl
  i51 := by kernel_rfl
  i146 := by kernel_rfl
  m1 := by kernel_rfl
  s1_3 := fun w h => Go.Proofs.cell_of_shapedOpen_int (zero := #[.int .i64 0]) (t := 3) h (of_decide_eq_true (by kernel_rfl)) (by kernel_rfl) rfl (by kernel_rfl) (by kernel_rfl) Try.underlying3
end Go.Proofs.Ytmgjogbpmaiahaa
