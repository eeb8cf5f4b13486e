/- The contract of utf8.ValidString, laid by the shelf's own commands for this program. -/
import Derived.Shelf.Unicode.ValidAny
import Derived.Test.YtgoipafikbpioaaGreatDoorProg
import Derived.Test.YtgoipafikbpioaaGreatDoorCalc
namespace Go.Proofs.YtgoipafikbpioaaGreatDoor
open Go.Shelf Go.RowKit Go.Sx
def shValid_ren : Go.Shelf.Ren := ⟨fun | 196 => 245 | 259 => 290 | n => n, fun | 9 => 9 | 4 => 4 | 3 => 3 | 5 => 5 | 12 => 12 | 119 => 315 | 0 => 0 | 46 => 192 | 139 => 318 | 138 => 317 | 53 => 245 | n => n, fun | 3 => 3 | 4 => 4 | n => n⟩
theorem shValid : Go.Proofs.Lays.n196 Tryz.prog shValid_ren := {
  mixed := by kernel_rfl
  f196 := Tryz.func245.trans (congrArg some (by kernel_rfl))
  f259 := Tryz.func290.trans (congrArg some (by kernel_rfl))
  t0 := Tryz.underlying0
  a0 := Tryz.isAgg0
  z0 := Tryz.sizeOf0
  v0 := Tryz.zeroValue0
  t3 := Tryz.underlying3
  a3 := Tryz.isAgg3
  z3 := Tryz.sizeOf3
  v3 := Tryz.zeroValue3
  t4 := Tryz.underlying4
  a4 := Tryz.isAgg4
  z4 := Tryz.sizeOf4
  v4 := Tryz.zeroValue4
  t5 := Tryz.underlying5
  a5 := Tryz.isAgg5
  z5 := Tryz.sizeOf5
  v5 := Tryz.zeroValue5
  t9 := Tryz.underlying9
  a9 := Tryz.isAgg9
  z9 := Tryz.sizeOf9
  v9 := Tryz.zeroValue9
  t12 := Tryz.underlying12
  a12 := Tryz.isAgg12
  z12 := Tryz.sizeOf12
  v12 := Tryz.zeroValue12
  t46 := Tryz.underlying192
  a46 := Tryz.isAgg192
  z46 := Tryz.sizeOf192
  v46 := Tryz.zeroValue192
  t53 := Tryz.underlying245
  a53 := Tryz.isAgg245
  z53 := Tryz.sizeOf245
  v53 := Tryz.zeroValue245
  t119 := Tryz.underlying315
  a119 := Tryz.isAgg315
  z119 := Tryz.sizeOf315
  t138 := Tryz.underlying317
  a138 := Tryz.isAgg317
  z138 := Tryz.sizeOf317
  v138 := Tryz.zeroValue317
  t139 := Tryz.underlying318
  a139 := Tryz.isAgg318
  z139 := Tryz.sizeOf318
  v139 := Tryz.zeroValue318
  g3 := by kernel_rfl
  g4 := by kernel_rfl }
def pUtf8 (v : ByteArray) : Bool := Lib.validD v.data.toList
def Tb (w : World) : Prop := Lib.Utf8Tabs (shValid_ren.g 3) (shValid_ren.g 4) w
theorem Tb.bl {w w' : World} (h : Tb w) (hb : Bl w w') : Tb w' := Utf8Tabs_below h hb
theorem pUtf8_ok (w : World) (v0 : ByteArray) (b0 : v0.size ≤ 140737488355328) (q0 : Tb w) : Calls Tryz.prog 245 #[.string v0] w (fun e w' => e = .returned (.bool (pUtf8 v0)) ∧ Below w.heap.size w w') :=
  Any.utf8_ValidString shValid v0 w (by omega) q0
end Go.Proofs.YtgoipafikbpioaaGreatDoor
