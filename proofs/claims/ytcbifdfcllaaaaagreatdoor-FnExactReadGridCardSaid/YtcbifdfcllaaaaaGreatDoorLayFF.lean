/- The shelf's contracts laid at this seat's functions, as the kit's tool prints them. No condition. -/
import Derived.Shelf.Strings.FieldsFuncAny
import Derived.Shelf.SlGeneric
import Derived.Test.YtcbifdfcllaaaaaGreatDoorProg
namespace Go.Proofs.YtcbifdfcllaaaaaGreatDoor
open Go.Shelf Go.Proofs
def Tryz.lays229_ren : Go.Shelf.Ren := ⟨fun | 229 => 74 | n => n, fun | 9 => 9 | 40 => 111 | 31 => 46 | 152 => 127 | 3 => 3 | 0 => 0 | 4 => 4 | 21 => 21 | 154 => 129 | n => n, fun | n => n⟩
theorem Tryz.lays229 : Go.Proofs.Lays.n229 Tryz.prog Tryz.lays229_ren := {
  mixed := by kernel_rfl
  f229 := Tryz.func74.trans (congrArg some (by kernel_rfl))
  t0 := Tryz.underlying0
  a0 := Tryz.isAgg0
  z0 := Tryz.sizeOf0
  v0 := Tryz.zeroValue0
  t3 := Tryz.underlying3
  a3 := Tryz.isAgg3
  z3 := Tryz.sizeOf3
  v3 := Tryz.zeroValue3
  t4 := Tryz.underlying4
  a4 := Tryz.isAgg4
  z4 := Tryz.sizeOf4
  v4 := Tryz.zeroValue4
  t9 := Tryz.underlying9
  a9 := Tryz.isAgg9
  z9 := Tryz.sizeOf9
  v9 := Tryz.zeroValue9
  t21 := Tryz.underlying21
  a21 := Tryz.isAgg21
  z21 := Tryz.sizeOf21
  v21 := Tryz.zeroValue21
  t31 := Tryz.underlying46
  a31 := Tryz.isAgg46
  z31 := Tryz.sizeOf46
  v31 := Tryz.zeroValue46
  t40 := Tryz.underlying111
  a40 := Tryz.isAgg111
  z40 := Tryz.sizeOf111
  v40 := Tryz.zeroValue111
  t152 := Tryz.underlying127
  a152 := Tryz.isAgg127
  z152 := Tryz.sizeOf127
  v152 := Tryz.zeroValue127
  t154 := Tryz.underlying129
  a154 := Tryz.isAgg129
  z154 := Tryz.sizeOf129
  v154 := Tryz.zeroValue129 }
end Go.Proofs.YtcbifdfcllaaaaaGreatDoor
