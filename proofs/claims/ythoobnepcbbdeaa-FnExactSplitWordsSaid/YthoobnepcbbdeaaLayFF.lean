/- The shelf's contracts laid at this seat's functions, as the kit's tool prints them. No condition. -/
import Derived.Shelf.Strings.FieldsFuncAny
import Derived.Shelf.SlGeneric
import Derived.Test.YthoobnepcbbdeaaProg
namespace Go.Proofs.Ythoobnepcbbdeaa
open Go.Shelf Go.Proofs
def Try.lays229_ren : Go.Shelf.Ren := ⟨fun | 229 => 13 | n => n, fun | 9 => 9 | 40 => 28 | 31 => 22 | 152 => 34 | 3 => 3 | 0 => 0 | 4 => 4 | 21 => 21 | 154 => 36 | n => n, fun | n => n⟩
theorem Try.lays229 : Go.Proofs.Lays.n229 Try.prog Try.lays229_ren := {
  mixed := by kernel_rfl
  f229 := Try.func13.trans (congrArg some (by kernel_rfl))
  t0 := Try.underlying0
  a0 := Try.isAgg0
  z0 := Try.sizeOf0
  v0 := Try.zeroValue0
  t3 := Try.underlying3
  a3 := Try.isAgg3
  z3 := Try.sizeOf3
  v3 := Try.zeroValue3
  t4 := Try.underlying4
  a4 := Try.isAgg4
  z4 := Try.sizeOf4
  v4 := Try.zeroValue4
  t9 := Try.underlying9
  a9 := Try.isAgg9
  z9 := Try.sizeOf9
  v9 := Try.zeroValue9
  t21 := Try.underlying21
  a21 := Try.isAgg21
  z21 := Try.sizeOf21
  v21 := Try.zeroValue21
  t31 := Try.underlying22
  a31 := Try.isAgg22
  z31 := Try.sizeOf22
  v31 := Try.zeroValue22
  t40 := Try.underlying28
  a40 := Try.isAgg28
  z40 := Try.sizeOf28
  v40 := Try.zeroValue28
  t152 := Try.underlying34
  a152 := Try.isAgg34
  z152 := Try.sizeOf34
  v152 := Try.zeroValue34
  t154 := Try.underlying36
  a154 := Try.isAgg36
  z154 := Try.sizeOf36
  v154 := Try.zeroValue36 }
end Go.Proofs.Ythoobnepcbbdeaa
