/- The library's contracts at this dump, in plain words: laid by the kit's own tool (lay-shelf, lay-plain), remarks struck. -/
import Derived.Shelf.SlicesE.Compact
import Derived.Test.YthnlggecjdifnaaDoorProg
namespace Go.Proofs
open Go.Shelf
def Tryd.compactU_ren : Go.Shelf.Ren := ⟨fun | 43 => 34 | n => n, fun | 22 => 72 | 23 => 23 | 3 => 3 | 4 => 4 | 0 => 0 | n => n, fun | n => n⟩
theorem Tryd.compactU : Go.Proofs.SlLaysE.n43 Tryd.prog Tryd.compactU_ren := {
  mixed := by kernel_rfl
  f43 := ⟨Tryd.f34.name, by decide, Tryd.func34.trans (congrArg some (by kernel_rfl))⟩
  t0 := Tryd.underlying0
  a0 := Tryd.isAgg0
  z0 := Tryd.sizeOf0
  v0 := Tryd.zeroValue0
  t3 := Tryd.underlying3
  a3 := Tryd.isAgg3
  z3 := Tryd.sizeOf3
  v3 := Tryd.zeroValue3
  t4 := Tryd.underlying4
  a4 := Tryd.isAgg4
  z4 := Tryd.sizeOf4
  v4 := Tryd.zeroValue4
  t22 := Tryd.underlying72
  a22 := Tryd.isAgg72
  z22 := Tryd.sizeOf72
  v22 := Tryd.zeroValue72
  a23 := Tryd.isAgg23
  z23 := Tryd.sizeOf23 }
end Go.Proofs
