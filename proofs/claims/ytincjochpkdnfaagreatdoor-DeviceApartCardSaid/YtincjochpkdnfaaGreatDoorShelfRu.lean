/- The library's contracts at this dump, in plain words: laid by the kit's own tool (lay-shelf, lay-plain), remarks struck. -/
import Derived.Shelf.SlicesE.Compact
import Derived.Test.YtincjochpkdnfaaGreatDoorProg
namespace Go.Proofs
open Go.Shelf
def Tryz.compactU_ren : Go.Shelf.Ren := ⟨fun | 43 => 104 | n => n, fun | 22 => 191 | 23 => 39 | 3 => 3 | 4 => 4 | 0 => 0 | n => n, fun | n => n⟩
theorem Tryz.compactU : Go.Proofs.SlLaysE.n43 Tryz.prog Tryz.compactU_ren := {
  mixed := by kernel_rfl
  f43 := ⟨Tryz.f104.name, by decide, Tryz.func104.trans (congrArg some (by kernel_rfl))⟩
  t0 := Tryz.underlying0
  a0 := Tryz.isAgg0
  z0 := Tryz.sizeOf0
  v0 := Tryz.zeroValue0
  t3 := Tryz.underlying3
  a3 := Tryz.isAgg3
  z3 := Tryz.sizeOf3
  v3 := Tryz.zeroValue3
  t4 := Tryz.underlying4
  a4 := Tryz.isAgg4
  z4 := Tryz.sizeOf4
  v4 := Tryz.zeroValue4
  t22 := Tryz.underlying191
  a22 := Tryz.isAgg191
  z22 := Tryz.sizeOf191
  v22 := Tryz.zeroValue191
  a23 := Tryz.isAgg39
  z23 := Tryz.sizeOf39 }
end Go.Proofs
