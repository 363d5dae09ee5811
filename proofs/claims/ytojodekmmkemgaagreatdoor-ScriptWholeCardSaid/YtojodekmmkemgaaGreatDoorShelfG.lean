/- Structures of Go's generic library functions at this seat's translation, laid by the kit's shelf tools in plain words. No condition. -/
import Derived.Shelf.SlGeneric
import Derived.Shelf.SlicesE.Clone
import Derived.Ground.SlgnProg
import Derived.Test.YtojodekmmkemgaaGreatDoorProg
namespace Go.Proofs
open Go.Shelf
def Tryz.cloneO_ren : Go.Shelf.Ren := ⟨fun | 41 => 32 | n => n, fun | 22 => 24 | 23 => 34 | 4 => 4 | n => n, fun | n => n⟩
theorem Tryz.cloneO : Go.Proofs.SlLaysE0.n41 Tryz.prog Tryz.cloneO_ren := {
  mixed := by kernel_rfl
  f41 := ⟨Tryz.f32.name, by decide, Tryz.func32.trans (congrArg some (by kernel_rfl))⟩
  t4 := Tryz.underlying4
  a4 := Tryz.isAgg4
  z4 := Tryz.sizeOf4
  v4 := Tryz.zeroValue4
  t22 := Tryz.underlying24
  a22 := Tryz.isAgg24
  z22 := Tryz.sizeOf24
  v22 := Tryz.zeroValue24 }
end Go.Proofs
