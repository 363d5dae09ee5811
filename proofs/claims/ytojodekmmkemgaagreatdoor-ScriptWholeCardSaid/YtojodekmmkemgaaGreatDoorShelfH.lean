/- Structures of Go's generic library functions at this seat's translation, laid by the kit's shelf tools in plain words. No condition. -/
import Derived.Shelf.Lays2
import Derived.Ground.Names2Prog
import Derived.Test.YtojodekmmkemgaaGreatDoorProg
namespace Go.Proofs
open Go.Shelf
def Tryz.insertS_ren : Go.Shelf.Ren := ⟨fun | 22 => 17 | 29 => 50 | 30 => 51 | 36 => 83 | 17 => 120 | n => n, fun | 24 => 43 | 9 => 9 | 3 => 3 | 4 => 4 | 0 => 0 | n => n, fun | n => n⟩
theorem Tryz.insertS : Go.Proofs.Lays2.n22 Tryz.prog Tryz.insertS_ren := {
  mixed := by kernel_rfl
  f17 := Tryz.func120.trans (congrArg some (by kernel_rfl))
  f22 := Tryz.func17.trans (congrArg some (by kernel_rfl))
  f29 := Tryz.func50.trans (congrArg some (by kernel_rfl))
  f30 := Tryz.func51.trans (congrArg some (by kernel_rfl))
  f36 := Tryz.func83.trans (congrArg some (by kernel_rfl))
  t0 := Tryz.underlying0
  a0 := Tryz.isAgg0
  z0 := Tryz.sizeOf0
  v0 := Tryz.zeroValue0
  t3 := Tryz.underlying3
  a3 := Tryz.isAgg3
  z3 := Tryz.sizeOf3
  v3 := Tryz.zeroValue3
  t4 := Tryz.underlying4
  a4 := Tryz.isAgg4
  z4 := Tryz.sizeOf4
  v4 := Tryz.zeroValue4
  t9 := Tryz.underlying9
  a9 := Tryz.isAgg9
  z9 := Tryz.sizeOf9
  v9 := Tryz.zeroValue9
  t24 := Tryz.underlying43
  a24 := Tryz.isAgg43
  z24 := Tryz.sizeOf43
  v24 := Tryz.zeroValue43
  i9 := by kernel_rfl }
end Go.Proofs
