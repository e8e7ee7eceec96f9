import Derived.Shelf.Strings.Search3
import Derived.Ground.NamesProg
import Derived.Shelf.SlGeneric
import Derived.Test.YtjcbpfhlgebgdaaDoorChecked
namespace Go.Proofs
open Go.Shelf
def Tryd.indexI_ren : Go.Shelf.Ren := ⟨fun | 143 => 182 | 219 => 199 | 217 => 206 | 225 => 213 | 224 => 214 | 267 => 215 | 266 => 218 | 314 => 224 | n => n, fun | 9 => 9 | 3 => 3 | 4 => 4 | 5 => 5 | 46 => 242 | 146 => 286 | 51 => 271 | n => n, fun | 1 => 4 | n => n⟩
theorem Tryd.indexI : Go.Proofs.Lays.n143 Tryd.prog Tryd.indexI_ren := {
  mixed := by kernel_rfl
  f143 := Tryd.func182.trans (congrArg some (by kernel_rfl))
  f217 := Tryd.func206.trans (congrArg some (by kernel_rfl))
  f219 := Tryd.func199.trans (congrArg some (by kernel_rfl))
  f224 := Tryd.func214.trans (congrArg some (by kernel_rfl))
  f225 := Tryd.func213.trans (congrArg some (by kernel_rfl))
  f266 := Tryd.func218.trans (congrArg some (by kernel_rfl))
  f267 := Tryd.func215.trans (congrArg some (by kernel_rfl))
  f314 := Tryd.func224.trans (congrArg some (by kernel_rfl))
  t3 := Tryd.underlying3
  a3 := Tryd.isAgg3
  z3 := Tryd.sizeOf3
  v3 := Tryd.zeroValue3
  t4 := Tryd.underlying4
  a4 := Tryd.isAgg4
  z4 := Tryd.sizeOf4
  v4 := Tryd.zeroValue4
  t5 := Tryd.underlying5
  a5 := Tryd.isAgg5
  z5 := Tryd.sizeOf5
  v5 := Tryd.zeroValue5
  t9 := Tryd.underlying9
  a9 := Tryd.isAgg9
  z9 := Tryd.sizeOf9
  v9 := Tryd.zeroValue9
  t46 := Tryd.underlying242
  a46 := Tryd.isAgg242
  z46 := Tryd.sizeOf242
  v46 := Tryd.zeroValue242
  t51 := Tryd.underlying271
  a51 := Tryd.isAgg271
  z51 := Tryd.sizeOf271
  v51 := Tryd.zeroValue271
  t146 := Tryd.underlying286
  a146 := Tryd.isAgg286
  z146 := Tryd.sizeOf286
  v146 := Tryd.zeroValue286
  g1 := by kernel_rfl }
end Go.Proofs
