import Derived.Shelf.Sort.Plain
import Derived.Shelf.Slices.In.SortNone
import Derived.Shelf.Slices.CompactI
import Derived.Ground.NamesProg
import Derived.Ground.Names2Prog
import Derived.Shelf.SlGeneric
import Derived.Test.YtlodiacgkcnkmaaDoorChecked
namespace Go.Proofs
open Go.Shelf
def Tryd.sortI_ren : Go.Shelf.Ren := ⟨fun | 189 => 11 | 125 => 26 | 257 => 25 | 128 => 39 | 129 => 40 | 294 => 30 | 295 => 31 | 296 => 32 | 297 => 33 | 298 => 34 | 299 => 35 | 216 => 36 | 300 => 37 | 301 => 38 | 328 => 46 | 329 => 47 | 330 => 48 | 331 => 49 | 332 => 50 | 215 => 51 | 343 => 58 | n => n, fun | 28 => 22 | 3 => 3 | 46 => 54 | 0 => 0 | 51 => 73 | 53 => 75 | 4 => 4 | 183 => 65 | 182 => 64 | 131 => 70 | 5 => 5 | 9 => 9 | 218 => 86 | 222 => 85 | 228 => 99 | 229 => 100 | n => n, fun | n => n⟩
theorem Tryd.sortI : Go.Proofs.Lays.n189 Tryd.prog Tryd.sortI_ren := {
  mixed := by kernel_rfl
  f125 := Tryd.func26.trans (congrArg some (by kernel_rfl))
  f128 := Tryd.func39.trans (congrArg some (by kernel_rfl))
  f129 := Tryd.func40.trans (congrArg some (by kernel_rfl))
  f189 := Tryd.func11.trans (congrArg some (by kernel_rfl))
  f215 := Tryd.func51.trans (congrArg some (by kernel_rfl))
  f216 := Tryd.func36.trans (congrArg some (by kernel_rfl))
  f257 := Tryd.func25.trans (congrArg some (by kernel_rfl))
  f294 := Tryd.func30.trans (congrArg some (by kernel_rfl))
  f295 := Tryd.func31.trans (congrArg some (by kernel_rfl))
  f296 := Tryd.func32.trans (congrArg some (by kernel_rfl))
  f297 := Tryd.func33.trans (congrArg some (by kernel_rfl))
  f298 := Tryd.func34.trans (congrArg some (by kernel_rfl))
  f299 := Tryd.func35.trans (congrArg some (by kernel_rfl))
  f300 := Tryd.func37.trans (congrArg some (by kernel_rfl))
  f301 := Tryd.func38.trans (congrArg some (by kernel_rfl))
  f328 := Tryd.func46.trans (congrArg some (by kernel_rfl))
  f329 := Tryd.func47.trans (congrArg some (by kernel_rfl))
  f330 := Tryd.func48.trans (congrArg some (by kernel_rfl))
  f331 := Tryd.func49.trans (congrArg some (by kernel_rfl))
  f332 := Tryd.func50.trans (congrArg some (by kernel_rfl))
  f343 := Tryd.func58.trans (congrArg some (by kernel_rfl))
  t0 := Tryd.underlying0
  a0 := Tryd.isAgg0
  z0 := Tryd.sizeOf0
  v0 := Tryd.zeroValue0
  t3 := Tryd.underlying3
  a3 := Tryd.isAgg3
  z3 := Tryd.sizeOf3
  v3 := Tryd.zeroValue3
  t4 := Tryd.underlying4
  a4 := Tryd.isAgg4
  z4 := Tryd.sizeOf4
  v4 := Tryd.zeroValue4
  t5 := Tryd.underlying5
  a5 := Tryd.isAgg5
  z5 := Tryd.sizeOf5
  v5 := Tryd.zeroValue5
  t9 := Tryd.underlying9
  a9 := Tryd.isAgg9
  z9 := Tryd.sizeOf9
  v9 := Tryd.zeroValue9
  t28 := Tryd.underlying22
  a28 := Tryd.isAgg22
  z28 := Tryd.sizeOf22
  v28 := Tryd.zeroValue22
  t46 := Tryd.underlying54
  a46 := Tryd.isAgg54
  z46 := Tryd.sizeOf54
  v46 := Tryd.zeroValue54
  t51 := Tryd.underlying73
  a51 := Tryd.isAgg73
  z51 := Tryd.sizeOf73
  v51 := Tryd.zeroValue73
  t53 := Tryd.underlying75
  a53 := Tryd.isAgg75
  z53 := Tryd.sizeOf75
  v53 := Tryd.zeroValue75
  t131 := Tryd.underlying70
  a131 := Tryd.isAgg70
  z131 := Tryd.sizeOf70
  v131 := Tryd.zeroValue70
  t182 := Tryd.underlying64
  a182 := Tryd.isAgg64
  z182 := Tryd.sizeOf64
  v182 := Tryd.zeroValue64
  t183 := Tryd.underlying65
  a183 := Tryd.isAgg65
  z183 := Tryd.sizeOf65
  v183 := Tryd.zeroValue65
  t218 := Tryd.underlying86
  a218 := Tryd.isAgg86
  z218 := Tryd.sizeOf86
  v218 := Tryd.zeroValue86
  t222 := Tryd.underlying85
  a222 := Tryd.isAgg85
  z222 := Tryd.sizeOf85
  v222 := Tryd.zeroValue85
  t228 := Tryd.underlying99
  a228 := Tryd.isAgg99
  z228 := Tryd.sizeOf99
  v228 := Tryd.zeroValue99
  t229 := Tryd.underlying100
  a229 := Tryd.isAgg100
  z229 := Tryd.sizeOf100
  v229 := Tryd.zeroValue100 }
def Tryd.compactI_ren : Go.Shelf.Ren := ⟨fun | 20 => 13 | n => n, fun | 22 => 22 | 3 => 3 | 4 => 4 | 0 => 0 | n => n, fun | n => n⟩
theorem Tryd.compactI : Go.Proofs.Lays2.n20 Tryd.prog Tryd.compactI_ren := {
  mixed := by kernel_rfl
  f20 := Tryd.func13.trans (congrArg some (by kernel_rfl))
  t0 := Tryd.underlying0
  a0 := Tryd.isAgg0
  z0 := Tryd.sizeOf0
  v0 := Tryd.zeroValue0
  t3 := Tryd.underlying3
  a3 := Tryd.isAgg3
  z3 := Tryd.sizeOf3
  v3 := Tryd.zeroValue3
  t4 := Tryd.underlying4
  a4 := Tryd.isAgg4
  z4 := Tryd.sizeOf4
  v4 := Tryd.zeroValue4
  t22 := Tryd.underlying22
  a22 := Tryd.isAgg22
  z22 := Tryd.sizeOf22
  v22 := Tryd.zeroValue22
  i3 := by kernel_rfl }
end Go.Proofs
