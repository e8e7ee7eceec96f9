/-
  DERIVED: THE SHELF's CONTRACTS AT THIS DUMP, IN PLAIN WORDS (tools/lay-plain.mjs out of 'YtjcbpfhlgebgdaaDoorLay0.lean', which tools/lay-shelf.mjs wrote): THE SAME DECLARATIONS UNDER THE SAME NAMES: 'import', 'namespace', 'open', 'def', 'theorem' AND NOTHING ELSE: no command of the shelf's: FOR A HAND-IN. Each laying: the table of numbers ('.._ren') and one theorem, a field a fact of the dump's own or the kernel's comparison; each contract: ONE APPLICATION.
-/
import Derived.Shelf.Strconv.AppendIntPublic10
import Derived.Ground.NamesProg
import Derived.Shelf.SlGeneric
import Derived.Test.YtjcbpfhlgebgdaaDoorChecked
namespace Go.Proofs
open Go.Shelf
def Tryd.appI_ren : Go.Shelf.Ren := ⟨fun | 176 => 56 | 249 => 115 | 288 => 159 | 283 => 184 | 284 => 185 | 285 => 186 | 286 => 187 | 129 => 202 | 317 => 201 | 318 => 203 | 319 => 204 | 320 => 205 | 337 => 216 | 338 => 217 | n => n, fun | 37 => 88 | 2 => 2 | 3 => 3 | 53 => 49 | 4 => 4 | 9 => 9 | 171 => 254 | 0 => 0 | 173 => 257 | 212 => 270 | 51 => 271 | 5 => 5 | 20 => 20 | 213 => 272 | 46 => 242 | 232 => 288 | 233 => 289 | n => n, fun | 17 => 1 | 18 => 5 | 19 => 6 | n => n⟩
theorem Tryd.appI : Go.Proofs.LaysM.n176 Tryd.prog Tryd.appI_ren := {
  mixed := by kernel_rfl
  f129 := Tryd.func202.trans (congrArg some (by kernel_rfl))
  f176 := Tryd.func56.trans (congrArg some (by kernel_rfl))
  f249 := Tryd.func115.trans (congrArg some (by kernel_rfl))
  f283 := Tryd.func184.trans (congrArg some (by kernel_rfl))
  f284 := Tryd.func185.trans (congrArg some (by kernel_rfl))
  f285 := Tryd.func186.trans (congrArg some (by kernel_rfl))
  f286 := Tryd.func187.trans (congrArg some (by kernel_rfl))
  f288 := Tryd.func159.trans (congrArg some (by kernel_rfl))
  f317 := Tryd.func201.trans (congrArg some (by kernel_rfl))
  f318 := Tryd.func203.trans (congrArg some (by kernel_rfl))
  f319 := Tryd.func204.trans (congrArg some (by kernel_rfl))
  f320 := Tryd.func205.trans (congrArg some (by kernel_rfl))
  f337 := Tryd.func216.trans (congrArg some (by kernel_rfl))
  f338 := Tryd.func217.trans (congrArg some (by kernel_rfl))
  t0 := Tryd.underlying0
  a0 := Tryd.isAgg0
  z0 := Tryd.sizeOf0
  v0 := Tryd.zeroValue0
  t2 := Tryd.underlying2
  a2 := Tryd.isAgg2
  z2 := Tryd.sizeOf2
  v2 := Tryd.zeroValue2
  t3 := Tryd.underlying3
  a3 := Tryd.isAgg3
  z3 := Tryd.sizeOf3
  v3 := Tryd.zeroValue3
  t4 := Tryd.underlying4
  a4 := Tryd.isAgg4
  z4 := Tryd.sizeOf4
  v4 := Tryd.zeroValue4
  t5 := Tryd.underlying5
  a5 := Tryd.isAgg5
  z5 := Tryd.sizeOf5
  v5 := Tryd.zeroValue5
  t9 := Tryd.underlying9
  a9 := Tryd.isAgg9
  z9 := Tryd.sizeOf9
  v9 := Tryd.zeroValue9
  t20 := Tryd.underlying20
  a20 := Tryd.isAgg20
  z20 := Tryd.sizeOf20
  v20 := Tryd.zeroValue20
  t37 := Tryd.underlying88
  a37 := Tryd.isAgg88
  z37 := Tryd.sizeOf88
  v37 := Tryd.zeroValue88
  t46 := Tryd.underlying242
  a46 := Tryd.isAgg242
  z46 := Tryd.sizeOf242
  v46 := Tryd.zeroValue242
  t51 := Tryd.underlying271
  a51 := Tryd.isAgg271
  z51 := Tryd.sizeOf271
  v51 := Tryd.zeroValue271
  t53 := Tryd.underlying49
  a53 := Tryd.isAgg49
  z53 := Tryd.sizeOf49
  v53 := Tryd.zeroValue49
  t171 := Tryd.underlying254
  a171 := Tryd.isAgg254
  z171 := Tryd.sizeOf254
  v171 := Tryd.zeroValue254
  t173 := Tryd.underlying257
  a173 := Tryd.isAgg257
  z173 := Tryd.sizeOf257
  v173 := Tryd.zeroValue257
  t212 := Tryd.underlying270
  a212 := Tryd.isAgg270
  z212 := Tryd.sizeOf270
  v212 := Tryd.zeroValue270
  t213 := Tryd.underlying272
  a213 := Tryd.isAgg272
  z213 := Tryd.sizeOf272
  t232 := Tryd.underlying288
  a232 := Tryd.isAgg288
  z232 := Tryd.sizeOf288
  v232 := Tryd.zeroValue288
  t233 := Tryd.underlying289
  a233 := Tryd.isAgg289
  z233 := Tryd.sizeOf289
  v233 := Tryd.zeroValue289
  g17 := by kernel_rfl
  g18 := by kernel_rfl
  g19 := by kernel_rfl
  i0 := by kernel_rfl
  i2 := by kernel_rfl
  i3 := by kernel_rfl
  i4 := by kernel_rfl
  i5 := by kernel_rfl
  i9 := by kernel_rfl
  i20 := by kernel_rfl
  i37 := by kernel_rfl
  i46 := by kernel_rfl
  i51 := by kernel_rfl
  i53 := by kernel_rfl
  i171 := by kernel_rfl
  i173 := by kernel_rfl
  i212 := by kernel_rfl
  i232 := by kernel_rfl
  i233 := by kernel_rfl
  m17 := by kernel_rfl
  m18 := by kernel_rfl
  m19 := by kernel_rfl }
end Go.Proofs
