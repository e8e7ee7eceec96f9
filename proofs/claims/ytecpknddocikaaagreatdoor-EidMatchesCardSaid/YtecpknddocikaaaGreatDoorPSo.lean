import Derived.Test.YtecpknddocikaaaGreatDoorX9
import Derived.Test.YtecpknddocikaaaGreatDoorX4I
import Derived.Test.YtecpknddocikaaaGreatDoorX4C
import Derived.Test.YtecpknddocikaaaGreatDoorPLayI
set_option linter.unusedSimpArgs false
set_option linter.unusedVariables false
namespace Go.Proofs.YtecpknddocikaaaGreatDoor
open Go.X Go.Eng
theorem _root_.Go.Proofs.Tryz.mixed : Tryz.prog.follows .mixedOrders = true := by kernel_rfl
noncomputable def slices_Sort_int_int.srt (d : List Int) : List Int := srtI d
noncomputable def slices_Sort_int_int.sort : XSort Tryz.prog where
  f := Tryz.sortI_ren.f 189
  g := none
  c := .i64
  srt := slices_Sort_int_int.srt
  sound := Sorts.of_ints Tryz.sortI
  go := by kernel_rfl
noncomputable def compactX (l : List Int) : Option (List Int) := some (Go.Lib.compact l)
noncomputable def compact.mu : XMut Tryz.prog := XMut.compact (e := 3) Tryz.compactI (by kernel_rfl) (by kernel_rfl)
end Go.Proofs.YtecpknddocikaaaGreatDoor
