import Derived.Test.YtlodiacgkcnkmaaDoorX9
import Derived.Test.YtlodiacgkcnkmaaDoorX4I
import Derived.Test.YtlodiacgkcnkmaaDoorX4C
import Derived.Test.YtlodiacgkcnkmaaDoorPLayI
set_option linter.unusedSimpArgs false
set_option linter.unusedVariables false
namespace Go.Proofs.YtlodiacgkcnkmaaDoor
open Go.X Go.Eng
theorem _root_.Go.Proofs.Tryd.mixed : Tryd.prog.follows .mixedOrders = true := by kernel_rfl
noncomputable def slices_Sort_int_int.srt (d : List Int) : List Int := srtI d
noncomputable def slices_Sort_int_int.sort : XSort Tryd.prog where
  f := 11
  g := none
  c := .i64
  srt := slices_Sort_int_int.srt
  sound := Sorts.of_ints Tryd.sortI
  go := by kernel_rfl
noncomputable def compactX (l : List Int) : Option (List Int) := some (Go.Lib.compact l)
noncomputable def compact.mu : XMut Tryd.prog := XMut.compact (e := 3) Tryd.compactI (by kernel_rfl) (by kernel_rfl)
end Go.Proofs.YtlodiacgkcnkmaaDoor
