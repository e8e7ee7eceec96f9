import Derived.Test.YtgihkmmcddhajaaPS
import Derived.Test.YtgihkmmcddhajaaX4I
import Derived.Test.YtgihkmmcddhajaaPLayI
namespace Go.Proofs.Ytgihkmmcddhajaa
open Go.X Go.Eng
set_option linter.unusedSimpArgs false
set_option linter.unusedVariables false
/-- Numbers sorted in place. -/
noncomputable def slices_Sort_int_int.srt (d : List Int) : List Int := srtI d
noncomputable def slices_Sort_int_int.sort : XSort Try.prog where
  f := 51
  g := none
  c := .i64
  srt := slices_Sort_int_int.srt
  sound := Sorts.of_ints Try.sortI
  go := by kernel_rfl
end Go.Proofs.Ytgihkmmcddhajaa
