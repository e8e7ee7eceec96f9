import Derived.Test.YtclelomalmmpbaaGreatDoorKW2
/- That start has the program's shape. -/
namespace Go.Proofs.YtclelomalmmpbaaGreatDoor
open Go Go.RowKit
set_option maxRecDepth 100000 in
theorem witW_shaped (os : Os) (args : Array Value) : ((witW os).forCall (fun _ _ => 0) ⟨#[], args, []⟩).Shaped Tryz.prog := World.shaped_of_ZipB (by kernel_rfl) (by kernel_rfl)
end Go.Proofs.YtclelomalmmpbaaGreatDoor
