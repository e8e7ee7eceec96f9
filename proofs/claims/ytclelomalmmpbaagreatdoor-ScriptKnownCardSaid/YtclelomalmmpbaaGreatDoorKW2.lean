import Derived.Test.YtclelomalmmpbaaGreatDoorKW
/- That start meets the row's list. -/
namespace Go.Proofs.YtclelomalmmpbaaGreatDoor
open Go Go.RowKit
set_option maxRecDepth 100000 in
theorem witW_met (os : Os) (args : Array Value) : laidMetH Tryz.prog Rows.scriptKnownRow.laid ((witW os).forCall (fun _ _ => 0) ⟨#[], args, []⟩).memory :=
  laidMetH_of_parts3 (fuel := 8) (witW_plain os args) (by kernel_rfl) (by kernel_rfl)
end Go.Proofs.YtclelomalmmpbaaGreatDoor
