import Derived.Test.YtclelomalmmpbaaGreatDoorHW
namespace Go.Proofs.YtclelomalmmpbaaGreatDoor
open Go Go.RowKit
set_option maxRecDepth 100000 in
theorem zqN (os:Os) (args:Array Value):laidMetH Tryz.prog Rows.scriptOneRow.laid ((zhK os).forCall (fun _ _=>0) ⟨#[],args,[]⟩).memory :=
 laidMetH_of_parts3 (fuel:=8) (zm2 os args) (by kernel_rfl) (by kernel_rfl)
end Go.Proofs.YtclelomalmmpbaaGreatDoor
