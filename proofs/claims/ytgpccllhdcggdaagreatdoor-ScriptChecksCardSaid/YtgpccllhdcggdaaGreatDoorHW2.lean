import Derived.Test.YtgpccllhdcggdaaGreatDoorHW
namespace Go.Proofs.YtgpccllhdcggdaaGreatDoor
open Go Go.RowKit
set_option maxRecDepth 100000 in
theorem zsk (os:Os) (args:Array Value):laidMetH Tryz.prog Rows.scriptChecksRow.laid ((ziy os).forCall (fun _ _=>0) ⟨#[],args,[]⟩).memory :=
 laidMetH_of_parts3 (fuel:=8) (zoc os args) (by kernel_rfl) (by kernel_rfl)
end Go.Proofs.YtgpccllhdcggdaaGreatDoor
