import Derived.Test.YtclelomalmmpbaaGreatDoorRows
import Derived.ProofKit
import Derived.OpenShut
import Derived.LaidMore
import Derived.Lay
import Derived.Stop.Joined
import Derived.SizedLaws
namespace Go.Proofs.YtclelomalmmpbaaGreatDoor
open Go Go.RowKit
theorem zed:joinedFacts Tryz.pinned.checked.prog 3 Tryz.f3 Rows.scriptOneSpec Rows.scriptOneRow = true:=by kernel_rfl
end Go.Proofs.YtclelomalmmpbaaGreatDoor
