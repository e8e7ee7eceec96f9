import Derived.Test.YtgpccllhdcggdaaGreatDoorRows
import Derived.ProofKit
import Derived.OpenShut
import Derived.LaidMore
import Derived.Lay
import Derived.Stop.Joined
import Derived.SizedLaws
namespace Go.Proofs.YtgpccllhdcggdaaGreatDoor
open Go Go.RowKit
theorem zcw:joinedFacts Tryz.pinned.checked.prog 3 Tryz.f3 Rows.scriptChecksSpec Rows.scriptChecksRow = true:=by kernel_rfl
end Go.Proofs.YtgpccllhdcggdaaGreatDoor
