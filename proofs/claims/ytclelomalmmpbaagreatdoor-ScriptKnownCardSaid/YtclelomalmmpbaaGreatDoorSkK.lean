/- Closed facts on the statement's row. -/
import Derived.Test.YtclelomalmmpbaaGreatDoorRows
import Derived.ProofKit
import Derived.OpenShut
import Derived.LaidMore
import Derived.Lay
import Derived.Stop.Joined
import Derived.SizedLaws
import Derived.ChangeBears2
namespace Go.Proofs.YtclelomalmmpbaaGreatDoor
open Go Go.RowKit
theorem scriptKnown_closed : joinedFacts Tryz.pinned.checked.prog 5 Tryz.f5 Rows.scriptKnownSpec Rows.scriptKnownRow = true := by kernel_rfl
end Go.Proofs.YtclelomalmmpbaaGreatDoor
