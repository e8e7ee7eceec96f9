/- The statement Rows.ScriptKnownSaid is proved: ScriptKnown returns true, whatever the memory, and leaves everything as it was. -/
import Derived.Test.YtclelomalmmpbaaGreatDoorSkM
import Derived.Test.YtclelomalmmpbaaGreatDoorSkK
import Derived.ProofKit
import Derived.OpenShut
import Derived.LaidMore
import Derived.Lay
import Derived.Stop.Joined
import Derived.SizedLaws
import Derived.ChangeBears2
namespace Go.Proofs.YtclelomalmmpbaaGreatDoor
open Go.ChangeShapes Go.WideShapes Go.ChangeAt Go.RowKit
theorem scriptKnown_holds : Rows.ScriptKnownSaid :=
  OpenClaim.holds_of_wide 5 Tryz.f5 rfl rfl rfl rfl rfl rfl rfl ⟨rfl, rfl, rfl, rfl, rfl⟩ rfl rfl rfl rfl rfl (by kernel_rfl) Tryz.func5 scriptKnown_closed
    (of_decide_eq_true (by kernel_rfl)) (by unfold Func.isWrapper; first | (rw [if_pos (by decide +kernel)]; kernel_rfl) | (rw [if_neg (by decide +kernel)]; exact ⟨rfl, rfl⟩))
    (fun os started H enc _ => scriptKnown_lifted os started H enc)

end Go.Proofs.YtclelomalmmpbaaGreatDoor
