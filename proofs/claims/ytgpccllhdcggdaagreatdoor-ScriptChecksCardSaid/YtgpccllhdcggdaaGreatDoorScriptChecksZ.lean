import Derived.Test.YtgpccllhdcggdaaGreatDoorScriptChecksL
import Derived.Test.YtgpccllhdcggdaaGreatDoorScriptChecksK
namespace Go.Proofs.YtgpccllhdcggdaaGreatDoor
open Go.ChangeShapes Go.WideShapes Go.ChangeAt Go.RowKit Go.Eng Go.X
theorem zcV:Rows.ScriptChecksSaid :=
 OpenClaim.holds_of_wide 3 Tryz.f3 rfl rfl rfl rfl rfl rfl rfl ⟨rfl,rfl,rfl,rfl,rfl⟩ rfl rfl rfl rfl rfl (by kernel_rfl) Tryz.func3 zcw
  (of_decide_eq_true (by kernel_rfl)) (by unfold Func.isWrapper; first | (rw [if_pos (by decide +kernel)]; kernel_rfl) | (rw [if_neg (by decide +kernel)]; exact ⟨rfl,rfl⟩))
  (fun os started H enc _=>zcx os started H enc)
end Go.Proofs.YtgpccllhdcggdaaGreatDoor
