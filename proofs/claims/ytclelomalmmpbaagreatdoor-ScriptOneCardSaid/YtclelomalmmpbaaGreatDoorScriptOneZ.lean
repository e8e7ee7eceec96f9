import Derived.Test.YtclelomalmmpbaaGreatDoorScriptOneL
import Derived.Test.YtclelomalmmpbaaGreatDoorScriptOneK
namespace Go.Proofs.YtclelomalmmpbaaGreatDoor
open Go.ChangeShapes Go.WideShapes Go.ChangeAt Go.RowKit Go.Eng Go.X
theorem scriptOne_holds:Rows.ScriptOneSaid :=
 OpenClaim.holds_of_wide 3 Tryz.f3 rfl rfl rfl rfl rfl rfl rfl ⟨rfl,rfl,rfl,rfl,rfl⟩ rfl rfl rfl rfl rfl (by kernel_rfl) Tryz.func3 zed
  (of_decide_eq_true (by kernel_rfl)) (by unfold Func.isWrapper; first | (rw [if_pos (by decide +kernel)]; kernel_rfl) | (rw [if_neg (by decide +kernel)]; exact ⟨rfl,rfl⟩))
  (fun os started H enc _=>zee os started H enc)
end Go.Proofs.YtclelomalmmpbaaGreatDoor
