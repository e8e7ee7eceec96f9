/- That start fits the statement. -/
import Derived.Test.YtclelomalmmpbaaGreatDoorKW3
namespace Go.Proofs.YtclelomalmmpbaaGreatDoor
open Go Go.RowKit
set_option maxRecDepth 100000 in
theorem witW_ok (os : Os) : Input.okWideB Tryz.prog ((witW os).forCall (fun _ _ => 0) ⟨#[], #[], []⟩) 5 ⟨#[], #[], []⟩ = true := by kernel_rfl
set_option maxRecDepth 100000 in
theorem witW_pre (os : Os) {H : Type} (enc : TypeId × Value → H) : Rows.scriptKnownSpec.preB enc Tryz.prog Tryz.f5 Rows.scriptKnownRow.domain false ((witW os).forCall (fun _ _ => 0) ⟨#[], #[], []⟩).memory #[] 8 = true := by kernel_rfl
set_option maxRecDepth 100000 in
theorem witW_sz (os : Os) {H : Type} (enc : TypeId × Value → H) : Rows.scriptKnownSpec.sizedB enc Tryz.prog Tryz.f5 false ((witW os).forCall (fun _ _ => 0) ⟨#[], #[], []⟩).memory #[] 8 = true := by kernel_rfl
end Go.Proofs.YtclelomalmmpbaaGreatDoor
