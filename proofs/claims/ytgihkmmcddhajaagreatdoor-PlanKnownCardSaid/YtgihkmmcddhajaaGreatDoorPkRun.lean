/- The function PlanKnown, run from its start in the kernel: it ends with the value true. No condition. -/
import Derived.Test.YtgihkmmcddhajaaGreatDoorRunF
import Derived.Test.YtgihkmmcddhajaaGreatDoorR25
namespace Go.Proofs.YtgihkmmcddhajaaGreatDoor
open Go.Run
set_option maxRecDepth 1000000 in
theorem runs3 : Go.Run.runF Tryz.prog Tryz.runF 0 (fun v _ => veq v (.bool true)) 40000 (Go.Run.start Tryz.f3 3 0 [] .nil) = true := by kernel_rfl

set_option maxRecDepth 1000000 in
/-- The call of PlanKnown, in whatever world: it returns true, and every block that was there is as it was. -/
theorem law (W : World) : Calls Tryz.prog 3 #[] W fun e w' => e = .returned (.bool true) ∧ Kept W w' :=
  calls_closed (F := Tryz.runF) (G := 0) (fn := Tryz.f3) (n := 40000) Tryz.runF_ok (by kernel_rfl) (Nat.zero_le _) (by kernel_rfl) (by kernel_rfl) (by kernel_rfl) ((runF_run _ _ _ _ _ _).symm.trans runs3)
end Go.Proofs.YtgihkmmcddhajaaGreatDoor
