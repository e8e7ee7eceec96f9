import Derived.Test.YtecpknddocikaaaGreatDoorRunF
import Derived.Test.YtecpknddocikaaaGreatDoorR26
namespace Go.Proofs.YtecpknddocikaaaGreatDoor
open Go Go.Run
noncomputable def Ea_c0 : Cfg := Go.Run.start Tryz.f4 4 0 [] .nil
set_option maxRecDepth 1000000 in
theorem Ea_run0 : runF Tryz.prog Tryz.runF 0 (fun v _ => veq v (.bool true)) 21000 (Ea_c0) = true := by kernel_rfl
end Go.Proofs.YtecpknddocikaaaGreatDoor
