import Derived.Test.YtclelomalmmpbaaGreatDoorRows
import Derived.ProofKit
import Derived.LaidMore
import Derived.Lay
import Derived.OpenShut
import Derived.Stop.Joined
/- A start in which the listed variables lie as the program's text lays them: the door's own run, the plain data laid over it. -/
namespace Go.Proofs.YtclelomalmmpbaaGreatDoor
open Go Go.RowKit
def plainL : List (String × DataW Unit) := Rows.scriptKnownRow.laid.filter fun x => x.2.handleName?.isNone
/-- The start. -/
noncomputable def witW (os : Os) : World := (World.doorLaid Tryz.prog 76 os).layVars Tryz.prog plainL
theorem witW_os (os : Os) : (witW os).os = os := World.layVars_os _ _ _
set_option maxRecDepth 100000 in
theorem witW_fits (os : Os) : (World.doorLaid Tryz.prog 76 os).layFits Tryz.prog plainL [] = true := by kernel_rfl
set_option maxRecDepth 100000 in
theorem witW_ifs (os : Os) (args : Array Value) : (World.doorLaid Tryz.prog 76 os).layIfaces Tryz.prog plainL ((witW os).forCall (fun _ _ => 0) ⟨#[], args, []⟩).memory = true := by kernel_rfl
theorem witW_plain (os : Os) (args : Array Value) : laidMet Tryz.prog plainL ((witW os).forCall (fun _ _ => 0) ⟨#[], args, []⟩).memory := by
  have e1 : (plainL.filter fun x => (plainL.map (·.1)).contains x.1) = plainL := List.filter_eq_self.2 fun x hx => List.contains_iff_mem.2 (List.mem_map.2 ⟨x, hx, rfl⟩)
  have e2 : (plainL.filter fun x => !(plainL.map (·.1)).contains x.1) = [] := List.filter_eq_nil_iff.2 fun x hx => by rw [List.contains_iff_mem.2 (List.mem_map.2 ⟨x, hx, rfl⟩)]; simp
  exact laidMet_layVars (w0 := World.doorLaid Tryz.prog 76 os) (plainL.map (·.1)) [] (by rw [e1]; simp [World.memory, World.forCall, Input.heap, witW]) (by rw [e1]; exact witW_fits os) (by rw [e1]; exact witW_ifs os args) (by rw [e2]; exact LaidIn.none)
end Go.Proofs.YtclelomalmmpbaaGreatDoor
