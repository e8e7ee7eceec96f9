import Derived.Test.YtgpccllhdcggdaaGreatDoorRows
import Derived.ProofKit
import Derived.LaidMore
import Derived.Lay
import Derived.OpenShut
import Derived.Stop.Joined
namespace Go.Proofs.YtgpccllhdcggdaaGreatDoor
open Go Go.RowKit
def zae:List (String × DataW Unit):=Rows.scriptChecksRow.laid.filter fun x=>x.2.handleName?.isNone
noncomputable def ziy (os:Os):World:=(World.doorLaid Tryz.prog 76 os).layVars Tryz.prog zae
theorem zu0 (os:Os):(ziy os).os = os:=World.layVars_os _ _ _
set_option maxRecDepth 100000 in
theorem zqX (os:Os):(World.doorLaid Tryz.prog 76 os).layFits Tryz.prog zae [] = true:=by kernel_rfl
set_option maxRecDepth 100000 in
theorem zsj (os:Os) (args:Array Value):(World.doorLaid Tryz.prog 76 os).layIfaces Tryz.prog zae ((ziy os).forCall (fun _ _=>0) ⟨#[],args,[]⟩).memory = true:=by kernel_rfl
theorem zoc (os:Os) (args:Array Value):laidMet Tryz.prog zae ((ziy os).forCall (fun _ _=>0) ⟨#[],args,[]⟩).memory:=by
 have e1:(zae.filter fun x=>(zae.map (·.1)).contains x.1) = zae:=List.filter_eq_self.2 fun x hx=>List.contains_iff_mem.2 (List.mem_map.2 ⟨x,hx,rfl⟩)
 have e2:(zae.filter fun x=>!(zae.map (·.1)).contains x.1) = []:=List.filter_eq_nil_iff.2 fun x hx=>by rw [List.contains_iff_mem.2 (List.mem_map.2 ⟨x,hx,rfl⟩)]; simp
 exact laidMet_layVars (w0:=World.doorLaid Tryz.prog 76 os) (zae.map (·.1)) [] (by rw [e1]; simp [World.memory,World.forCall,Input.heap,ziy]) (by rw [e1]; exact zqX os) (by rw [e1]; exact zsj os args) (by rw [e2]; exact LaidIn.none)
end Go.Proofs.YtgpccllhdcggdaaGreatDoor
