import Derived.Test.YtclelomalmmpbaaGreatDoorRows
import Derived.ProofKit
import Derived.LaidMore
import Derived.Lay
import Derived.OpenShut
import Derived.Stop.Joined
namespace Go.Proofs.YtclelomalmmpbaaGreatDoor
open Go Go.RowKit
def QO:List (String × DataW Unit):=Rows.scriptOneRow.laid.filter fun x=>x.2.handleName?.isNone
noncomputable def zhK (os:Os):World:=(World.doorLaid Tryz.prog 76 os).layVars Tryz.prog QO
theorem zsG (os:Os):(zhK os).os = os:=World.layVars_os _ _ _
set_option maxRecDepth 100000 in
theorem zps (os:Os):(World.doorLaid Tryz.prog 76 os).layFits Tryz.prog QO [] = true:=by kernel_rfl
set_option maxRecDepth 100000 in
theorem zqM (os:Os) (args:Array Value):(World.doorLaid Tryz.prog 76 os).layIfaces Tryz.prog QO ((zhK os).forCall (fun _ _=>0) ⟨#[],args,[]⟩).memory = true:=by kernel_rfl
theorem zm2 (os:Os) (args:Array Value):laidMet Tryz.prog QO ((zhK os).forCall (fun _ _=>0) ⟨#[],args,[]⟩).memory:=by
 have e1:(QO.filter fun x=>(QO.map (·.1)).contains x.1) = QO:=List.filter_eq_self.2 fun x hx=>List.contains_iff_mem.2 (List.mem_map.2 ⟨x,hx,rfl⟩)
 have e2:(QO.filter fun x=>!(QO.map (·.1)).contains x.1) = []:=List.filter_eq_nil_iff.2 fun x hx=>by rw [List.contains_iff_mem.2 (List.mem_map.2 ⟨x,hx,rfl⟩)]; simp
 exact laidMet_layVars (w0:=World.doorLaid Tryz.prog 76 os) (QO.map (·.1)) [] (by rw [e1]; simp [World.memory,World.forCall,Input.heap,zhK]) (by rw [e1]; exact zps os) (by rw [e1]; exact zqM os args) (by rw [e2]; exact LaidIn.none)
end Go.Proofs.YtclelomalmmpbaaGreatDoor
