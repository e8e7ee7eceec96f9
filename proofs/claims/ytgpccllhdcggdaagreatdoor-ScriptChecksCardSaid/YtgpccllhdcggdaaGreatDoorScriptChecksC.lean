/- Proved: the law packhorselaw37.ScriptChecks returns true whatever its arguments, and leaves everything as it was. Conditions: the package-level variables that its row lists hold what the program's text lays. -/
import Derived.Test.YtgpccllhdcggdaaGreatDoorCards
import Derived.Test.YtgpccllhdcggdaaGreatDoorTie
import Derived.Test.YtgpccllhdcggdaaGreatDoorScriptChecksZ
namespace Go.Proofs.YtgpccllhdcggdaaGreatDoor
open Go.ChangeShapes Go.WideShapes Go.ChangeAt Go.RowKit
theorem scriptChecks_card_holds:Rows.ScriptChecksCardSaid :=
 Claim7.holds_tied_plain_at .later [] [.data, .data, .data, .data, .handle, .widerDeep, .funcs, .pinned] true (true, "f0d9671a13726860faab3740d135bd700301fe2fbcb1c23cf771f0859b6214b8") true zcV (fun _ h => by cases h) (by kernel_rfl) (fun _ h => by cases h) scriptChecks_row_tie rfl ⟨rfl, rfl⟩ (by kernel_rfl) rfl
  (fun f fn hf hfn=>by
   obtain rfl : f = 3 := Option.some.inj ((show Tryz.prog.funcNamed "packhorse/packhorselaw37.ScriptChecks" = some 3 by kernel_rfl).symm.trans hf) |>.symm
   obtain rfl:fn = Tryz.f3:=(Option.some.inj (Tryz.func3.symm.trans hfn)).symm
   exact ⟨by kernel_rfl,fun j t ht=>by
    rw [Tryz.params3] at ht
    have hm:t ∈ [26,3,3]:=by simpa using Array.mem_of_getElem? ht
    have hall:([26,3,3].all fun u=>!Tryz.prog.wantsStandIn u) = true:=by kernel_rfl
    exact (show Tryz.prog.wantsStandIn t = false by simpa using List.all_eq_true.1 hall t hm)⟩)
  (by kernel_rfl)
#print axioms scriptChecks_card_holds
end Go.Proofs.YtgpccllhdcggdaaGreatDoor
