import Derived.Test.YtclelomalmmpbaaGreatDoorCards
import Derived.Test.YtclelomalmmpbaaGreatDoorTie
import Derived.Test.YtclelomalmmpbaaGreatDoorScriptOneZ
namespace Go.Proofs.YtclelomalmmpbaaGreatDoor
open Go.ChangeShapes Go.WideShapes Go.ChangeAt Go.RowKit
theorem scriptOne_card_holds:Rows.ScriptOneCardSaid :=
 Claim7.holds_tied_plain_at .later [] [.data, .data, .data, .data, .handle, .widerDeep, .funcs, .pinned] true (true, "766a1d7f94d214415d9844adc901ac3896de049c04bc9b80abfe22bb1ef559fd") true scriptOne_holds (fun _ h => by cases h) (by kernel_rfl) (fun _ h => by cases h) scriptOne_row_tie rfl ⟨rfl, rfl⟩ (by kernel_rfl) rfl
  (fun f fn hf hfn=>by
   obtain rfl : f = 3 := Option.some.inj ((show Tryz.prog.funcNamed "packhorse/packhorselaw37.ScriptOne" = some 3 by kernel_rfl).symm.trans hf) |>.symm
   obtain rfl:fn = Tryz.f3:=(Option.some.inj (Tryz.func3.symm.trans hfn)).symm
   exact ⟨by kernel_rfl,fun j t ht=>by
    rw [Tryz.params3] at ht
    have hm:t ∈ [26,33]:=by simpa using Array.mem_of_getElem? ht
    have hall:([26,33].all fun u=>!Tryz.prog.wantsStandIn u) = true:=by kernel_rfl
    exact (show Tryz.prog.wantsStandIn t = false by simpa using List.all_eq_true.1 hall t hm)⟩)
  (by kernel_rfl)
#print axioms scriptOne_card_holds
end Go.Proofs.YtclelomalmmpbaaGreatDoor
