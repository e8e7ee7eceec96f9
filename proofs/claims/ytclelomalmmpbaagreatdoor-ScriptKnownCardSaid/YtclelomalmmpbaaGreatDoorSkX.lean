/- The statement Rows.ScriptKnownCardSaid is proved: ScriptKnown returns true, whatever the memory, and leaves everything as it was. The package-level variables that its row lists hold what the program's text lays; the tie is given. -/
import Derived.Test.YtclelomalmmpbaaGreatDoorCards
import Derived.Test.YtclelomalmmpbaaGreatDoorTie
import Derived.Test.YtclelomalmmpbaaGreatDoorSkZ
import Derived.SevenTiedAt
namespace Go.Proofs.YtclelomalmmpbaaGreatDoor
open Go.ChangeShapes Go.WideShapes Go.ChangeAt Go.RowKit
/-- The statement: the tied card. -/
theorem scriptKnown_card_holds : Rows.ScriptKnownCardSaid :=
  Claim7.holds_tied_plain_at .later [] [.data, .data, .data, .data, .handle, .widerDeep, .funcs, .pinned] true (true, "766a1d7f94d214415d9844adc901ac3896de049c04bc9b80abfe22bb1ef559fd") true scriptKnown_holds (fun _ h => by cases h) (by kernel_rfl) (fun _ h => by cases h) scriptKnown_row_tie rfl ⟨rfl, rfl⟩ (by kernel_rfl) rfl
    (fun f fn hf hfn => by
      obtain rfl : f = 5 := Option.some.inj ((show Tryz.prog.funcNamed "packhorse/packhorselaw37.ScriptKnown" = some 5 by kernel_rfl).symm.trans hf) |>.symm
      obtain rfl : fn = Tryz.f5 := (Option.some.inj (Tryz.func5.symm.trans hfn)).symm
      exact ⟨by kernel_rfl, fun j t ht => by
        rw [Tryz.params5] at ht
        simp at ht⟩)
    (by kernel_rfl)
#print axioms scriptKnown_card_holds
end Go.Proofs.YtclelomalmmpbaaGreatDoor
