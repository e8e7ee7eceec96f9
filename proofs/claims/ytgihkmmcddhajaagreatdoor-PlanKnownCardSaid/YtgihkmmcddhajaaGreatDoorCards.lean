/-
  DERIVED. GIVEN WITH THE SEED: THE CARDS: each row of YtgihkmmcddhajaaGreatDoorRows.lean that lists a variable, with what it lists TIED to the program's text (the seventh form; the later family's looks); each row that meets fmt, with fmt's text TOLD by the authors' own Lean function (tested against real Go, not proved from fmt's source: count such statements apart). THE CARD IS WHAT COUNTS. Prove the row's statement (the work); the ties are given (YtgihkmmcddhajaaGreatDoorTie.lean); close each card by the builder's one call (the guide's Derived/Test/ToyasCard.lean, 'card_holds'). Laid BY PROGRAM, IN A SANDBOX (cutbox-door.mjs). By AI agents, Wed Nov 11 2026. No macro, syntax, notation, axiom, sorry.
-/
import Derived.Test.YtgihkmmcddhajaaGreatDoorRows
import GoSem.ClaimSeven
namespace Go.Proofs.YtgihkmmcddhajaaGreatDoor
namespace Rows

/-- THE TIED CARD OF 'packhorselaw22.PlanKnown'. -/
def planKnownCard : Claim7 := { stood := { row := planKnownRow, standIns := [], harness := (true, "b81d378efded26811e6b9aba955fe197f11ef9999c91421b695d3d6935c052bb"), looks := false }, kinds := [], alts := [], laidByText := true, laidKinds := [.data, .data, .data, .data, .pinned], laidTests := true, laidLooks := .later }
def PlanKnownCardSaid : Prop := Claim7.holds Tryz.pinned (.plain (OpenSpec.ofChange planKnownSpec)) planKnownCard

/-- THE SECOND FORM's CARD OF 'packhorselaw22.PlanKnown'. -/
def planKnownUptoCard : Claim7 := { stood := { row := planKnownUptoRow, standIns := [], harness := (true, "b81d378efded26811e6b9aba955fe197f11ef9999c91421b695d3d6935c052bb"), looks := false }, kinds := [], alts := [], laidByText := true, laidKinds := [.data, .data, .data, .data, .pinned], laidTests := true, laidLooks := .later }
def PlanKnownUptoCardSaid : Prop := Claim7.holds Tryz.pinned (.plain (OpenSpec.upto planKnownSpec)) planKnownUptoCard
end Rows
end Go.Proofs.YtgihkmmcddhajaaGreatDoor
