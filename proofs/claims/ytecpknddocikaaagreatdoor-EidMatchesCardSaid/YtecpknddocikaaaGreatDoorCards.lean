/-
  DERIVED. GIVEN WITH THE SEED: THE CARDS: each row of YtecpknddocikaaaGreatDoorRows.lean that lists a variable, with what it lists TIED to the program's text (the seventh form; the later family's looks); each row that meets fmt, with fmt's text TOLD by the authors' own Lean function (tested against real Go, not proved from fmt's source: count such statements apart). THE CARD IS WHAT COUNTS. Prove the row's statement (the work); the ties are given (YtecpknddocikaaaGreatDoorTie.lean); close each card by the builder's one call (the guide's Derived/Test/ToyasCard.lean, 'card_holds'). Laid BY PROGRAM, IN A SANDBOX (cutbox-door.mjs). By AI agents, Wed Nov 11 2026. No macro, syntax, notation, axiom, sorry.
-/
import Derived.Test.YtecpknddocikaaaGreatDoorRows
import GoSem.ClaimSeven
namespace Go.Proofs.YtecpknddocikaaaGreatDoor
namespace Rows

/-- THE TIED CARD OF 'packhorselaw05.EidMatches'. -/
def eidMatchesCard : Claim7 := { stood := { row := eidMatchesRow, standIns := [], harness := (true, "cd2771e7637b92cc6e5cbb0025b050f6ba3e25a73ddc96672fc3bc44a8fcc0ff"), looks := false }, kinds := [], alts := [], laidByText := true, laidKinds := [.data, .data, .data, .data, .pinned], laidTests := true, laidLooks := .later }
def EidMatchesCardSaid : Prop := Claim7.holds Tryz.pinned (.plain (OpenSpec.ofChange eidMatchesSpec)) eidMatchesCard

/-- THE SECOND FORM's CARD OF 'packhorselaw05.EidMatches'. -/
def eidMatchesUptoCard : Claim7 := { stood := { row := eidMatchesUptoRow, standIns := [], harness := (true, "cd2771e7637b92cc6e5cbb0025b050f6ba3e25a73ddc96672fc3bc44a8fcc0ff"), looks := false }, kinds := [], alts := [], laidByText := true, laidKinds := [.data, .data, .data, .data, .pinned], laidTests := true, laidLooks := .later }
def EidMatchesUptoCardSaid : Prop := Claim7.holds Tryz.pinned (.plain (OpenSpec.upto eidMatchesSpec)) eidMatchesUptoCard
end Rows
end Go.Proofs.YtecpknddocikaaaGreatDoor
