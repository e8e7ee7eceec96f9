/-
  DERIVED. GIVEN WITH THE SEED: THE CARDS: each row of YtjcbpfhlgebgdaaGreatDoorRows.lean that lists a variable, with what it lists TIED to the program's text (the seventh form; the later family's looks); each row that meets fmt, with fmt's text TOLD by the authors' own Lean function (tested against real Go, not proved from fmt's source: count such statements apart). THE CARD IS WHAT COUNTS. Prove the row's statement (the work); the ties are given (YtjcbpfhlgebgdaaGreatDoorTie.lean); close each card by the builder's one call (the guide's Derived/Test/ToyasCard.lean, 'card_holds'). Laid BY PROGRAM, IN A SANDBOX (cutbox-door.mjs). By AI agents, Wed Nov 11 2026. No macro, syntax, notation, axiom, sorry.
-/
import Derived.Test.YtjcbpfhlgebgdaaGreatDoorRows
import GoSem.ClaimSeven
namespace Go.Proofs.YtjcbpfhlgebgdaaGreatDoor
namespace Rows

/-- THE TIED CARD OF 'packhorselaw39.TraceTexts'. -/
def traceTextsCard : Claim7 := { stood := { row := traceTextsRow, standIns := [], harness := (true, "6cab105f9650f593eac6c17f0dda12ee0ebbed389b1009db6b0dc273e5dd36a9"), looks := true }, kinds := [], alts := [], laidByText := true, laidKinds := [.data, .data, .data, .data, .widerDeep, .pinned], laidTests := true, laidLooks := .later }
def TraceTextsCardSaid : Prop := Claim7.holds Tryz.pinned (.plain (OpenSpec.ofChange traceTextsSpec)) traceTextsCard

/-- THE TIED CARD OF 'packhorselaw16.SeenTexts'. -/
def seenTextsCard : Claim7 := { stood := { row := seenTextsRow, standIns := [], harness := (true, "6cab105f9650f593eac6c17f0dda12ee0ebbed389b1009db6b0dc273e5dd36a9"), looks := true }, kinds := [], alts := [], laidByText := true, laidKinds := [.data, .data, .data, .data, .pinned], laidTests := true, laidLooks := .later }
def SeenTextsCardSaid : Prop := Claim7.holds Tryz.pinned (.plain (OpenSpec.ofChange seenTextsSpec)) seenTextsCard

/-- THE SECOND FORM's CARD OF 'packhorselaw39.TraceTexts'. -/
def traceTextsUptoCard : Claim7 := { stood := { row := traceTextsUptoRow, standIns := [], harness := (true, "6cab105f9650f593eac6c17f0dda12ee0ebbed389b1009db6b0dc273e5dd36a9"), looks := true }, kinds := [], alts := [], laidByText := true, laidKinds := [.data, .data, .data, .data, .widerDeep, .pinned], laidTests := true, laidLooks := .later }
def TraceTextsUptoCardSaid : Prop := Claim7.holds Tryz.pinned (.plain (OpenSpec.upto traceTextsSpec)) traceTextsUptoCard

/-- THE SECOND FORM's CARD OF 'packhorselaw16.SeenTexts'. -/
def seenTextsUptoCard : Claim7 := { stood := { row := seenTextsUptoRow, standIns := [], harness := (true, "6cab105f9650f593eac6c17f0dda12ee0ebbed389b1009db6b0dc273e5dd36a9"), looks := true }, kinds := [], alts := [], laidByText := true, laidKinds := [.data, .data, .data, .data, .pinned], laidTests := true, laidLooks := .later }
def SeenTextsUptoCardSaid : Prop := Claim7.holds Tryz.pinned (.plain (OpenSpec.upto seenTextsSpec)) seenTextsUptoCard
end Rows
end Go.Proofs.YtjcbpfhlgebgdaaGreatDoor
