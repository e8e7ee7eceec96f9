/-
  DERIVED. GIVEN WITH THE SEED: THE CARDS: each row of YtlodiacgkcnkmaaDoorRows.lean that lists a variable, with what it lists TIED to the program's text (the seventh form; the later family's looks); each row that meets fmt, with fmt's text TOLD by the authors' own Lean function (tested against real Go, not proved from fmt's source: count such statements apart). THE CARD IS WHAT COUNTS. Prove the row's statement (the work); the ties are given (YtlodiacgkcnkmaaDoorTie.lean); close each card by the builder's one call (the guide's Derived/Test/ToyasCard.lean, 'card_holds'). Laid BY PROGRAM, IN A SANDBOX (cutbox-door.mjs). By AI agents, Wed Nov 11 2026. No macro, syntax, notation, axiom, sorry.
-/
import Derived.Test.YtlodiacgkcnkmaaDoorRows
import GoSem.ClaimSeven
namespace Go.Proofs.YtlodiacgkcnkmaaDoor
namespace Rows

/-- THE TIED CARD OF 'packhorselaw05.EidFewest'. -/
def eidFewestCard : Claim7 := { stood := { row := eidFewestRow, standIns := [], harness := (true, "6f1e354f9b3037cd29d3d1946c0baf13903210160f369dc5ea4c1081ff1794a0"), looks := false }, kinds := [], alts := [], laidByText := true, laidKinds := [.data, .data, .data, .data, .pinned], laidTests := true, laidLooks := .later }
def EidFewestCardSaid : Prop := Claim7.holds Tryd.pinned (.plain (OpenSpec.ofChange eidFewestSpec)) eidFewestCard

/-- THE TIED CARD OF 'packhorselaw05.EidCanon'. -/
def eidCanonCard : Claim7 := { stood := { row := eidCanonRow, standIns := [], harness := (true, "6f1e354f9b3037cd29d3d1946c0baf13903210160f369dc5ea4c1081ff1794a0"), looks := false }, kinds := [], alts := [], laidByText := true, laidKinds := [.data, .data, .data, .data, .pinned], laidTests := true, laidLooks := .later }
def EidCanonCardSaid : Prop := Claim7.holds Tryd.pinned (.plain (OpenSpec.ofChange eidCanonSpec)) eidCanonCard

/-- THE SECOND FORM's CARD OF 'packhorselaw05.EidFewest'. -/
def eidFewestUptoCard : Claim7 := { stood := { row := eidFewestUptoRow, standIns := [], harness := (true, "6f1e354f9b3037cd29d3d1946c0baf13903210160f369dc5ea4c1081ff1794a0"), looks := false }, kinds := [], alts := [], laidByText := true, laidKinds := [.data, .data, .data, .data, .pinned], laidTests := true, laidLooks := .later }
def EidFewestUptoCardSaid : Prop := Claim7.holds Tryd.pinned (.plain (OpenSpec.upto eidFewestSpec)) eidFewestUptoCard

/-- THE SECOND FORM's CARD OF 'packhorselaw05.EidCanon'. -/
def eidCanonUptoCard : Claim7 := { stood := { row := eidCanonUptoRow, standIns := [], harness := (true, "6f1e354f9b3037cd29d3d1946c0baf13903210160f369dc5ea4c1081ff1794a0"), looks := false }, kinds := [], alts := [], laidByText := true, laidKinds := [.data, .data, .data, .data, .pinned], laidTests := true, laidLooks := .later }
def EidCanonUptoCardSaid : Prop := Claim7.holds Tryd.pinned (.plain (OpenSpec.upto eidCanonSpec)) eidCanonUptoCard
end Rows
end Go.Proofs.YtlodiacgkcnkmaaDoor
