/-
  DERIVED. GIVEN WITH THE SEED: THE CARDS: each row of YtcllcahfobdgbaaDoorRows.lean that lists a variable, with what it lists TIED to the program's text (the seventh form; the later family's looks); each row that meets fmt, with fmt's text TOLD by the authors' own Lean function (tested against real Go, not proved from fmt's source: count such statements apart). THE CARD IS WHAT COUNTS. Prove the row's statement (the work); the ties are given (YtcllcahfobdgbaaDoorTie.lean); close each card by the builder's one call (the guide's Derived/Test/ToyasCard.lean, 'card_holds'). Laid BY PROGRAM, IN A SANDBOX (cutbox-door.mjs). By AI agents, Wed Nov 11 2026. No macro, syntax, notation, axiom, sorry.
-/
import Derived.Test.YtcllcahfobdgbaaDoorRows
import GoSem.ClaimSeven
namespace Go.Proofs.YtcllcahfobdgbaaDoor
namespace Rows

/-- THE TIED CARD OF 'packhorselaw05.EidTexts'. -/
def eidTextsCard : Claim7 := { stood := { row := eidTextsRow, standIns := [], harness := (true, "a69b60eb8dad774114ddfc545d92087e68c2dec2344aed8c656d2a11780dcae6"), looks := false }, kinds := [], alts := [], laidByText := true, laidKinds := [.data, .data, .data, .data, .pinned], laidTests := true, laidLooks := .later }
def EidTextsCardSaid : Prop := Claim7.holds Tryd.pinned (.plain (OpenSpec.ofChange eidTextsSpec)) eidTextsCard

/-- THE TIED CARD OF 'packhorselaw05.EidBack'. -/
def eidBackCard : Claim7 := { stood := { row := eidBackRow, standIns := [], harness := (true, "a69b60eb8dad774114ddfc545d92087e68c2dec2344aed8c656d2a11780dcae6"), looks := false }, kinds := [], alts := [], laidByText := true, laidKinds := [.data, .data, .data, .data, .pinned], laidTests := true, laidLooks := .later }
def EidBackCardSaid : Prop := Claim7.holds Tryd.pinned (.plain (OpenSpec.ofChange eidBackSpec)) eidBackCard

/-- THE TIED CARD OF 'packhorselaw05.EidFewest'. -/
def eidFewestCard : Claim7 := { stood := { row := eidFewestRow, standIns := [], harness := (true, "a69b60eb8dad774114ddfc545d92087e68c2dec2344aed8c656d2a11780dcae6"), looks := false }, kinds := [], alts := [], laidByText := true, laidKinds := [.data, .data, .data, .data, .pinned], laidTests := true, laidLooks := .later }
def EidFewestCardSaid : Prop := Claim7.holds Tryd.pinned (.plain (OpenSpec.ofChange eidFewestSpec)) eidFewestCard

/-- THE TIED CARD OF 'packhorselaw05.EidKnown'. -/
def eidKnownCard : Claim7 := { stood := { row := eidKnownRow, standIns := [], harness := (true, "a69b60eb8dad774114ddfc545d92087e68c2dec2344aed8c656d2a11780dcae6"), looks := false }, kinds := [], alts := [], laidByText := true, laidKinds := [.data, .data, .data, .data, .pinned], laidTests := true, laidLooks := .later }
def EidKnownCardSaid : Prop := Claim7.holds Tryd.pinned (.plain (OpenSpec.ofChange eidKnownSpec)) eidKnownCard

/-- THE TIED CARD OF 'packhorselaw05.EidCanon'. -/
def eidCanonCard : Claim7 := { stood := { row := eidCanonRow, standIns := [], harness := (true, "a69b60eb8dad774114ddfc545d92087e68c2dec2344aed8c656d2a11780dcae6"), looks := false }, kinds := [], alts := [], laidByText := true, laidKinds := [.data, .data, .data, .data, .pinned], laidTests := true, laidLooks := .later }
def EidCanonCardSaid : Prop := Claim7.holds Tryd.pinned (.plain (OpenSpec.ofChange eidCanonSpec)) eidCanonCard

/-- THE SECOND FORM's CARD OF 'packhorselaw05.EidTexts'. -/
def eidTextsUptoCard : Claim7 := { stood := { row := eidTextsUptoRow, standIns := [], harness := (true, "a69b60eb8dad774114ddfc545d92087e68c2dec2344aed8c656d2a11780dcae6"), looks := false }, kinds := [], alts := [], laidByText := true, laidKinds := [.data, .data, .data, .data, .pinned], laidTests := true, laidLooks := .later }
def EidTextsUptoCardSaid : Prop := Claim7.holds Tryd.pinned (.plain (OpenSpec.upto eidTextsSpec)) eidTextsUptoCard

/-- THE SECOND FORM's CARD OF 'packhorselaw05.EidBack'. -/
def eidBackUptoCard : Claim7 := { stood := { row := eidBackUptoRow, standIns := [], harness := (true, "a69b60eb8dad774114ddfc545d92087e68c2dec2344aed8c656d2a11780dcae6"), looks := false }, kinds := [], alts := [], laidByText := true, laidKinds := [.data, .data, .data, .data, .pinned], laidTests := true, laidLooks := .later }
def EidBackUptoCardSaid : Prop := Claim7.holds Tryd.pinned (.plain (OpenSpec.upto eidBackSpec)) eidBackUptoCard

/-- THE SECOND FORM's CARD OF 'packhorselaw05.EidFewest'. -/
def eidFewestUptoCard : Claim7 := { stood := { row := eidFewestUptoRow, standIns := [], harness := (true, "a69b60eb8dad774114ddfc545d92087e68c2dec2344aed8c656d2a11780dcae6"), looks := false }, kinds := [], alts := [], laidByText := true, laidKinds := [.data, .data, .data, .data, .pinned], laidTests := true, laidLooks := .later }
def EidFewestUptoCardSaid : Prop := Claim7.holds Tryd.pinned (.plain (OpenSpec.upto eidFewestSpec)) eidFewestUptoCard

/-- THE SECOND FORM's CARD OF 'packhorselaw05.EidKnown'. -/
def eidKnownUptoCard : Claim7 := { stood := { row := eidKnownUptoRow, standIns := [], harness := (true, "a69b60eb8dad774114ddfc545d92087e68c2dec2344aed8c656d2a11780dcae6"), looks := false }, kinds := [], alts := [], laidByText := true, laidKinds := [.data, .data, .data, .data, .pinned], laidTests := true, laidLooks := .later }
def EidKnownUptoCardSaid : Prop := Claim7.holds Tryd.pinned (.plain (OpenSpec.upto eidKnownSpec)) eidKnownUptoCard

/-- THE SECOND FORM's CARD OF 'packhorselaw05.EidCanon'. -/
def eidCanonUptoCard : Claim7 := { stood := { row := eidCanonUptoRow, standIns := [], harness := (true, "a69b60eb8dad774114ddfc545d92087e68c2dec2344aed8c656d2a11780dcae6"), looks := false }, kinds := [], alts := [], laidByText := true, laidKinds := [.data, .data, .data, .data, .pinned], laidTests := true, laidLooks := .later }
def EidCanonUptoCardSaid : Prop := Claim7.holds Tryd.pinned (.plain (OpenSpec.upto eidCanonSpec)) eidCanonUptoCard
end Rows
end Go.Proofs.YtcllcahfobdgbaaDoor
