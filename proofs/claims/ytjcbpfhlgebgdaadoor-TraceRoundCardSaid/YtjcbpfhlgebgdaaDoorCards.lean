/-
  DERIVED. GIVEN WITH THE SEED: THE CARDS: each row of YtjcbpfhlgebgdaaDoorRows.lean that lists a variable, with what it lists TIED to the program's text (the seventh form; the later family's looks); each row that meets fmt, with fmt's text TOLD by the authors' own Lean function (tested against real Go, not proved from fmt's source: count such statements apart). THE CARD IS WHAT COUNTS. Prove the row's statement (the work); the ties are given (YtjcbpfhlgebgdaaDoorTie.lean); close each card by the builder's one call (the guide's Derived/Test/ToyasCard.lean, 'card_holds'). Laid BY PROGRAM, IN A SANDBOX (cutbox-door.mjs). By AI agents, Wed Nov 11 2026. No macro, syntax, notation, axiom, sorry.
-/
import Derived.Test.YtjcbpfhlgebgdaaDoorRows
import GoSem.ClaimSeven
namespace Go.Proofs.YtjcbpfhlgebgdaaDoor
namespace Rows

/-- THE TIED CARD OF 'packhorselaw22.PlanTexts'. -/
def planTextsCard : Claim7 := { stood := { row := planTextsRow, standIns := [], harness := (true, "7426c96d17a2a5d9ed15d7d41618cc1fb566f1cf9fc2cc14d49d7fc9e7d92d33"), looks := true }, kinds := [], alts := [], laidByText := true, laidKinds := [.data, .data, .data], laidTests := true, laidLooks := .later }
def PlanTextsCardSaid : Prop := Claim7.holds Tryd.pinned (.plain (OpenSpec.ofChange planTextsSpec)) planTextsCard

/-- THE TIED CARD OF 'packhorselaw22.PlanParses'. -/
def planParsesCard : Claim7 := { stood := { row := planParsesRow, standIns := [], harness := (true, "7426c96d17a2a5d9ed15d7d41618cc1fb566f1cf9fc2cc14d49d7fc9e7d92d33"), looks := true }, kinds := [], alts := [], laidByText := true, laidKinds := [.data, .pinned], laidTests := true, laidLooks := .later }
def PlanParsesCardSaid : Prop := Claim7.holds Tryd.pinned (.plain (OpenSpec.ofChange planParsesSpec)) planParsesCard

/-- THE TIED CARD OF 'packhorselaw22.PlanBack'. -/
def planBackCard : Claim7 := { stood := { row := planBackRow, standIns := [], harness := (true, "7426c96d17a2a5d9ed15d7d41618cc1fb566f1cf9fc2cc14d49d7fc9e7d92d33"), looks := true }, kinds := [], alts := [], laidByText := true, laidKinds := [.data, .data, .data, .data, .pinned], laidTests := true, laidLooks := .later }
def PlanBackCardSaid : Prop := Claim7.holds Tryd.pinned (.plain (OpenSpec.ofChange planBackSpec)) planBackCard

/-- THE TIED CARD OF 'packhorselaw39.TraceRound'. -/
def traceRoundCard : Claim7 := { stood := { row := traceRoundRow, standIns := [], harness := (true, "7426c96d17a2a5d9ed15d7d41618cc1fb566f1cf9fc2cc14d49d7fc9e7d92d33"), looks := true }, kinds := [], alts := [], laidByText := true, laidKinds := [.data, .data, .data, .data, .widerDeep, .pinned], laidTests := true, laidLooks := .later }
def TraceRoundCardSaid : Prop := Claim7.holds Tryd.pinned (.plain (OpenSpec.ofChange traceRoundSpec)) traceRoundCard

/-- THE TIED CARD OF 'packhorselaw39.TraceOrder'. -/
def traceOrderCard : Claim7 := { stood := { row := traceOrderRow, standIns := [], harness := (true, "7426c96d17a2a5d9ed15d7d41618cc1fb566f1cf9fc2cc14d49d7fc9e7d92d33"), looks := true }, kinds := [], alts := [], laidByText := true, laidKinds := [.data, .data, .data, .data, .widerDeep, .pinned], laidTests := true, laidLooks := .later }
def TraceOrderCardSaid : Prop := Claim7.holds Tryd.pinned (.plain (OpenSpec.ofChange traceOrderSpec)) traceOrderCard

/-- THE TIED CARD OF 'packhorselaw16.SeenChanges'. -/
def seenChangesCard : Claim7 := { stood := { row := seenChangesRow, standIns := [], harness := (true, "7426c96d17a2a5d9ed15d7d41618cc1fb566f1cf9fc2cc14d49d7fc9e7d92d33"), looks := true }, kinds := [], alts := [], laidByText := true, laidKinds := [.data, .data, .data], laidTests := true, laidLooks := .later }
def SeenChangesCardSaid : Prop := Claim7.holds Tryd.pinned (.plain (OpenSpec.ofChange seenChangesSpec)) seenChangesCard

/-- THE TIED CARD OF 'packhorselaw05.EidTexts'. -/
def eidTextsCard : Claim7 := { stood := { row := eidTextsRow, standIns := [], harness := (true, "7426c96d17a2a5d9ed15d7d41618cc1fb566f1cf9fc2cc14d49d7fc9e7d92d33"), looks := true }, kinds := [], alts := [], laidByText := true, laidKinds := [.data, .data, .data, .data, .pinned], laidTests := true, laidLooks := .later }
def EidTextsCardSaid : Prop := Claim7.holds Tryd.pinned (.plain (OpenSpec.ofChange eidTextsSpec)) eidTextsCard

/-- THE TIED CARD OF 'packhorselaw05.EidBack'. -/
def eidBackCard : Claim7 := { stood := { row := eidBackRow, standIns := [], harness := (true, "7426c96d17a2a5d9ed15d7d41618cc1fb566f1cf9fc2cc14d49d7fc9e7d92d33"), looks := true }, kinds := [], alts := [], laidByText := true, laidKinds := [.data, .data, .data, .data, .pinned], laidTests := true, laidLooks := .later }
def EidBackCardSaid : Prop := Claim7.holds Tryd.pinned (.plain (OpenSpec.ofChange eidBackSpec)) eidBackCard

/-- THE SECOND FORM's CARD OF 'packhorselaw22.PlanTexts'. -/
def planTextsUptoCard : Claim7 := { stood := { row := planTextsUptoRow, standIns := [], harness := (true, "7426c96d17a2a5d9ed15d7d41618cc1fb566f1cf9fc2cc14d49d7fc9e7d92d33"), looks := true }, kinds := [], alts := [], laidByText := true, laidKinds := [.data, .data, .data], laidTests := true, laidLooks := .later }
def PlanTextsUptoCardSaid : Prop := Claim7.holds Tryd.pinned (.plain (OpenSpec.upto planTextsSpec)) planTextsUptoCard

/-- THE SECOND FORM's CARD OF 'packhorselaw22.PlanParses'. -/
def planParsesUptoCard : Claim7 := { stood := { row := planParsesUptoRow, standIns := [], harness := (true, "7426c96d17a2a5d9ed15d7d41618cc1fb566f1cf9fc2cc14d49d7fc9e7d92d33"), looks := true }, kinds := [], alts := [], laidByText := true, laidKinds := [.data, .pinned], laidTests := true, laidLooks := .later }
def PlanParsesUptoCardSaid : Prop := Claim7.holds Tryd.pinned (.plain (OpenSpec.upto planParsesSpec)) planParsesUptoCard

/-- THE SECOND FORM's CARD OF 'packhorselaw22.PlanBack'. -/
def planBackUptoCard : Claim7 := { stood := { row := planBackUptoRow, standIns := [], harness := (true, "7426c96d17a2a5d9ed15d7d41618cc1fb566f1cf9fc2cc14d49d7fc9e7d92d33"), looks := true }, kinds := [], alts := [], laidByText := true, laidKinds := [.data, .data, .data, .data, .pinned], laidTests := true, laidLooks := .later }
def PlanBackUptoCardSaid : Prop := Claim7.holds Tryd.pinned (.plain (OpenSpec.upto planBackSpec)) planBackUptoCard

/-- THE SECOND FORM's CARD OF 'packhorselaw39.TraceRound'. -/
def traceRoundUptoCard : Claim7 := { stood := { row := traceRoundUptoRow, standIns := [], harness := (true, "7426c96d17a2a5d9ed15d7d41618cc1fb566f1cf9fc2cc14d49d7fc9e7d92d33"), looks := true }, kinds := [], alts := [], laidByText := true, laidKinds := [.data, .data, .data, .data, .widerDeep, .pinned], laidTests := true, laidLooks := .later }
def TraceRoundUptoCardSaid : Prop := Claim7.holds Tryd.pinned (.plain (OpenSpec.upto traceRoundSpec)) traceRoundUptoCard

/-- THE SECOND FORM's CARD OF 'packhorselaw39.TraceOrder'. -/
def traceOrderUptoCard : Claim7 := { stood := { row := traceOrderUptoRow, standIns := [], harness := (true, "7426c96d17a2a5d9ed15d7d41618cc1fb566f1cf9fc2cc14d49d7fc9e7d92d33"), looks := true }, kinds := [], alts := [], laidByText := true, laidKinds := [.data, .data, .data, .data, .widerDeep, .pinned], laidTests := true, laidLooks := .later }
def TraceOrderUptoCardSaid : Prop := Claim7.holds Tryd.pinned (.plain (OpenSpec.upto traceOrderSpec)) traceOrderUptoCard

/-- THE SECOND FORM's CARD OF 'packhorselaw16.SeenChanges'. -/
def seenChangesUptoCard : Claim7 := { stood := { row := seenChangesUptoRow, standIns := [], harness := (true, "7426c96d17a2a5d9ed15d7d41618cc1fb566f1cf9fc2cc14d49d7fc9e7d92d33"), looks := true }, kinds := [], alts := [], laidByText := true, laidKinds := [.data, .data, .data], laidTests := true, laidLooks := .later }
def SeenChangesUptoCardSaid : Prop := Claim7.holds Tryd.pinned (.plain (OpenSpec.upto seenChangesSpec)) seenChangesUptoCard

/-- THE SECOND FORM's CARD OF 'packhorselaw05.EidTexts'. -/
def eidTextsUptoCard : Claim7 := { stood := { row := eidTextsUptoRow, standIns := [], harness := (true, "7426c96d17a2a5d9ed15d7d41618cc1fb566f1cf9fc2cc14d49d7fc9e7d92d33"), looks := true }, kinds := [], alts := [], laidByText := true, laidKinds := [.data, .data, .data, .data, .pinned], laidTests := true, laidLooks := .later }
def EidTextsUptoCardSaid : Prop := Claim7.holds Tryd.pinned (.plain (OpenSpec.upto eidTextsSpec)) eidTextsUptoCard

/-- THE SECOND FORM's CARD OF 'packhorselaw05.EidBack'. -/
def eidBackUptoCard : Claim7 := { stood := { row := eidBackUptoRow, standIns := [], harness := (true, "7426c96d17a2a5d9ed15d7d41618cc1fb566f1cf9fc2cc14d49d7fc9e7d92d33"), looks := true }, kinds := [], alts := [], laidByText := true, laidKinds := [.data, .data, .data, .data, .pinned], laidTests := true, laidLooks := .later }
def EidBackUptoCardSaid : Prop := Claim7.holds Tryd.pinned (.plain (OpenSpec.upto eidBackSpec)) eidBackUptoCard
end Rows
end Go.Proofs.YtjcbpfhlgebgdaaDoor
