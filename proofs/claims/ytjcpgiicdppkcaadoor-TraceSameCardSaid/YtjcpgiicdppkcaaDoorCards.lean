/-
  DERIVED. GIVEN WITH THE SEED: THE CARDS: each row of YtjcpgiicdppkcaaDoorRows.lean that lists a variable, with what it lists TIED to the program's text (the seventh form; the later family's looks); each row that meets fmt, with fmt's text TOLD by the authors' own Lean function (tested against real Go, not proved from fmt's source: count such statements apart). THE CARD IS WHAT COUNTS. Prove the row's statement (the work); the ties are given (YtjcpgiicdppkcaaDoorTie.lean); close each card by the builder's one call (the guide's Derived/Test/ToyasCard.lean, 'card_holds'). Laid BY PROGRAM, IN A SANDBOX (cutbox-door.mjs). By AI agents, Wed Nov 11 2026. No macro, syntax, notation, axiom, sorry.
-/
import Derived.Test.YtjcpgiicdppkcaaDoorRows
import GoSem.ClaimSeven
namespace Go.Proofs.YtjcpgiicdppkcaaDoor
namespace Rows

/-- THE TIED CARD OF 'packhorselaw39.TraceSame'. -/
def traceSameCard : Claim7 := { stood := { row := traceSameRow, standIns := [], harness := (true, "19d4f0b124b7be0a4169f4ac1a456cb0229b30764817e1be35f8ad13a0c8ab09"), looks := true }, kinds := [], alts := [], laidByText := true, laidKinds := [.data, .data, .data, .data, .widerDeep, .pinned], laidTests := true, laidLooks := .later }
def TraceSameCardSaid : Prop := Claim7.holds Tryd.pinned (.plain (OpenSpec.ofChange traceSameSpec)) traceSameCard

/-- THE TIED CARD OF 'packhorselaw39.TraceKnown'. -/
def traceKnownCard : Claim7 := { stood := { row := traceKnownRow, standIns := [], harness := (true, "19d4f0b124b7be0a4169f4ac1a456cb0229b30764817e1be35f8ad13a0c8ab09"), looks := true }, kinds := [], alts := [], laidByText := true, laidKinds := [.data, .data, .data, .data, .widerDeep, .pinned], laidTests := true, laidLooks := .later }
def TraceKnownCardSaid : Prop := Claim7.holds Tryd.pinned (.plain (OpenSpec.ofChange traceKnownSpec)) traceKnownCard

/-- THE TIED CARD OF 'packhorselaw39.TraceRound'. -/
def traceRoundCard : Claim7 := { stood := { row := traceRoundRow, standIns := [], harness := (true, "19d4f0b124b7be0a4169f4ac1a456cb0229b30764817e1be35f8ad13a0c8ab09"), looks := true }, kinds := [], alts := [], laidByText := true, laidKinds := [.data, .data, .data, .data, .widerDeep, .pinned], laidTests := true, laidLooks := .later }
def TraceRoundCardSaid : Prop := Claim7.holds Tryd.pinned (.plain (OpenSpec.ofChange traceRoundSpec)) traceRoundCard

/-- THE TIED CARD OF 'packhorselaw39.TraceParts'. -/
def tracePartsCard : Claim7 := { stood := { row := tracePartsRow, standIns := [], harness := (true, "19d4f0b124b7be0a4169f4ac1a456cb0229b30764817e1be35f8ad13a0c8ab09"), looks := true }, kinds := [], alts := [], laidByText := true, laidKinds := [.data, .data, .data, .data, .widerDeep, .pinned], laidTests := true, laidLooks := .later }
def TracePartsCardSaid : Prop := Claim7.holds Tryd.pinned (.plain (OpenSpec.ofChange tracePartsSpec)) tracePartsCard

/-- THE TIED CARD OF 'packhorselaw39.TraceOrder'. -/
def traceOrderCard : Claim7 := { stood := { row := traceOrderRow, standIns := [], harness := (true, "19d4f0b124b7be0a4169f4ac1a456cb0229b30764817e1be35f8ad13a0c8ab09"), looks := true }, kinds := [], alts := [], laidByText := true, laidKinds := [.data, .data, .data, .data, .widerDeep, .pinned], laidTests := true, laidLooks := .later }
def TraceOrderCardSaid : Prop := Claim7.holds Tryd.pinned (.plain (OpenSpec.ofChange traceOrderSpec)) traceOrderCard

/-- THE TIED CARD OF 'packhorselaw39.TraceLatency'. -/
def traceLatencyCard : Claim7 := { stood := { row := traceLatencyRow, standIns := [], harness := (true, "19d4f0b124b7be0a4169f4ac1a456cb0229b30764817e1be35f8ad13a0c8ab09"), looks := true }, kinds := [], alts := [], laidByText := true, laidKinds := [.data, .data, .data, .data, .widerDeep, .pinned], laidTests := true, laidLooks := .later }
def TraceLatencyCardSaid : Prop := Claim7.holds Tryd.pinned (.plain (OpenSpec.ofChange traceLatencySpec)) traceLatencyCard

/-- THE SECOND FORM's CARD OF 'packhorselaw39.TraceSame'. -/
def traceSameUptoCard : Claim7 := { stood := { row := traceSameUptoRow, standIns := [], harness := (true, "19d4f0b124b7be0a4169f4ac1a456cb0229b30764817e1be35f8ad13a0c8ab09"), looks := true }, kinds := [], alts := [], laidByText := true, laidKinds := [.data, .data, .data, .data, .widerDeep, .pinned], laidTests := true, laidLooks := .later }
def TraceSameUptoCardSaid : Prop := Claim7.holds Tryd.pinned (.plain (OpenSpec.upto traceSameSpec)) traceSameUptoCard

/-- THE SECOND FORM's CARD OF 'packhorselaw39.TraceKnown'. -/
def traceKnownUptoCard : Claim7 := { stood := { row := traceKnownUptoRow, standIns := [], harness := (true, "19d4f0b124b7be0a4169f4ac1a456cb0229b30764817e1be35f8ad13a0c8ab09"), looks := true }, kinds := [], alts := [], laidByText := true, laidKinds := [.data, .data, .data, .data, .widerDeep, .pinned], laidTests := true, laidLooks := .later }
def TraceKnownUptoCardSaid : Prop := Claim7.holds Tryd.pinned (.plain (OpenSpec.upto traceKnownSpec)) traceKnownUptoCard

/-- THE SECOND FORM's CARD OF 'packhorselaw39.TraceRound'. -/
def traceRoundUptoCard : Claim7 := { stood := { row := traceRoundUptoRow, standIns := [], harness := (true, "19d4f0b124b7be0a4169f4ac1a456cb0229b30764817e1be35f8ad13a0c8ab09"), looks := true }, kinds := [], alts := [], laidByText := true, laidKinds := [.data, .data, .data, .data, .widerDeep, .pinned], laidTests := true, laidLooks := .later }
def TraceRoundUptoCardSaid : Prop := Claim7.holds Tryd.pinned (.plain (OpenSpec.upto traceRoundSpec)) traceRoundUptoCard

/-- THE SECOND FORM's CARD OF 'packhorselaw39.TraceParts'. -/
def tracePartsUptoCard : Claim7 := { stood := { row := tracePartsUptoRow, standIns := [], harness := (true, "19d4f0b124b7be0a4169f4ac1a456cb0229b30764817e1be35f8ad13a0c8ab09"), looks := true }, kinds := [], alts := [], laidByText := true, laidKinds := [.data, .data, .data, .data, .widerDeep, .pinned], laidTests := true, laidLooks := .later }
def TracePartsUptoCardSaid : Prop := Claim7.holds Tryd.pinned (.plain (OpenSpec.upto tracePartsSpec)) tracePartsUptoCard

/-- THE SECOND FORM's CARD OF 'packhorselaw39.TraceOrder'. -/
def traceOrderUptoCard : Claim7 := { stood := { row := traceOrderUptoRow, standIns := [], harness := (true, "19d4f0b124b7be0a4169f4ac1a456cb0229b30764817e1be35f8ad13a0c8ab09"), looks := true }, kinds := [], alts := [], laidByText := true, laidKinds := [.data, .data, .data, .data, .widerDeep, .pinned], laidTests := true, laidLooks := .later }
def TraceOrderUptoCardSaid : Prop := Claim7.holds Tryd.pinned (.plain (OpenSpec.upto traceOrderSpec)) traceOrderUptoCard

/-- THE SECOND FORM's CARD OF 'packhorselaw39.TraceLatency'. -/
def traceLatencyUptoCard : Claim7 := { stood := { row := traceLatencyUptoRow, standIns := [], harness := (true, "19d4f0b124b7be0a4169f4ac1a456cb0229b30764817e1be35f8ad13a0c8ab09"), looks := true }, kinds := [], alts := [], laidByText := true, laidKinds := [.data, .data, .data, .data, .widerDeep, .pinned], laidTests := true, laidLooks := .later }
def TraceLatencyUptoCardSaid : Prop := Claim7.holds Tryd.pinned (.plain (OpenSpec.upto traceLatencySpec)) traceLatencyUptoCard
end Rows
end Go.Proofs.YtjcpgiicdppkcaaDoor
