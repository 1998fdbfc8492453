/-
  DERIVED. GIVEN WITH THE SEED: THE CARDS: each row of YtdmcdijlpnbghaaGreatDoorRows.lean that lists a variable, with what it lists TIED to the program's text (the seventh form; the later family's looks); each row that meets fmt, with fmt's text TOLD by the authors' own Lean function (tested against real Go, not proved from fmt's source: count such statements apart). THE CARD IS WHAT COUNTS. Prove the row's statement (the work); the ties are given (YtdmcdijlpnbghaaGreatDoorTie.lean); close each card by the builder's one call (the guide's Derived/Test/ToyasCard.lean, 'card_holds'). Laid BY PROGRAM, IN A SANDBOX (cutbox-door.mjs). By AI agents, Wed Nov 11 2026. No macro, syntax, notation, axiom, sorry.
-/
import Derived.Test.YtdmcdijlpnbghaaGreatDoorRows
import GoSem.ClaimSeven
namespace Go.Proofs.YtdmcdijlpnbghaaGreatDoor
namespace Rows

/-- THE TIED CARD OF 'temperalaw37.TraceEvents'. -/
def traceEventsCard : Claim7 := { stood := { row := traceEventsRow, standIns := [], harness := (true, "dcdf886890239afe1a417bd08dd0c411ebefd0e37d68874d64c1bca6741ed7cf"), looks := true }, kinds := [], alts := [], laidByText := true, laidKinds := [.data, .data, .data, .data, .sentinel, .sentinel, .pinned], laidTests := true, laidLooks := .later }
def TraceEventsCardSaid : Prop := Claim7.holds Tryz.pinned (.plain (OpenSpec.ofChange traceEventsSpec)) traceEventsCard

/-- THE TIED CARD OF 'temperalaw37.TraceTold'. -/
def traceToldCard : Claim7 := { stood := { row := traceToldRow, standIns := [], harness := (true, "dcdf886890239afe1a417bd08dd0c411ebefd0e37d68874d64c1bca6741ed7cf"), looks := true }, kinds := [], alts := [], laidByText := true, laidKinds := [.data, .data, .data, .data, .sentinel, .sentinel, .pinned], laidTests := true, laidLooks := .later }
def TraceToldCardSaid : Prop := Claim7.holds Tryz.pinned (.plain (OpenSpec.ofChange traceToldSpec)) traceToldCard

/-- THE TIED CARD OF 'temperalaw37.TraceLines'. -/
def traceLinesCard : Claim7 := { stood := { row := traceLinesRow, standIns := [], harness := (true, "dcdf886890239afe1a417bd08dd0c411ebefd0e37d68874d64c1bca6741ed7cf"), looks := true }, kinds := [], alts := [], laidByText := true, laidKinds := [.data, .data, .data, .data, .sentinel, .sentinel, .pinned], laidTests := true, laidLooks := .later }
def TraceLinesCardSaid : Prop := Claim7.holds Tryz.pinned (.plain (OpenSpec.ofChange traceLinesSpec)) traceLinesCard

/-- THE SECOND FORM's CARD OF 'temperalaw37.TraceEvents'. -/
def traceEventsUptoCard : Claim7 := { stood := { row := traceEventsUptoRow, standIns := [], harness := (true, "dcdf886890239afe1a417bd08dd0c411ebefd0e37d68874d64c1bca6741ed7cf"), looks := true }, kinds := [], alts := [], laidByText := true, laidKinds := [.data, .data, .data, .data, .sentinel, .sentinel, .pinned], laidTests := true, laidLooks := .later }
def TraceEventsUptoCardSaid : Prop := Claim7.holds Tryz.pinned (.plain (OpenSpec.upto traceEventsSpec)) traceEventsUptoCard

/-- THE SECOND FORM's CARD OF 'temperalaw37.TraceTold'. -/
def traceToldUptoCard : Claim7 := { stood := { row := traceToldUptoRow, standIns := [], harness := (true, "dcdf886890239afe1a417bd08dd0c411ebefd0e37d68874d64c1bca6741ed7cf"), looks := true }, kinds := [], alts := [], laidByText := true, laidKinds := [.data, .data, .data, .data, .sentinel, .sentinel, .pinned], laidTests := true, laidLooks := .later }
def TraceToldUptoCardSaid : Prop := Claim7.holds Tryz.pinned (.plain (OpenSpec.upto traceToldSpec)) traceToldUptoCard

/-- THE SECOND FORM's CARD OF 'temperalaw37.TraceLines'. -/
def traceLinesUptoCard : Claim7 := { stood := { row := traceLinesUptoRow, standIns := [], harness := (true, "dcdf886890239afe1a417bd08dd0c411ebefd0e37d68874d64c1bca6741ed7cf"), looks := true }, kinds := [], alts := [], laidByText := true, laidKinds := [.data, .data, .data, .data, .sentinel, .sentinel, .pinned], laidTests := true, laidLooks := .later }
def TraceLinesUptoCardSaid : Prop := Claim7.holds Tryz.pinned (.plain (OpenSpec.upto traceLinesSpec)) traceLinesUptoCard
end Rows
end Go.Proofs.YtdmcdijlpnbghaaGreatDoor
