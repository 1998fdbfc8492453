/-
  DERIVED. GIVEN WITH THE SEED: THE CARDS: each row of YtnkahfikkpmcbaaDoorRows.lean that lists a variable, with what it lists TIED to the program's text (the seventh form; the later family's looks); each row that meets fmt, with fmt's text TOLD by the authors' own Lean function (tested against real Go, not proved from fmt's source: count such statements apart). THE CARD IS WHAT COUNTS. Prove the row's statement (the work); the ties are given (YtnkahfikkpmcbaaDoorTie.lean); close each card by the builder's one call (the guide's Derived/Test/ToyasCard.lean, 'card_holds'). Laid BY PROGRAM, IN A SANDBOX (cutbox-door.mjs). By AI agents, Wed Nov 11 2026. No macro, syntax, notation, axiom, sorry.
-/
import Derived.Test.YtnkahfikkpmcbaaDoorRows
import GoSem.ClaimSeven
namespace Go.Proofs.YtnkahfikkpmcbaaDoor
namespace Rows

/-- THE TIED CARD OF 'temperalaw03.NumDecs'. -/
def numDecsCard : Claim7 := { stood := { row := numDecsRow, standIns := [], harness := (true, "09b26ef5b284b9e8b8979d371b0ecec334fa4022b3e7b8d3abc4341a5d2b50ce"), looks := true }, kinds := [], alts := [], laidByText := true, laidKinds := [.data, .data, .data, .sentinel, .sentinel], laidTests := true, laidLooks := .later }
def NumDecsCardSaid : Prop := Claim7.holds Tryd.pinned (.plain (OpenSpec.ofChange numDecsSpec)) numDecsCard

/-- THE TIED CARD OF 'temperalaw03.NumHexes'. -/
def numHexesCard : Claim7 := { stood := { row := numHexesRow, standIns := [], harness := (true, "09b26ef5b284b9e8b8979d371b0ecec334fa4022b3e7b8d3abc4341a5d2b50ce"), looks := true }, kinds := [], alts := [], laidByText := true, laidKinds := [.data, .data, .data, .sentinel, .sentinel], laidTests := true, laidLooks := .later }
def NumHexesCardSaid : Prop := Claim7.holds Tryd.pinned (.plain (OpenSpec.ofChange numHexesSpec)) numHexesCard

/-- THE SECOND FORM's CARD OF 'temperalaw03.NumDecs'. -/
def numDecsUptoCard : Claim7 := { stood := { row := numDecsUptoRow, standIns := [], harness := (true, "09b26ef5b284b9e8b8979d371b0ecec334fa4022b3e7b8d3abc4341a5d2b50ce"), looks := true }, kinds := [], alts := [], laidByText := true, laidKinds := [.data, .data, .data, .sentinel, .sentinel], laidTests := true, laidLooks := .later }
def NumDecsUptoCardSaid : Prop := Claim7.holds Tryd.pinned (.plain (OpenSpec.upto numDecsSpec)) numDecsUptoCard

/-- THE SECOND FORM's CARD OF 'temperalaw03.NumHexes'. -/
def numHexesUptoCard : Claim7 := { stood := { row := numHexesUptoRow, standIns := [], harness := (true, "09b26ef5b284b9e8b8979d371b0ecec334fa4022b3e7b8d3abc4341a5d2b50ce"), looks := true }, kinds := [], alts := [], laidByText := true, laidKinds := [.data, .data, .data, .sentinel, .sentinel], laidTests := true, laidLooks := .later }
def NumHexesUptoCardSaid : Prop := Claim7.holds Tryd.pinned (.plain (OpenSpec.upto numHexesSpec)) numHexesUptoCard
end Rows
end Go.Proofs.YtnkahfikkpmcbaaDoor
