/-
  DERIVED. GIVEN WITH THE SEED: THE CARDS: each row of YtllcomjnmkcdpaaDoorRows.lean that lists a variable, with what it lists TIED to the program's text (the seventh form; the later family's looks); each row that meets fmt, with fmt's text TOLD by the authors' own Lean function (tested against real Go, not proved from fmt's source: count such statements apart). THE CARD IS WHAT COUNTS. Prove the row's statement (the work); the ties are given (YtllcomjnmkcdpaaDoorTie.lean); close each card by the builder's one call (the guide's Derived/Test/ToyasCard.lean, 'card_holds'). Laid BY PROGRAM, IN A SANDBOX (cutbox-door.mjs). By AI agents, Wed Nov 11 2026. No macro, syntax, notation, axiom, sorry.
-/
import Derived.Test.YtllcomjnmkcdpaaDoorRows
import GoSem.ClaimSeven
namespace Go.Proofs.YtllcomjnmkcdpaaDoor
namespace Rows

/-- THE TIED CARD OF 'temperalaw36.PicBack'. -/
def picBackCard : Claim7 := { stood := { row := picBackRow, standIns := [], harness := (true, "bf9e0da548ee7828d5d31355d1854de26aa20e597581ad2e518b45179b8d1d31"), looks := true }, kinds := [], alts := [], laidByText := true, laidKinds := [.data, .data, .data, .data, .sentinel, .sentinel, .pinned], laidTests := true, laidLooks := .later }
def PicBackCardSaid : Prop := Claim7.holds Tryd.pinned (.plain (OpenSpec.ofChange picBackSpec)) picBackCard

/-- THE TIED CARD OF 'temperalaw36.PicDiffs'. -/
def picDiffsCard : Claim7 := { stood := { row := picDiffsRow, standIns := [], harness := (true, "bf9e0da548ee7828d5d31355d1854de26aa20e597581ad2e518b45179b8d1d31"), looks := true }, kinds := [], alts := [], laidByText := true, laidKinds := [.data, .data, .data, .data, .sentinel, .sentinel, .pinned], laidTests := true, laidLooks := .later }
def PicDiffsCardSaid : Prop := Claim7.holds Tryd.pinned (.plain (OpenSpec.ofChange picDiffsSpec)) picDiffsCard

/-- THE TIED CARD OF 'temperalaw36.PicCrops'. -/
def picCropsCard : Claim7 := { stood := { row := picCropsRow, standIns := [], harness := (true, "bf9e0da548ee7828d5d31355d1854de26aa20e597581ad2e518b45179b8d1d31"), looks := true }, kinds := [], alts := [], laidByText := true, laidKinds := [.data, .data, .data, .data, .sentinel, .sentinel, .pinned], laidTests := true, laidLooks := .later }
def PicCropsCardSaid : Prop := Claim7.holds Tryd.pinned (.plain (OpenSpec.ofChange picCropsSpec)) picCropsCard

/-- THE SECOND FORM's CARD OF 'temperalaw36.PicBack'. -/
def picBackUptoCard : Claim7 := { stood := { row := picBackUptoRow, standIns := [], harness := (true, "bf9e0da548ee7828d5d31355d1854de26aa20e597581ad2e518b45179b8d1d31"), looks := true }, kinds := [], alts := [], laidByText := true, laidKinds := [.data, .data, .data, .data, .sentinel, .sentinel, .pinned], laidTests := true, laidLooks := .later }
def PicBackUptoCardSaid : Prop := Claim7.holds Tryd.pinned (.plain (OpenSpec.upto picBackSpec)) picBackUptoCard

/-- THE SECOND FORM's CARD OF 'temperalaw36.PicDiffs'. -/
def picDiffsUptoCard : Claim7 := { stood := { row := picDiffsUptoRow, standIns := [], harness := (true, "bf9e0da548ee7828d5d31355d1854de26aa20e597581ad2e518b45179b8d1d31"), looks := true }, kinds := [], alts := [], laidByText := true, laidKinds := [.data, .data, .data, .data, .sentinel, .sentinel, .pinned], laidTests := true, laidLooks := .later }
def PicDiffsUptoCardSaid : Prop := Claim7.holds Tryd.pinned (.plain (OpenSpec.upto picDiffsSpec)) picDiffsUptoCard

/-- THE SECOND FORM's CARD OF 'temperalaw36.PicCrops'. -/
def picCropsUptoCard : Claim7 := { stood := { row := picCropsUptoRow, standIns := [], harness := (true, "bf9e0da548ee7828d5d31355d1854de26aa20e597581ad2e518b45179b8d1d31"), looks := true }, kinds := [], alts := [], laidByText := true, laidKinds := [.data, .data, .data, .data, .sentinel, .sentinel, .pinned], laidTests := true, laidLooks := .later }
def PicCropsUptoCardSaid : Prop := Claim7.holds Tryd.pinned (.plain (OpenSpec.upto picCropsSpec)) picCropsUptoCard
end Rows
end Go.Proofs.YtllcomjnmkcdpaaDoor
