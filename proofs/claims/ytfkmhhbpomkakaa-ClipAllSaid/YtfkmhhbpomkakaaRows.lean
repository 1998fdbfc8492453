/-
  No cell of these rows narrows 'for every input' (looked for: loops, veiled, ifaces, maps, wideKeys, modest, calm, conditions, laid).
  DERIVED. THE GIVEN ROWS OF THIS SEAT. 10 by the template 'for every input the law returns true; each argument reads behind the call as it read before'; 0 by the template 'total and deterministic' (their statements: YtfkmhhbpomkakaaTotals.lean).
  GIVEN WITH THE SEED: the statements are not yours to turn. If you find one false, say at which input.
  Laid BY PROGRAM, IN A SANDBOX (cutbox-rows.mjs): the forced cells as the released guide's own fill.sh prints them over the translation 4314cdc92943b16a… (all of the seat's roots in one cut). By AI agents, Wed Nov 11 2026. No macro, syntax, notation, axiom, sorry.
-/
import Derived.Test.YtfkmhhbpomkakaaChecked
import GoSem.Claim
import GoSem.ClaimJoined
import GoSem.ClaimMapViews
import Derived.JoinedTies
import Derived.KernelRfl
namespace Go.Proofs.Ytfkmhhbpomkakaa
/- THE CELL 'sum', in the pinned program and in every row, IS THE sha256 OF THE DUMP (.gsa) THAT YtfkmhhbpomkakaaProg.lean LOADS. Nothing in Lean hashes anything: it is a label: what it is worth is what the hold of that sum in a sandbox is worth. -/
noncomputable def Try.pinned : Pinned := { name := "ytfkmhhbpomkakaa", sum := "4314cdc92943b16aa48b1d153dc94dd4cafd469355488ea62c466c617237382c", checked := Try.checked }
namespace Rows
def none {H : Type} : Left H := { results := [], args := [] }

/-- 'temperalaw15.ClipCuts': WHATEVER THE INPUT: true; the input reads as it did. -/
def clipCutsSpec : ChangeSpec := { name := "clipCuts", fn := fun _ => fun
  | [d1, d2, d3] => { results := [.lit (.bool true)], args := [d1, d2, d3] }
  | _ => none }
def clipCutsRow : OpenClaim := { program := "ytfkmhhbpomkakaa", sum := "4314cdc92943b16aa48b1d153dc94dd4cafd469355488ea62c466c617237382c", func := "tempera/temperalaw15.ClipCuts", spec := "clipCuts", inPlace := ["math/bits.Sub64"], unfollowed := true, recurses := true, named := ["math/bits.divideError", "math/bits.overflowError"], apart := false }
def ClipCutsSaid : Prop := clipCutsRow.holds Try.pinned (OpenSpec.ofChange clipCutsSpec)

/-- ITS FALSE NEIGHBOUR: 'it returns false'. Refute it at one input. -/
def clipCutsWrong : ChangeSpec := { name := "clipCuts", fn := fun _ => fun
  | [d1, d2, d3] => { results := [.lit (.bool false)], args := [d1, d2, d3] }
  | _ => none }
def ClipCutsWrongFalsely : Prop := clipCutsRow.holds Try.pinned (OpenSpec.ofChange clipCutsWrong)

/-- 'temperalaw15.ClipPlane': WHATEVER THE INPUT: true; the input reads as it did. -/
def clipPlaneSpec : ChangeSpec := { name := "clipPlane", fn := fun _ => fun
  | [d1, d2] => { results := [.lit (.bool true)], args := [d1, d2] }
  | _ => none }
def clipPlaneRow : OpenClaim := { program := "ytfkmhhbpomkakaa", sum := "4314cdc92943b16aa48b1d153dc94dd4cafd469355488ea62c466c617237382c", func := "tempera/temperalaw15.ClipPlane", spec := "clipPlane", inPlace := ["math/bits.Sub64"], unfollowed := true, recurses := true, named := ["math/bits.divideError", "math/bits.overflowError"], apart := false }
def ClipPlaneSaid : Prop := clipPlaneRow.holds Try.pinned (OpenSpec.ofChange clipPlaneSpec)

/-- ITS FALSE NEIGHBOUR: 'it returns false'. Refute it at one input. -/
def clipPlaneWrong : ChangeSpec := { name := "clipPlane", fn := fun _ => fun
  | [d1, d2] => { results := [.lit (.bool false)], args := [d1, d2] }
  | _ => none }
def ClipPlaneWrongFalsely : Prop := clipPlaneRow.holds Try.pinned (OpenSpec.ofChange clipPlaneWrong)

/-- 'temperalaw15.ClipBack': WHATEVER THE INPUT: true; the input reads as it did. -/
def clipBackSpec : ChangeSpec := { name := "clipBack", fn := fun _ => fun
  | [d1, d2] => { results := [.lit (.bool true)], args := [d1, d2] }
  | _ => none }
def clipBackRow : OpenClaim := { program := "ytfkmhhbpomkakaa", sum := "4314cdc92943b16aa48b1d153dc94dd4cafd469355488ea62c466c617237382c", func := "tempera/temperalaw15.ClipBack", spec := "clipBack", inPlace := ["math/bits.Sub64"], unfollowed := true, recurses := true, named := ["math/bits.divideError", "math/bits.overflowError"], apart := false }
def ClipBackSaid : Prop := clipBackRow.holds Try.pinned (OpenSpec.ofChange clipBackSpec)

/-- ITS FALSE NEIGHBOUR: 'it returns false'. Refute it at one input. -/
def clipBackWrong : ChangeSpec := { name := "clipBack", fn := fun _ => fun
  | [d1, d2] => { results := [.lit (.bool false)], args := [d1, d2] }
  | _ => none }
def ClipBackWrongFalsely : Prop := clipBackRow.holds Try.pinned (OpenSpec.ofChange clipBackWrong)

/-- 'temperalaw15.ClipAll': WHATEVER THE INPUT: true; the input reads as it did. -/
def clipAllSpec : ChangeSpec := { name := "clipAll", fn := fun _ => fun
  | [d] => { results := [.lit (.bool true)], args := [d] }
  | _ => none }
def clipAllRow : OpenClaim := { program := "ytfkmhhbpomkakaa", sum := "4314cdc92943b16aa48b1d153dc94dd4cafd469355488ea62c466c617237382c", func := "tempera/temperalaw15.ClipAll", spec := "clipAll", inPlace := ["math/bits.Sub64"], unfollowed := true, recurses := true, named := ["math/bits.divideError", "math/bits.overflowError"], apart := false }
def ClipAllSaid : Prop := clipAllRow.holds Try.pinned (OpenSpec.ofChange clipAllSpec)

/-- ITS FALSE NEIGHBOUR: 'it returns false'. Refute it at one input. -/
def clipAllWrong : ChangeSpec := { name := "clipAll", fn := fun _ => fun
  | [d] => { results := [.lit (.bool false)], args := [d] }
  | _ => none }
def ClipAllWrongFalsely : Prop := clipAllRow.holds Try.pinned (OpenSpec.ofChange clipAllWrong)

/-- 'temperalaw17.TriSetup': WHATEVER THE INPUT: true; the input reads as it did. -/
def triSetupSpec : ChangeSpec := { name := "triSetup", fn := fun _ => fun
  | [d1, d2] => { results := [.lit (.bool true)], args := [d1, d2] }
  | _ => none }
def triSetupRow : OpenClaim := { program := "ytfkmhhbpomkakaa", sum := "4314cdc92943b16aa48b1d153dc94dd4cafd469355488ea62c466c617237382c", func := "tempera/temperalaw17.TriSetup", spec := "triSetup", inPlace := ["math/bits.Sub64", "math/bits.Add64"], unfollowed := true, recurses := true, named := ["math/bits.divideError", "math/bits.overflowError"], apart := false }
def TriSetupSaid : Prop := triSetupRow.holds Try.pinned (OpenSpec.ofChange triSetupSpec)

/-- ITS FALSE NEIGHBOUR: 'it returns false'. Refute it at one input. -/
def triSetupWrong : ChangeSpec := { name := "triSetup", fn := fun _ => fun
  | [d1, d2] => { results := [.lit (.bool false)], args := [d1, d2] }
  | _ => none }
def TriSetupWrongFalsely : Prop := triSetupRow.holds Try.pinned (OpenSpec.ofChange triSetupWrong)

/-- 'temperalaw17.TriHas': WHATEVER THE INPUT: true; the input reads as it did. -/
def triHasSpec : ChangeSpec := { name := "triHas", fn := fun _ => fun
  | [d1, d2, d3] => { results := [.lit (.bool true)], args := [d1, d2, d3] }
  | _ => none }
def triHasRow : OpenClaim := { program := "ytfkmhhbpomkakaa", sum := "4314cdc92943b16aa48b1d153dc94dd4cafd469355488ea62c466c617237382c", func := "tempera/temperalaw17.TriHas", spec := "triHas", inPlace := ["math/bits.Sub64", "math/bits.Add64"], unfollowed := true, recurses := true, named := ["math/bits.divideError", "math/bits.overflowError"], apart := false }
def TriHasSaid : Prop := triHasRow.holds Try.pinned (OpenSpec.ofChange triHasSpec)

/-- ITS FALSE NEIGHBOUR: 'it returns false'. Refute it at one input. -/
def triHasWrong : ChangeSpec := { name := "triHas", fn := fun _ => fun
  | [d1, d2, d3] => { results := [.lit (.bool false)], args := [d1, d2, d3] }
  | _ => none }
def TriHasWrongFalsely : Prop := triHasRow.holds Try.pinned (OpenSpec.ofChange triHasWrong)

/-- 'temperalaw17.TriTurns': WHATEVER THE INPUT: true; the input reads as it did. -/
def triTurnsSpec : ChangeSpec := { name := "triTurns", fn := fun _ => fun
  | [d1, d2, d3] => { results := [.lit (.bool true)], args := [d1, d2, d3] }
  | _ => none }
def triTurnsRow : OpenClaim := { program := "ytfkmhhbpomkakaa", sum := "4314cdc92943b16aa48b1d153dc94dd4cafd469355488ea62c466c617237382c", func := "tempera/temperalaw17.TriTurns", spec := "triTurns", inPlace := ["math/bits.Sub64", "math/bits.Add64"], unfollowed := true, recurses := true, named := ["math/bits.divideError", "math/bits.overflowError"], apart := false }
def TriTurnsSaid : Prop := triTurnsRow.holds Try.pinned (OpenSpec.ofChange triTurnsSpec)

/-- ITS FALSE NEIGHBOUR: 'it returns false'. Refute it at one input. -/
def triTurnsWrong : ChangeSpec := { name := "triTurns", fn := fun _ => fun
  | [d1, d2, d3] => { results := [.lit (.bool false)], args := [d1, d2, d3] }
  | _ => none }
def TriTurnsWrongFalsely : Prop := triTurnsRow.holds Try.pinned (OpenSpec.ofChange triTurnsWrong)

/-- 'temperalaw19.FragPuts': WHATEVER THE INPUT: true; the input reads as it did. -/
def fragPutsSpec : ChangeSpec := { name := "fragPuts", fn := fun _ => fun
  | [d1, d2, d3] => { results := [.lit (.bool true)], args := [d1, d2, d3] }
  | _ => none }
def fragPutsRow : OpenClaim := { program := "ytfkmhhbpomkakaa", sum := "4314cdc92943b16aa48b1d153dc94dd4cafd469355488ea62c466c617237382c", func := "tempera/temperalaw19.FragPuts", spec := "fragPuts", unfollowed := true, recurses := true, apart := false }
def FragPutsSaid : Prop := fragPutsRow.holds Try.pinned (OpenSpec.ofChange fragPutsSpec)

/-- ITS FALSE NEIGHBOUR: 'it returns false'. Refute it at one input. -/
def fragPutsWrong : ChangeSpec := { name := "fragPuts", fn := fun _ => fun
  | [d1, d2, d3] => { results := [.lit (.bool false)], args := [d1, d2, d3] }
  | _ => none }
def FragPutsWrongFalsely : Prop := fragPutsRow.holds Try.pinned (OpenSpec.ofChange fragPutsWrong)

/-- 'temperalaw19.FragStays': WHATEVER THE INPUT: true; the input reads as it did. -/
def fragStaysSpec : ChangeSpec := { name := "fragStays", fn := fun _ => fun
  | [d1, d2, d3] => { results := [.lit (.bool true)], args := [d1, d2, d3] }
  | _ => none }
def fragStaysRow : OpenClaim := { program := "ytfkmhhbpomkakaa", sum := "4314cdc92943b16aa48b1d153dc94dd4cafd469355488ea62c466c617237382c", func := "tempera/temperalaw19.FragStays", spec := "fragStays", unfollowed := true, recurses := true, apart := false }
def FragStaysSaid : Prop := fragStaysRow.holds Try.pinned (OpenSpec.ofChange fragStaysSpec)

/-- ITS FALSE NEIGHBOUR: 'it returns false'. Refute it at one input. -/
def fragStaysWrong : ChangeSpec := { name := "fragStays", fn := fun _ => fun
  | [d1, d2, d3] => { results := [.lit (.bool false)], args := [d1, d2, d3] }
  | _ => none }
def FragStaysWrongFalsely : Prop := fragStaysRow.holds Try.pinned (OpenSpec.ofChange fragStaysWrong)

/-- 'temperalaw19.FragClears': WHATEVER THE INPUT: true; the input reads as it did. -/
def fragClearsSpec : ChangeSpec := { name := "fragClears", fn := fun _ => fun
  | [d1, d2, d3] => { results := [.lit (.bool true)], args := [d1, d2, d3] }
  | _ => none }
def fragClearsRow : OpenClaim := { program := "ytfkmhhbpomkakaa", sum := "4314cdc92943b16aa48b1d153dc94dd4cafd469355488ea62c466c617237382c", func := "tempera/temperalaw19.FragClears", spec := "fragClears", unfollowed := true, recurses := true, apart := false }
def FragClearsSaid : Prop := fragClearsRow.holds Try.pinned (OpenSpec.ofChange fragClearsSpec)

/-- ITS FALSE NEIGHBOUR: 'it returns false'. Refute it at one input. -/
def fragClearsWrong : ChangeSpec := { name := "fragClears", fn := fun _ => fun
  | [d1, d2, d3] => { results := [.lit (.bool false)], args := [d1, d2, d3] }
  | _ => none }
def FragClearsWrongFalsely : Prop := fragClearsRow.holds Try.pinned (OpenSpec.ofChange fragClearsWrong)

/- THE SECOND FORM. 'bulk': how many values and letters a reading holds, each counted each time it is reached (what is shared counts as often as it is met; a slice's spare places count too). A statement '..UptoSaid' is the law's where the arguments, and the package variables that the reading takes, are together of bulk at most 1048576: NARROWER than '..Said'. Prove '..Said' where nothing that the law and all that it calls make is longer than what came in: it says more and counts as full. Else prove '..UptoSaid'. A law counts once. -/
mutual
def uptoBulk {H : Type} : DataW H → Nat
  | .lit (.string bytes) => bytes.length + 1
  | .lit _ => 1
  | .nil => 1
  | .ptr d => uptoBulk d + 1
  | .slice elems spare => uptoBulkAll elems + uptoBulkAll spare + 1
  | .agg parts => uptoBulkAll parts + 1
  | .iface _ d => uptoBulk d + 1
  | .map entries => uptoBulkEntries entries + 1
  | .held _ => 1
def uptoBulkAll {H : Type} : List (DataW H) → Nat
  | [] => 0
  | d :: r => uptoBulk d + uptoBulkAll r
def uptoBulkEntries {H : Type} : List (Lit × DataW H) → Nat
  | [] => 0
  | x :: r => uptoBulkEntry x + uptoBulkEntries r
def uptoBulkEntry {H : Type} : Lit × DataW H → Nat
  | (.string bytes, d) => bytes.length + uptoBulk d + 1
  | (_, d) => uptoBulk d + 1
 end
def uptoSmall : (H : Type) → List (DataW H) → Bool := fun _ ds => decide (uptoBulkAll ds ≤ 1048576)
def OpenSpec.upto (s : _root_.Go.ChangeSpec) : _root_.Go.OpenSpec := { _root_.Go.OpenSpec.ofChange s with cond := some uptoSmall }

/-- 'temperalaw15.ClipCuts', WHERE WHAT IT READS IS OF BULK AT MOST 1048576: true; the input reads as it did. -/
def clipCutsUptoRow : OpenClaim := { program := "ytfkmhhbpomkakaa", sum := "4314cdc92943b16aa48b1d153dc94dd4cafd469355488ea62c466c617237382c", func := "tempera/temperalaw15.ClipCuts", spec := "clipCuts", inPlace := ["math/bits.Sub64"], unfollowed := true, recurses := true, named := ["math/bits.divideError", "math/bits.overflowError"], apart := false, narrowed := true }
def ClipCutsUptoSaid : Prop := clipCutsUptoRow.holds Try.pinned (OpenSpec.upto clipCutsSpec)

/-- 'temperalaw15.ClipPlane', WHERE WHAT IT READS IS OF BULK AT MOST 1048576: true; the input reads as it did. -/
def clipPlaneUptoRow : OpenClaim := { program := "ytfkmhhbpomkakaa", sum := "4314cdc92943b16aa48b1d153dc94dd4cafd469355488ea62c466c617237382c", func := "tempera/temperalaw15.ClipPlane", spec := "clipPlane", inPlace := ["math/bits.Sub64"], unfollowed := true, recurses := true, named := ["math/bits.divideError", "math/bits.overflowError"], apart := false, narrowed := true }
def ClipPlaneUptoSaid : Prop := clipPlaneUptoRow.holds Try.pinned (OpenSpec.upto clipPlaneSpec)

/-- 'temperalaw15.ClipBack', WHERE WHAT IT READS IS OF BULK AT MOST 1048576: true; the input reads as it did. -/
def clipBackUptoRow : OpenClaim := { program := "ytfkmhhbpomkakaa", sum := "4314cdc92943b16aa48b1d153dc94dd4cafd469355488ea62c466c617237382c", func := "tempera/temperalaw15.ClipBack", spec := "clipBack", inPlace := ["math/bits.Sub64"], unfollowed := true, recurses := true, named := ["math/bits.divideError", "math/bits.overflowError"], apart := false, narrowed := true }
def ClipBackUptoSaid : Prop := clipBackUptoRow.holds Try.pinned (OpenSpec.upto clipBackSpec)

/-- 'temperalaw15.ClipAll', WHERE WHAT IT READS IS OF BULK AT MOST 1048576: true; the input reads as it did. -/
def clipAllUptoRow : OpenClaim := { program := "ytfkmhhbpomkakaa", sum := "4314cdc92943b16aa48b1d153dc94dd4cafd469355488ea62c466c617237382c", func := "tempera/temperalaw15.ClipAll", spec := "clipAll", inPlace := ["math/bits.Sub64"], unfollowed := true, recurses := true, named := ["math/bits.divideError", "math/bits.overflowError"], apart := false, narrowed := true }
def ClipAllUptoSaid : Prop := clipAllUptoRow.holds Try.pinned (OpenSpec.upto clipAllSpec)

/-- 'temperalaw17.TriSetup', WHERE WHAT IT READS IS OF BULK AT MOST 1048576: true; the input reads as it did. -/
def triSetupUptoRow : OpenClaim := { program := "ytfkmhhbpomkakaa", sum := "4314cdc92943b16aa48b1d153dc94dd4cafd469355488ea62c466c617237382c", func := "tempera/temperalaw17.TriSetup", spec := "triSetup", inPlace := ["math/bits.Sub64", "math/bits.Add64"], unfollowed := true, recurses := true, named := ["math/bits.divideError", "math/bits.overflowError"], apart := false, narrowed := true }
def TriSetupUptoSaid : Prop := triSetupUptoRow.holds Try.pinned (OpenSpec.upto triSetupSpec)

/-- 'temperalaw17.TriHas', WHERE WHAT IT READS IS OF BULK AT MOST 1048576: true; the input reads as it did. -/
def triHasUptoRow : OpenClaim := { program := "ytfkmhhbpomkakaa", sum := "4314cdc92943b16aa48b1d153dc94dd4cafd469355488ea62c466c617237382c", func := "tempera/temperalaw17.TriHas", spec := "triHas", inPlace := ["math/bits.Sub64", "math/bits.Add64"], unfollowed := true, recurses := true, named := ["math/bits.divideError", "math/bits.overflowError"], apart := false, narrowed := true }
def TriHasUptoSaid : Prop := triHasUptoRow.holds Try.pinned (OpenSpec.upto triHasSpec)

/-- 'temperalaw17.TriTurns', WHERE WHAT IT READS IS OF BULK AT MOST 1048576: true; the input reads as it did. -/
def triTurnsUptoRow : OpenClaim := { program := "ytfkmhhbpomkakaa", sum := "4314cdc92943b16aa48b1d153dc94dd4cafd469355488ea62c466c617237382c", func := "tempera/temperalaw17.TriTurns", spec := "triTurns", inPlace := ["math/bits.Sub64", "math/bits.Add64"], unfollowed := true, recurses := true, named := ["math/bits.divideError", "math/bits.overflowError"], apart := false, narrowed := true }
def TriTurnsUptoSaid : Prop := triTurnsUptoRow.holds Try.pinned (OpenSpec.upto triTurnsSpec)

/-- 'temperalaw19.FragPuts', WHERE WHAT IT READS IS OF BULK AT MOST 1048576: true; the input reads as it did. -/
def fragPutsUptoRow : OpenClaim := { program := "ytfkmhhbpomkakaa", sum := "4314cdc92943b16aa48b1d153dc94dd4cafd469355488ea62c466c617237382c", func := "tempera/temperalaw19.FragPuts", spec := "fragPuts", unfollowed := true, recurses := true, apart := false, narrowed := true }
def FragPutsUptoSaid : Prop := fragPutsUptoRow.holds Try.pinned (OpenSpec.upto fragPutsSpec)

/-- 'temperalaw19.FragStays', WHERE WHAT IT READS IS OF BULK AT MOST 1048576: true; the input reads as it did. -/
def fragStaysUptoRow : OpenClaim := { program := "ytfkmhhbpomkakaa", sum := "4314cdc92943b16aa48b1d153dc94dd4cafd469355488ea62c466c617237382c", func := "tempera/temperalaw19.FragStays", spec := "fragStays", unfollowed := true, recurses := true, apart := false, narrowed := true }
def FragStaysUptoSaid : Prop := fragStaysUptoRow.holds Try.pinned (OpenSpec.upto fragStaysSpec)

/-- 'temperalaw19.FragClears', WHERE WHAT IT READS IS OF BULK AT MOST 1048576: true; the input reads as it did. -/
def fragClearsUptoRow : OpenClaim := { program := "ytfkmhhbpomkakaa", sum := "4314cdc92943b16aa48b1d153dc94dd4cafd469355488ea62c466c617237382c", func := "tempera/temperalaw19.FragClears", spec := "fragClears", unfollowed := true, recurses := true, apart := false, narrowed := true }
def FragClearsUptoSaid : Prop := fragClearsUptoRow.holds Try.pinned (OpenSpec.upto fragClearsSpec)

end Rows
end Go.Proofs.Ytfkmhhbpomkakaa
