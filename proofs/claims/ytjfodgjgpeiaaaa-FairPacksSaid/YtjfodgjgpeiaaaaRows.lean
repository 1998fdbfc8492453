/-
  No cell of these rows narrows 'for every input' (looked for: loops, veiled, ifaces, maps, wideKeys, modest, calm, conditions, laid).
  DERIVED. THE GIVEN ROWS OF THIS SEAT. 12 by the template 'for every input the law returns true; each argument reads behind the call as it read before'; 0 by the template 'total and deterministic' (their statements: YtjfodgjgpeiaaaaTotals.lean).
  GIVEN WITH THE SEED: the statements are not yours to turn. If you find one false, say at which input.
  Laid BY PROGRAM, IN A SANDBOX (cutbox-rows.mjs): the forced cells as the released guide's own fill.sh prints them over the translation 7f9dafe0cd917d7f… (all of the seat's roots in one cut). By AI agents, Wed Nov 11 2026. No macro, syntax, notation, axiom, sorry.
-/
import Derived.Test.YtjfodgjgpeiaaaaChecked
import GoSem.Claim
import GoSem.ClaimJoined
import GoSem.ClaimMapViews
import Derived.JoinedTies
import Derived.KernelRfl
namespace Go.Proofs.Ytjfodgjgpeiaaaa
/- THE CELL 'sum', in the pinned program and in every row, IS THE sha256 OF THE DUMP (.gsa) THAT YtjfodgjgpeiaaaaProg.lean LOADS. Nothing in Lean hashes anything: it is a label: what it is worth is what the hold of that sum in a sandbox is worth. -/
noncomputable def Try.pinned : Pinned := { name := "ytjfodgjgpeiaaaa", sum := "7f9dafe0cd917d7ff8f3a9f280feaf95c9231a12b1329218f32df316ee8deea1", checked := Try.checked }
namespace Rows
def none {H : Type} : Left H := { results := [], args := [] }

/-- 'temperalaw40.AuditWrong': WHATEVER THE INPUT: true; the input reads as it did. -/
def auditWrongSpec : ChangeSpec := { name := "auditWrong", fn := fun _ => fun
  | [d1, d2, d3] => { results := [.lit (.bool true)], args := [d1, d2, d3] }
  | _ => none }
def auditWrongRow : OpenClaim := { program := "ytjfodgjgpeiaaaa", sum := "7f9dafe0cd917d7ff8f3a9f280feaf95c9231a12b1329218f32df316ee8deea1", func := "tempera/temperalaw40.AuditWrong", spec := "auditWrong", plainKeys := false, apart := false }
def AuditWrongSaid : Prop := auditWrongRow.holds Try.pinned (OpenSpec.ofChange auditWrongSpec)

/-- ITS FALSE NEIGHBOUR: 'it returns false'. Refute it at one input. -/
def auditWrongWrong : ChangeSpec := { name := "auditWrong", fn := fun _ => fun
  | [d1, d2, d3] => { results := [.lit (.bool false)], args := [d1, d2, d3] }
  | _ => none }
def AuditWrongWrongFalsely : Prop := auditWrongRow.holds Try.pinned (OpenSpec.ofChange auditWrongWrong)

/-- 'temperalaw42.FairGaps': WHATEVER THE INPUT: true; the input reads as it did. -/
def fairGapsSpec : ChangeSpec := { name := "fairGaps", fn := fun _ => fun
  | [d1, d2] => { results := [.lit (.bool true)], args := [d1, d2] }
  | _ => none }
def fairGapsRow : OpenClaim := { program := "ytjfodgjgpeiaaaa", sum := "7f9dafe0cd917d7ff8f3a9f280feaf95c9231a12b1329218f32df316ee8deea1", func := "tempera/temperalaw42.FairGaps", spec := "fairGaps", unfollowed := true, recurses := true, plainKeys := false, apart := false }
def FairGapsSaid : Prop := fairGapsRow.holds Try.pinned (OpenSpec.ofChange fairGapsSpec)

/-- ITS FALSE NEIGHBOUR: 'it returns false'. Refute it at one input. -/
def fairGapsWrong : ChangeSpec := { name := "fairGaps", fn := fun _ => fun
  | [d1, d2] => { results := [.lit (.bool false)], args := [d1, d2] }
  | _ => none }
def FairGapsWrongFalsely : Prop := fairGapsRow.holds Try.pinned (OpenSpec.ofChange fairGapsWrong)

/-- 'temperalaw40.AuditLoads': WHATEVER THE INPUT: true; the input reads as it did. -/
def auditLoadsSpec : ChangeSpec := { name := "auditLoads", fn := fun _ => fun
  | [d1, d2, d3] => { results := [.lit (.bool true)], args := [d1, d2, d3] }
  | _ => none }
def auditLoadsRow : OpenClaim := { program := "ytjfodgjgpeiaaaa", sum := "7f9dafe0cd917d7ff8f3a9f280feaf95c9231a12b1329218f32df316ee8deea1", func := "tempera/temperalaw40.AuditLoads", spec := "auditLoads", plainKeys := false, apart := false }
def AuditLoadsSaid : Prop := auditLoadsRow.holds Try.pinned (OpenSpec.ofChange auditLoadsSpec)

/-- ITS FALSE NEIGHBOUR: 'it returns false'. Refute it at one input. -/
def auditLoadsWrong : ChangeSpec := { name := "auditLoads", fn := fun _ => fun
  | [d1, d2, d3] => { results := [.lit (.bool false)], args := [d1, d2, d3] }
  | _ => none }
def AuditLoadsWrongFalsely : Prop := auditLoadsRow.holds Try.pinned (OpenSpec.ofChange auditLoadsWrong)

/-- 'temperalaw42.FairPacks': WHATEVER THE INPUT: true; the input reads as it did. -/
def fairPacksSpec : ChangeSpec := { name := "fairPacks", fn := fun _ => fun
  | [d1, d2] => { results := [.lit (.bool true)], args := [d1, d2] }
  | _ => none }
def fairPacksRow : OpenClaim := { program := "ytjfodgjgpeiaaaa", sum := "7f9dafe0cd917d7ff8f3a9f280feaf95c9231a12b1329218f32df316ee8deea1", func := "tempera/temperalaw42.FairPacks", spec := "fairPacks", unfollowed := true, recurses := true, plainKeys := false, apart := false }
def FairPacksSaid : Prop := fairPacksRow.holds Try.pinned (OpenSpec.ofChange fairPacksSpec)

/-- ITS FALSE NEIGHBOUR: 'it returns false'. Refute it at one input. -/
def fairPacksWrong : ChangeSpec := { name := "fairPacks", fn := fun _ => fun
  | [d1, d2] => { results := [.lit (.bool false)], args := [d1, d2] }
  | _ => none }
def FairPacksWrongFalsely : Prop := fairPacksRow.holds Try.pinned (OpenSpec.ofChange fairPacksWrong)

/-- 'temperalaw42.FairWindows': WHATEVER THE INPUT: true; the input reads as it did. -/
def fairWindowsSpec : ChangeSpec := { name := "fairWindows", fn := fun _ => fun
  | [d1, d2, d3] => { results := [.lit (.bool true)], args := [d1, d2, d3] }
  | _ => none }
def fairWindowsRow : OpenClaim := { program := "ytjfodgjgpeiaaaa", sum := "7f9dafe0cd917d7ff8f3a9f280feaf95c9231a12b1329218f32df316ee8deea1", func := "tempera/temperalaw42.FairWindows", spec := "fairWindows", unfollowed := true, recurses := true, plainKeys := false, apart := false }
def FairWindowsSaid : Prop := fairWindowsRow.holds Try.pinned (OpenSpec.ofChange fairWindowsSpec)

/-- ITS FALSE NEIGHBOUR: 'it returns false'. Refute it at one input. -/
def fairWindowsWrong : ChangeSpec := { name := "fairWindows", fn := fun _ => fun
  | [d1, d2, d3] => { results := [.lit (.bool false)], args := [d1, d2, d3] }
  | _ => none }
def FairWindowsWrongFalsely : Prop := fairWindowsRow.holds Try.pinned (OpenSpec.ofChange fairWindowsWrong)

/-- 'temperalaw02.WideFloors': WHATEVER THE INPUT: true; the input reads as it did. -/
def wideFloorsSpec : ChangeSpec := { name := "wideFloors", fn := fun _ => fun
  | [d1, d2, d3] => { results := [.lit (.bool true)], args := [d1, d2, d3] }
  | _ => none }
def wideFloorsRow : OpenClaim := { program := "ytjfodgjgpeiaaaa", sum := "7f9dafe0cd917d7ff8f3a9f280feaf95c9231a12b1329218f32df316ee8deea1", func := "tempera/temperalaw02.WideFloors", spec := "wideFloors", inPlace := ["math/bits.Sub64"], named := ["math/bits.divideError", "math/bits.overflowError"], plainKeys := false, apart := false }
def WideFloorsSaid : Prop := wideFloorsRow.holds Try.pinned (OpenSpec.ofChange wideFloorsSpec)

/-- ITS FALSE NEIGHBOUR: 'it returns false'. Refute it at one input. -/
def wideFloorsWrong : ChangeSpec := { name := "wideFloors", fn := fun _ => fun
  | [d1, d2, d3] => { results := [.lit (.bool false)], args := [d1, d2, d3] }
  | _ => none }
def WideFloorsWrongFalsely : Prop := wideFloorsRow.holds Try.pinned (OpenSpec.ofChange wideFloorsWrong)

/-- 'temperalaw02.WideDivs': WHATEVER THE INPUT: true; the input reads as it did. -/
def wideDivsSpec : ChangeSpec := { name := "wideDivs", fn := fun _ => fun
  | [d1, d2, d3] => { results := [.lit (.bool true)], args := [d1, d2, d3] }
  | _ => none }
def wideDivsRow : OpenClaim := { program := "ytjfodgjgpeiaaaa", sum := "7f9dafe0cd917d7ff8f3a9f280feaf95c9231a12b1329218f32df316ee8deea1", func := "tempera/temperalaw02.WideDivs", spec := "wideDivs", inPlace := ["math/bits.Sub64"], named := ["math/bits.divideError", "math/bits.overflowError"], plainKeys := false, apart := false }
def WideDivsSaid : Prop := wideDivsRow.holds Try.pinned (OpenSpec.ofChange wideDivsSpec)

/-- ITS FALSE NEIGHBOUR: 'it returns false'. Refute it at one input. -/
def wideDivsWrong : ChangeSpec := { name := "wideDivs", fn := fun _ => fun
  | [d1, d2, d3] => { results := [.lit (.bool false)], args := [d1, d2, d3] }
  | _ => none }
def WideDivsWrongFalsely : Prop := wideDivsRow.holds Try.pinned (OpenSpec.ofChange wideDivsWrong)

/-- 'temperalaw02.WideMuls': WHATEVER THE INPUT: true; the input reads as it did. -/
def wideMulsSpec : ChangeSpec := { name := "wideMuls", fn := fun _ => fun
  | [d1, d2] => { results := [.lit (.bool true)], args := [d1, d2] }
  | _ => none }
def wideMulsRow : OpenClaim := { program := "ytjfodgjgpeiaaaa", sum := "7f9dafe0cd917d7ff8f3a9f280feaf95c9231a12b1329218f32df316ee8deea1", func := "tempera/temperalaw02.WideMuls", spec := "wideMuls", inPlace := ["math/bits.Sub64"], named := ["math/bits.divideError", "math/bits.overflowError"], plainKeys := false, apart := false }
def WideMulsSaid : Prop := wideMulsRow.holds Try.pinned (OpenSpec.ofChange wideMulsSpec)

/-- ITS FALSE NEIGHBOUR: 'it returns false'. Refute it at one input. -/
def wideMulsWrong : ChangeSpec := { name := "wideMuls", fn := fun _ => fun
  | [d1, d2] => { results := [.lit (.bool false)], args := [d1, d2] }
  | _ => none }
def WideMulsWrongFalsely : Prop := wideMulsRow.holds Try.pinned (OpenSpec.ofChange wideMulsWrong)

/-- 'temperalaw02.WideSums': WHATEVER THE INPUT: true; the input reads as it did. -/
def wideSumsSpec : ChangeSpec := { name := "wideSums", fn := fun _ => fun
  | [d1, d2] => { results := [.lit (.bool true)], args := [d1, d2] }
  | _ => none }
def wideSumsRow : OpenClaim := { program := "ytjfodgjgpeiaaaa", sum := "7f9dafe0cd917d7ff8f3a9f280feaf95c9231a12b1329218f32df316ee8deea1", func := "tempera/temperalaw02.WideSums", spec := "wideSums", inPlace := ["math/bits.Add64", "math/bits.Sub64"], named := ["math/bits.divideError", "math/bits.overflowError"], plainKeys := false, apart := false }
def WideSumsSaid : Prop := wideSumsRow.holds Try.pinned (OpenSpec.ofChange wideSumsSpec)

/-- ITS FALSE NEIGHBOUR: 'it returns false'. Refute it at one input. -/
def wideSumsWrong : ChangeSpec := { name := "wideSums", fn := fun _ => fun
  | [d1, d2] => { results := [.lit (.bool false)], args := [d1, d2] }
  | _ => none }
def WideSumsWrongFalsely : Prop := wideSumsRow.holds Try.pinned (OpenSpec.ofChange wideSumsWrong)

/-- 'temperalaw13.BaryWeights': WHATEVER THE INPUT: true; the input reads as it did. -/
def baryWeightsSpec : ChangeSpec := { name := "baryWeights", fn := fun _ => fun
  | [d1, d2] => { results := [.lit (.bool true)], args := [d1, d2] }
  | _ => none }
def baryWeightsRow : OpenClaim := { program := "ytjfodgjgpeiaaaa", sum := "7f9dafe0cd917d7ff8f3a9f280feaf95c9231a12b1329218f32df316ee8deea1", func := "tempera/temperalaw13.BaryWeights", spec := "baryWeights", inPlace := ["math/bits.Sub64", "math/bits.Add64"], named := ["math/bits.divideError", "math/bits.overflowError"], plainKeys := false, apart := false }
def BaryWeightsSaid : Prop := baryWeightsRow.holds Try.pinned (OpenSpec.ofChange baryWeightsSpec)

/-- ITS FALSE NEIGHBOUR: 'it returns false'. Refute it at one input. -/
def baryWeightsWrong : ChangeSpec := { name := "baryWeights", fn := fun _ => fun
  | [d1, d2] => { results := [.lit (.bool false)], args := [d1, d2] }
  | _ => none }
def BaryWeightsWrongFalsely : Prop := baryWeightsRow.holds Try.pinned (OpenSpec.ofChange baryWeightsWrong)

/-- 'temperalaw13.BaryMixes': WHATEVER THE INPUT: true; the input reads as it did. -/
def baryMixesSpec : ChangeSpec := { name := "baryMixes", fn := fun _ => fun
  | [d1, d2] => { results := [.lit (.bool true)], args := [d1, d2] }
  | _ => none }
def baryMixesRow : OpenClaim := { program := "ytjfodgjgpeiaaaa", sum := "7f9dafe0cd917d7ff8f3a9f280feaf95c9231a12b1329218f32df316ee8deea1", func := "tempera/temperalaw13.BaryMixes", spec := "baryMixes", inPlace := ["math/bits.Sub64", "math/bits.Add64"], named := ["math/bits.divideError", "math/bits.overflowError"], plainKeys := false, apart := false }
def BaryMixesSaid : Prop := baryMixesRow.holds Try.pinned (OpenSpec.ofChange baryMixesSpec)

/-- ITS FALSE NEIGHBOUR: 'it returns false'. Refute it at one input. -/
def baryMixesWrong : ChangeSpec := { name := "baryMixes", fn := fun _ => fun
  | [d1, d2] => { results := [.lit (.bool false)], args := [d1, d2] }
  | _ => none }
def BaryMixesWrongFalsely : Prop := baryMixesRow.holds Try.pinned (OpenSpec.ofChange baryMixesWrong)

/-- 'temperalaw13.BaryCorners': WHATEVER THE INPUT: true; the input reads as it did. -/
def baryCornersSpec : ChangeSpec := { name := "baryCorners", fn := fun _ => fun
  | [d1, d2] => { results := [.lit (.bool true)], args := [d1, d2] }
  | _ => none }
def baryCornersRow : OpenClaim := { program := "ytjfodgjgpeiaaaa", sum := "7f9dafe0cd917d7ff8f3a9f280feaf95c9231a12b1329218f32df316ee8deea1", func := "tempera/temperalaw13.BaryCorners", spec := "baryCorners", inPlace := ["math/bits.Sub64", "math/bits.Add64"], named := ["math/bits.divideError", "math/bits.overflowError"], plainKeys := false, apart := false }
def BaryCornersSaid : Prop := baryCornersRow.holds Try.pinned (OpenSpec.ofChange baryCornersSpec)

/-- ITS FALSE NEIGHBOUR: 'it returns false'. Refute it at one input. -/
def baryCornersWrong : ChangeSpec := { name := "baryCorners", fn := fun _ => fun
  | [d1, d2] => { results := [.lit (.bool false)], args := [d1, d2] }
  | _ => none }
def BaryCornersWrongFalsely : Prop := baryCornersRow.holds Try.pinned (OpenSpec.ofChange baryCornersWrong)

/- THE SECOND FORM. 'bulk': how many values and letters a reading holds, each counted each time it is reached (what is shared counts as often as it is met; a slice's spare places count too). A statement '..UptoSaid' is the law's where the arguments, and the package variables that the reading takes, are together of bulk at most 1048576: NARROWER than '..Said'. Prove '..Said' where nothing that the law and all that it calls make is longer than what came in: it says more and counts as full. Else prove '..UptoSaid'. A law counts once. -/
mutual
def uptoBulk {H : Type} : DataW H → Nat
  | .lit (.string bytes) => bytes.length + 1
  | .lit _ => 1
  | .nil => 1
  | .ptr d => uptoBulk d + 1
  | .slice elems spare => uptoBulkAll elems + uptoBulkAll spare + 1
  | .agg parts => uptoBulkAll parts + 1
  | .iface _ d => uptoBulk d + 1
  | .map entries => uptoBulkEntries entries + 1
  | .held _ => 1
def uptoBulkAll {H : Type} : List (DataW H) → Nat
  | [] => 0
  | d :: r => uptoBulk d + uptoBulkAll r
def uptoBulkEntries {H : Type} : List (Lit × DataW H) → Nat
  | [] => 0
  | x :: r => uptoBulkEntry x + uptoBulkEntries r
def uptoBulkEntry {H : Type} : Lit × DataW H → Nat
  | (.string bytes, d) => bytes.length + uptoBulk d + 1
  | (_, d) => uptoBulk d + 1
 end
def uptoSmall : (H : Type) → List (DataW H) → Bool := fun _ ds => decide (uptoBulkAll ds ≤ 1048576)
def OpenSpec.upto (s : _root_.Go.ChangeSpec) : _root_.Go.OpenSpec := { _root_.Go.OpenSpec.ofChange s with cond := some uptoSmall }

/-- 'temperalaw40.AuditWrong', WHERE WHAT IT READS IS OF BULK AT MOST 1048576: true; the input reads as it did. -/
def auditWrongUptoRow : OpenClaim := { program := "ytjfodgjgpeiaaaa", sum := "7f9dafe0cd917d7ff8f3a9f280feaf95c9231a12b1329218f32df316ee8deea1", func := "tempera/temperalaw40.AuditWrong", spec := "auditWrong", plainKeys := false, apart := false, narrowed := true }
def AuditWrongUptoSaid : Prop := auditWrongUptoRow.holds Try.pinned (OpenSpec.upto auditWrongSpec)

/-- 'temperalaw42.FairGaps', WHERE WHAT IT READS IS OF BULK AT MOST 1048576: true; the input reads as it did. -/
def fairGapsUptoRow : OpenClaim := { program := "ytjfodgjgpeiaaaa", sum := "7f9dafe0cd917d7ff8f3a9f280feaf95c9231a12b1329218f32df316ee8deea1", func := "tempera/temperalaw42.FairGaps", spec := "fairGaps", unfollowed := true, recurses := true, plainKeys := false, apart := false, narrowed := true }
def FairGapsUptoSaid : Prop := fairGapsUptoRow.holds Try.pinned (OpenSpec.upto fairGapsSpec)

/-- 'temperalaw40.AuditLoads', WHERE WHAT IT READS IS OF BULK AT MOST 1048576: true; the input reads as it did. -/
def auditLoadsUptoRow : OpenClaim := { program := "ytjfodgjgpeiaaaa", sum := "7f9dafe0cd917d7ff8f3a9f280feaf95c9231a12b1329218f32df316ee8deea1", func := "tempera/temperalaw40.AuditLoads", spec := "auditLoads", plainKeys := false, apart := false, narrowed := true }
def AuditLoadsUptoSaid : Prop := auditLoadsUptoRow.holds Try.pinned (OpenSpec.upto auditLoadsSpec)

/-- 'temperalaw42.FairPacks', WHERE WHAT IT READS IS OF BULK AT MOST 1048576: true; the input reads as it did. -/
def fairPacksUptoRow : OpenClaim := { program := "ytjfodgjgpeiaaaa", sum := "7f9dafe0cd917d7ff8f3a9f280feaf95c9231a12b1329218f32df316ee8deea1", func := "tempera/temperalaw42.FairPacks", spec := "fairPacks", unfollowed := true, recurses := true, plainKeys := false, apart := false, narrowed := true }
def FairPacksUptoSaid : Prop := fairPacksUptoRow.holds Try.pinned (OpenSpec.upto fairPacksSpec)

/-- 'temperalaw42.FairWindows', WHERE WHAT IT READS IS OF BULK AT MOST 1048576: true; the input reads as it did. -/
def fairWindowsUptoRow : OpenClaim := { program := "ytjfodgjgpeiaaaa", sum := "7f9dafe0cd917d7ff8f3a9f280feaf95c9231a12b1329218f32df316ee8deea1", func := "tempera/temperalaw42.FairWindows", spec := "fairWindows", unfollowed := true, recurses := true, plainKeys := false, apart := false, narrowed := true }
def FairWindowsUptoSaid : Prop := fairWindowsUptoRow.holds Try.pinned (OpenSpec.upto fairWindowsSpec)

/-- 'temperalaw02.WideFloors', WHERE WHAT IT READS IS OF BULK AT MOST 1048576: true; the input reads as it did. -/
def wideFloorsUptoRow : OpenClaim := { program := "ytjfodgjgpeiaaaa", sum := "7f9dafe0cd917d7ff8f3a9f280feaf95c9231a12b1329218f32df316ee8deea1", func := "tempera/temperalaw02.WideFloors", spec := "wideFloors", inPlace := ["math/bits.Sub64"], named := ["math/bits.divideError", "math/bits.overflowError"], plainKeys := false, apart := false, narrowed := true }
def WideFloorsUptoSaid : Prop := wideFloorsUptoRow.holds Try.pinned (OpenSpec.upto wideFloorsSpec)

/-- 'temperalaw02.WideDivs', WHERE WHAT IT READS IS OF BULK AT MOST 1048576: true; the input reads as it did. -/
def wideDivsUptoRow : OpenClaim := { program := "ytjfodgjgpeiaaaa", sum := "7f9dafe0cd917d7ff8f3a9f280feaf95c9231a12b1329218f32df316ee8deea1", func := "tempera/temperalaw02.WideDivs", spec := "wideDivs", inPlace := ["math/bits.Sub64"], named := ["math/bits.divideError", "math/bits.overflowError"], plainKeys := false, apart := false, narrowed := true }
def WideDivsUptoSaid : Prop := wideDivsUptoRow.holds Try.pinned (OpenSpec.upto wideDivsSpec)

/-- 'temperalaw02.WideMuls', WHERE WHAT IT READS IS OF BULK AT MOST 1048576: true; the input reads as it did. -/
def wideMulsUptoRow : OpenClaim := { program := "ytjfodgjgpeiaaaa", sum := "7f9dafe0cd917d7ff8f3a9f280feaf95c9231a12b1329218f32df316ee8deea1", func := "tempera/temperalaw02.WideMuls", spec := "wideMuls", inPlace := ["math/bits.Sub64"], named := ["math/bits.divideError", "math/bits.overflowError"], plainKeys := false, apart := false, narrowed := true }
def WideMulsUptoSaid : Prop := wideMulsUptoRow.holds Try.pinned (OpenSpec.upto wideMulsSpec)

/-- 'temperalaw02.WideSums', WHERE WHAT IT READS IS OF BULK AT MOST 1048576: true; the input reads as it did. -/
def wideSumsUptoRow : OpenClaim := { program := "ytjfodgjgpeiaaaa", sum := "7f9dafe0cd917d7ff8f3a9f280feaf95c9231a12b1329218f32df316ee8deea1", func := "tempera/temperalaw02.WideSums", spec := "wideSums", inPlace := ["math/bits.Add64", "math/bits.Sub64"], named := ["math/bits.divideError", "math/bits.overflowError"], plainKeys := false, apart := false, narrowed := true }
def WideSumsUptoSaid : Prop := wideSumsUptoRow.holds Try.pinned (OpenSpec.upto wideSumsSpec)

/-- 'temperalaw13.BaryWeights', WHERE WHAT IT READS IS OF BULK AT MOST 1048576: true; the input reads as it did. -/
def baryWeightsUptoRow : OpenClaim := { program := "ytjfodgjgpeiaaaa", sum := "7f9dafe0cd917d7ff8f3a9f280feaf95c9231a12b1329218f32df316ee8deea1", func := "tempera/temperalaw13.BaryWeights", spec := "baryWeights", inPlace := ["math/bits.Sub64", "math/bits.Add64"], named := ["math/bits.divideError", "math/bits.overflowError"], plainKeys := false, apart := false, narrowed := true }
def BaryWeightsUptoSaid : Prop := baryWeightsUptoRow.holds Try.pinned (OpenSpec.upto baryWeightsSpec)

/-- 'temperalaw13.BaryMixes', WHERE WHAT IT READS IS OF BULK AT MOST 1048576: true; the input reads as it did. -/
def baryMixesUptoRow : OpenClaim := { program := "ytjfodgjgpeiaaaa", sum := "7f9dafe0cd917d7ff8f3a9f280feaf95c9231a12b1329218f32df316ee8deea1", func := "tempera/temperalaw13.BaryMixes", spec := "baryMixes", inPlace := ["math/bits.Sub64", "math/bits.Add64"], named := ["math/bits.divideError", "math/bits.overflowError"], plainKeys := false, apart := false, narrowed := true }
def BaryMixesUptoSaid : Prop := baryMixesUptoRow.holds Try.pinned (OpenSpec.upto baryMixesSpec)

/-- 'temperalaw13.BaryCorners', WHERE WHAT IT READS IS OF BULK AT MOST 1048576: true; the input reads as it did. -/
def baryCornersUptoRow : OpenClaim := { program := "ytjfodgjgpeiaaaa", sum := "7f9dafe0cd917d7ff8f3a9f280feaf95c9231a12b1329218f32df316ee8deea1", func := "tempera/temperalaw13.BaryCorners", spec := "baryCorners", inPlace := ["math/bits.Sub64", "math/bits.Add64"], named := ["math/bits.divideError", "math/bits.overflowError"], plainKeys := false, apart := false, narrowed := true }
def BaryCornersUptoSaid : Prop := baryCornersUptoRow.holds Try.pinned (OpenSpec.upto baryCornersSpec)

end Rows
end Go.Proofs.Ytjfodgjgpeiaaaa
