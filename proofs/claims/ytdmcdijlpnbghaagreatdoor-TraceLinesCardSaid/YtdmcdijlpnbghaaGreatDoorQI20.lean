/- A contract's answer in the model's own terms, slices and all; what a row of texts is in a world. -/
import Derived.Test.YtdmcdijlpnbghaaGreatDoorQI19
namespace Go.Dt
open Go Go.Proofs Go.RowKit
set_option linter.unusedVariables false
set_option linter.unusedSimpArgs false

theorem froH_of {w : World} {r : Nat} {c : Array Value} {t : TypeId} {fz : Nat × Nat} (h : w.heap[r]? = some (.cells c t fz)) : froH w r = some c := by
  unfold froH
  rw [h]
end Go.Dt
