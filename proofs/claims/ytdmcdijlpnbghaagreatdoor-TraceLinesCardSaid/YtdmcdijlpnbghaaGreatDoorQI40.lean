/- An index into a slice of nothing. -/
import Derived.Test.YtdmcdijlpnbghaaGreatDoorQI36
namespace Go.Dt
open Go Go.Proofs
set_option linter.unusedVariables false
set_option linter.unusedSimpArgs false
variable {ρ : Type} {P : Program} {f : FuncId} {n0 : Nat} {E : ρ → VQ} {s : VS} {T : Option ρ}
theorem inR0 (i : Int) : inR i 0 = false := by
  unfold inR
  by_cases h : 0 ≤ i
  · have : ¬ i < ((0 : Nat) : Int) := by omega
    simp [this]
  · simp [h]
theorem L.idxN0 {c : Fr} (i : Int) : LiftsF P c n0 E s (bif inR i 0 then T else Option.none) := fun r h => by
  rw [inR0] at h
  cases h
end Go.Dt
