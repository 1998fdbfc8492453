/- The law FrontNone, for every command. -/
import Derived.Test.YtfibjekmmdjjoaaGreatQX20
namespace Go.Proofs.YtfibjekmmdjjoaaGreat.Lf
open Go Go.Dt Go.Proofs
theorem frontNone_ok (K : Nat) (c : TCmd) : FL26_FrontNone K c = some true := by
  unfold FL26_FrontNone FR20_Light
  by_cases h1 : (↑c.L.length : Int) ≤ 5000 <;> by_cases h2 : (↑c.Verts.length : Int) ≤ 1100 <;> simp [h1, h2, Fawake] <;> rfl
theorem frontNone_walk (c : TCmd) : Con Tryz.prog 3 [.agg ⟨Flat.cells c⟩] (.bool true) := cL26_FrontNone 0 c true (frontNone_ok 0 c)
end Go.Proofs.YtfibjekmmdjjoaaGreat.Lf
