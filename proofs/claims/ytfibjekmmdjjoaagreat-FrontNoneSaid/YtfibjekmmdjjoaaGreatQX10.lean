/- Facts of the program as a whole. -/
import Derived.Test.YtfibjekmmdjjoaaGreatQX9
import Derived.Test.YtfibjekmmdjjoaaGreatProg
namespace Go.Proofs.YtfibjekmmdjjoaaGreat
open Go Go.RowKit Go.Proofs
theorem laid : laidOutB Tryz.prog = true := by kernel_rfl
end Go.Proofs.YtfibjekmmdjjoaaGreat
