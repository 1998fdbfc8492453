/- Facts of the program as a whole. -/
import Derived.Test.YtfkmhhbpomkakaaGreatQF9
import Derived.Test.YtfkmhhbpomkakaaGreatProg
namespace Go.Proofs.YtfkmhhbpomkakaaGreat
open Go Go.RowKit Go.Proofs
theorem laid : laidOutB Tryz.prog = true := by kernel_rfl
end Go.Proofs.YtfkmhhbpomkakaaGreat
