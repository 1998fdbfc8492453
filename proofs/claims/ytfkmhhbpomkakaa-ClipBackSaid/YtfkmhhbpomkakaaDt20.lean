/- Facts of the program as a whole. -/
import Derived.Test.YtfkmhhbpomkakaaDt19
import Derived.Test.YtfkmhhbpomkakaaProg
namespace Go.Proofs.Ytfkmhhbpomkakaa
open Go Go.RowKit Go.Proofs
theorem laid : laidOutB Try.prog = true := by kernel_rfl
end Go.Proofs.Ytfkmhhbpomkakaa
