/- Facts of the program as a whole. -/
import Derived.Test.YtfkmhhbpomkakaaQA9
import Derived.Test.YtfkmhhbpomkakaaProg
namespace Go.Proofs.Ytfkmhhbpomkakaa
open Go Go.RowKit Go.Proofs
theorem laid : laidOutB Try.prog = true := by kernel_rfl
end Go.Proofs.Ytfkmhhbpomkakaa
