/- Facts of the program as a whole. -/
import Derived.Test.YtefiememffgohaaQP9
import Derived.Test.YtefiememffgohaaProg
namespace Go.Proofs.Ytefiememffgohaa
open Go Go.RowKit Go.Proofs
theorem laid : laidOutB Try.prog = true := by kernel_rfl
end Go.Proofs.Ytefiememffgohaa
