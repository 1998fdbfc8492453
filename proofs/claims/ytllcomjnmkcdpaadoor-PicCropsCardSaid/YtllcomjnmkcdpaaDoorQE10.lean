/- Facts of the program as a whole. -/
import Derived.Test.YtllcomjnmkcdpaaDoorQE9
import Derived.Test.YtllcomjnmkcdpaaDoorProg
namespace Go.Proofs.YtllcomjnmkcdpaaDoor
open Go Go.RowKit Go.Proofs
theorem laid : laidOutB Tryd.prog = true := by kernel_rfl
end Go.Proofs.YtllcomjnmkcdpaaDoor
