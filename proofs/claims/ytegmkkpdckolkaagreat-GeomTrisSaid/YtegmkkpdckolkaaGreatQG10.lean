/- Facts of the program as a whole. -/
import Derived.Test.YtegmkkpdckolkaaGreatQG9
import Derived.Test.YtegmkkpdckolkaaGreatProg
namespace Go.Proofs.YtegmkkpdckolkaaGreat
open Go Go.RowKit Go.Proofs
theorem laid : laidOutB Tryz.prog = true := by kernel_rfl
end Go.Proofs.YtegmkkpdckolkaaGreat
