/- Facts of the program as a whole. -/
import Derived.Test.YtegmkkpdckolkaaQC9
import Derived.Test.YtegmkkpdckolkaaProg
namespace Go.Proofs.Ytegmkkpdckolkaa
open Go Go.RowKit Go.Proofs
theorem laid : laidOutB Try.prog = true := by kernel_rfl
end Go.Proofs.Ytegmkkpdckolkaa
