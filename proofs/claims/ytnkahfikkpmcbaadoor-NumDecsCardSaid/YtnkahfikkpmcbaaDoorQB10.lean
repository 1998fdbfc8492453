/- Facts of the program as a whole. -/
import Derived.Test.YtnkahfikkpmcbaaDoorQB9
import Derived.Test.YtnkahfikkpmcbaaDoorProg
namespace Go.Proofs.YtnkahfikkpmcbaaDoor
open Go Go.RowKit Go.Proofs
theorem laid : laidOutB Tryd.prog = true := by kernel_rfl
end Go.Proofs.YtnkahfikkpmcbaaDoor
