/- Facts of the program as a whole. -/
import Derived.Test.YtdmcdijlpnbghaaGreatDoorQI10
import Derived.Test.YtdmcdijlpnbghaaGreatDoorProg
namespace Go.Proofs.YtdmcdijlpnbghaaGreatDoor
open Go Go.RowKit Go.Proofs
theorem laid : laidOutB Tryz.prog = true := by kernel_rfl
end Go.Proofs.YtdmcdijlpnbghaaGreatDoor
