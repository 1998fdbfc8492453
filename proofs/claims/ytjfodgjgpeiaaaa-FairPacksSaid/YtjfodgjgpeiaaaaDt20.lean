/- Facts of the program as a whole. -/
import Derived.Test.YtjfodgjgpeiaaaaDt19
import Derived.Test.YtjfodgjgpeiaaaaProg
namespace Go.Proofs.Ytjfodgjgpeiaaaa
open Go Go.RowKit Go.Proofs
theorem laid : laidOutB Try.prog = true := by kernel_rfl
end Go.Proofs.Ytjfodgjgpeiaaaa
