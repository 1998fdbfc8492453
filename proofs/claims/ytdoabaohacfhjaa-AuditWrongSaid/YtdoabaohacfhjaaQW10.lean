/- Facts of the program as a whole. -/
import Derived.Test.YtdoabaohacfhjaaQW9
import Derived.Test.YtdoabaohacfhjaaProg
namespace Go.Proofs.Ytdoabaohacfhjaa
open Go Go.RowKit Go.Proofs
theorem laid : laidOutB Try.prog = true := by kernel_rfl
end Go.Proofs.Ytdoabaohacfhjaa
