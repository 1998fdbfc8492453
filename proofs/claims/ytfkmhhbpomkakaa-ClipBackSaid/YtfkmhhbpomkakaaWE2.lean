/- WideMuls: products agree with the digits' products. -/
import Derived.Test.YtfkmhhbpomkakaaWD2
import Derived.Test.YtfkmhhbpomkakaaDt18
namespace Go.Proofs.Ytfkmhhbpomkakaa.Wide
open Go Go.Dt Go.Proofs


def wl (z : Int) : List Int := [IntKind.i64.wrap (z / 18446744073709551616), z % 18446744073709551616]

end Go.Proofs.Ytfkmhhbpomkakaa.Wide
