/- Several texts in one: WO2y, WP2y. -/
import Derived.Test.YtfkmhhbpomkakaaGreatQF22
namespace Go.Proofs.YtfkmhhbpomkakaaGreat.Wide

section
open Go Go.Dt Go.Proofs

def s1 (P : Program) (fn : Func) : VS := Go.Dt.go P (afterCall (Go.Dt.go P (entry fn [DI 5, .int .i64 17] [])) (DI 5))
def s2 (P : Program) (fn : Func) : VS := afterCall (Go.Dt.go P (afterCall (s1 P fn) (DI 17))) (DI 17)
/-! ### The end -/
def acc (n d : Int) : Int := IntKind.i64.wrap (IntKind.i64.wrap (n * 65536) + d)
end

section
open Go Go.Dt Go.Proofs

theorem mulDiv_in {z c : Int} (hc : c ≠ 0) (h : fits (z.fdiv c) = true) : floorN z c = z.fdiv c ∧ floorE z c = 0 := by
  have hc' : (c == 0) = false := beq_eq_false_iff_ne.2 hc
  simp [floorN, floorE, hc', h]
end

end Go.Proofs.YtfkmhhbpomkakaaGreat.Wide
