/- Several texts in one: WO2z1, WP2z1. -/
import Derived.Test.YtegmkkpdckolkaaQC22
namespace Go.Proofs.Ytegmkkpdckolkaa.Wide

section
open Go Go.Dt Go.Proofs

def s1 (P : Program) (fn : Func) : VS := Go.Dt.go P (afterCall (Go.Dt.go P (entry fn [DI 5, .int .i64 17] [])) (DI 5))
def s2 (P : Program) (fn : Func) : VS := afterCall (Go.Dt.go P (afterCall (s1 P fn) (DI 17))) (DI 17)
/-! ### The end -/
def acc (n d : Int) : Int := IntKind.i64.wrap (IntKind.i64.wrap (n * 65536) + d)
/-- What the reference's Floor gives. -/
def rfloorN (z b : Int) : Int := bif (decide (z < 0) == decide (b < 0)) && decide (z.natAbs / b.natAbs ≥ 170141183460469231731687303715884105728) then 0 else IntKind.i64.wrap (z.fdiv b)

end

section
open Go Go.Dt Go.Proofs

theorem rfloorN_fits {z b : Int} (h : fits (z.fdiv b) = true) (hb : b ≠ 0) : rfloorN z b = z.fdiv b := by
  have hf := h
  simp only [fits, Bool.and_eq_true, decide_eq_true_eq] at hf
  have hF := fdiv_amounts (z := z) hb
  have hw : IntKind.i64.wrap (z.fdiv b) = z.fdiv b := wrap_i64_of hf.1 hf.2
  unfold rfloorN
  rw [hw]
  cases hs : (decide (z < 0) == decide (b < 0)) with
  | false => rfl
  | true =>
    rw [hs, if_pos rfl] at hF
    have : ¬ (z.natAbs / b.natAbs ≥ 170141183460469231731687303715884105728) := by
      rw [hF] at hf
      omega
    simp [this]

theorem mul_range {a b : Int} (a1 : -9223372036854775808 ≤ a) (a2 : a ≤ 9223372036854775807) (b1 : -9223372036854775808 ≤ b) (b2 : b ≤ 9223372036854775807) :
    -85070591730234615865843651857942052864 ≤ a * b ∧ a * b ≤ 85070591730234615865843651857942052864 := by
  have h : (a * b).natAbs ≤ 9223372036854775808 * 9223372036854775808 := by
    rw [Int.natAbs_mul]
    exact Nat.mul_le_mul (by omega) (by omega)
  omega

theorem c_mulDiv (a b c : Int) (a1 : -9223372036854775808 ≤ a) (a2 : a ≤ 9223372036854775807) (b1 : -9223372036854775808 ≤ b) (b2 : b ≤ 9223372036854775807) (c1 : -9223372036854775808 ≤ c) (c2 : c ≤ 9223372036854775807) :
    Con Try.prog 84 [.int .i64 a, .int .i64 b, .int .i64 c] (.tuple ⟨[.int .i64 (floorN (a * b) c), .int .i64 (floorE (a * b) c)]⟩) := by
  have hm := mul_range a1 a2 b1 b2
  have cm : Con Try.prog 86 [.int .i64 a, .int .i64 b] (WI (a * b)) := Con.of Try.func86 rfl rfl (mul_ a b a1 a2 b1 b2)
  exact Con.run Try.func84 (by kernel_rfl) rfl <| R.call mixed cm (by kernel_rfl) <| R.call mixed (c_floor (a * b) c (by omega) (by omega) c1 c2) (by kernel_rfl) <| R.fin mixed Try.func84 (by kernel_rfl)

theorem mulDiv_in {z c : Int} (hc : c ≠ 0) (h : fits (z.fdiv c) = true) : floorN z c = z.fdiv c ∧ floorE z c = 0 := by
  have hc' : (c == 0) = false := beq_eq_false_iff_ne.2 hc
  simp [floorN, floorE, hc', h]
end

end Go.Proofs.Ytegmkkpdckolkaa.Wide
