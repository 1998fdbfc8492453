/- Package wide and its reference: numbers and digits as values; sums, negatives, comparisons. -/
import Derived.Test.YtfkmhhbpomkakaaDt14
import Derived.Test.YtfkmhhbpomkakaaProg
namespace Go.Proofs.Ytfkmhhbpomkakaa.Wide
open Go Go.Dt Go.Proofs

theorem mixed : Try.prog.follows .mixedOrders = true := by kernel_rfl

/-- A wide number, modulo 2^128. -/
def WI (z : Int) : Value := .agg #[.int .i64 (IntKind.i64.wrap (z / 18446744073709551616)), .int .u64 (z % 18446744073709551616)]
/-- Its digits to the base 2^16. -/
def DI (z : Int) : Value := .agg #[.int .i64 (z % 65536), .int .i64 (z / 65536 % 65536), .int .i64 (z / 4294967296 % 65536), .int .i64 (z / 281474976710656 % 65536),
  .int .i64 (z / 18446744073709551616 % 65536), .int .i64 (z / 1208925819614629174706176 % 65536), .int .i64 (z / 79228162514264337593543950336 % 65536), .int .i64 (z / 5192296858534827628530496329220096 % 65536)]

theorem plain_WI (z : Int) : plain (WI z) = true := rfl
theorem plain_DI (z : Int) : plain (DI z) = true := rfl

/-- Two halves, as a number. -/
theorem WI_two {h l : Int} (h1 : -9223372036854775808 ≤ h) (h2 : h ≤ 9223372036854775807) (l1 : 0 ≤ l) (l2 : l ≤ 18446744073709551615) : WI (h * 18446744073709551616 + l) = .agg #[.int .i64 h, .int .u64 l] := by
  unfold WI
  have e1 : (h * 18446744073709551616 + l) / 18446744073709551616 = h := by omega
  have e2 : (h * 18446744073709551616 + l) % 18446744073709551616 = l := by omega
  rw [e1, e2, wrap_i64_of h1 h2]

theorem WI_mod {a b : Int} (h : a % 340282366920938463463374607431768211456 = b % 340282366920938463463374607431768211456) : WI a = WI b := by
  unfold WI
  have e1 : a % 18446744073709551616 = b % 18446744073709551616 := by omega
  have e2 : IntKind.i64.wrap (a / 18446744073709551616) = IntKind.i64.wrap (b / 18446744073709551616) := by
    rw [IntKind.wrap_i64, IntKind.wrap_i64]; omega
  rw [e1, e2]

end Go.Proofs.Ytfkmhhbpomkakaa.Wide
