/- The reference's bits, amounts, and its quotients bit by bit. -/
import Derived.Test.YtfkmhhbpomkakaaWM2
namespace Go.Proofs.Ytfkmhhbpomkakaa.Wide
open Go Go.Dt Go.Proofs

def d8 (z : Int) : Blk := .cells [.int .i64 (z % 65536), .int .i64 (z / 65536 % 65536), .int .i64 (z / 4294967296 % 65536), .int .i64 (z / 281474976710656 % 65536), .int .i64 (z / 18446744073709551616 % 65536), .int .i64 (z / 1208925819614629174706176 % 65536), .int .i64 (z / 79228162514264337593543950336 % 65536), .int .i64 (z / 5192296858534827628530496329220096 % 65536)] 0 true

/-! ### Bits -/
def LB (P : Program) (fn : Func) (z k n i : Int) : VS := putM [d8 z] (puts [(1, .int .i64 k), (5, .int .i64 n), (6, .int .i64 i)] (keepS [] (vadv P 20 (entry fn [DI 0, .int .i64 17] []))))

theorem pow_half (n : Int) (m : Nat) : n / 2 / 2 ^ m = n / 2 ^ (m + 1) := by
  rw [Int.ediv_ediv_of_nonneg (by omega), Int.pow_succ, Int.mul_comm]

theorem bit_loop (z k : Int) (k0 : 0 ≤ k) (k1 : k ≤ 127) : ∀ (m : Nat) (n i : Int), 0 ≤ n → n ≤ 65535 → 0 ≤ i → i + m = k % 16 → RunsE Try.prog 157 0 (LB Try.prog Try.f157 z k n i) (.int .i64 (n / 2 ^ m % 2))
  | 0, n, i, n0, n1, i0, h => by
    have e : k.tmod 16 = k % 16 := tmod_pos k0
    rw [Int.pow_zero, Int.ediv_one, ← tmod_pos n0]
    exact R.cond mixed 8 (decide (i < k.tmod 16)) false (by rw [e]; simp; omega) (by kernel_rfl) <| R.fin mixed Try.func157 (by kernel_rfl)
  | m + 1, n, i, n0, n1, i0, h => by
    have e : k.tmod 16 = k % 16 := tmod_pos k0
    refine R.cond mixed 8 (decide (i < k.tmod 16)) true (by rw [e]; simp; omega) (by kernel_rfl) <|
      R.at mixed 15 [1, 5, 6] (st := LB Try.prog Try.f157 z k (IntKind.i64.wrap (n.tdiv 2)) (IntKind.i64.wrap (i + 1))) (by kernel_rfl) ?_
    rw [tdiv_pos n0, wrap_i64_of (n := n / 2) (by omega) (by omega), wrap_i64_of (n := i + 1) (by omega) (by omega), ← pow_half]
    exact bit_loop z k k0 k1 m (n / 2) (i + 1) (by omega) (by omega) (by omega) (by omega)

theorem low_bit (x : Int) (i : Nat) (h : i < 16) : x % 65536 / 2 ^ i % 2 = x / 2 ^ i % 2 := by
  have : i = 0 ∨ i = 1 ∨ i = 2 ∨ i = 3 ∨ i = 4 ∨ i = 5 ∨ i = 6 ∨ i = 7 ∨ i = 8 ∨ i = 9 ∨ i = 10 ∨ i = 11 ∨ i = 12 ∨ i = 13 ∨ i = 14 ∨ i = 15 := by omega
  rcases this with rfl | rfl | rfl | rfl | rfl | rfl | rfl | rfl | rfl | rfl | rfl | rfl | rfl | rfl | rfl | rfl <;> omega

theorem digit_bit (z k p : Int) (j : Nat) (hk : k / 16 = j) (k0 : 0 ≤ k) (hp : (2 : Int) ^ (16 * j) = p) : z / p % 65536 / 2 ^ (k % 16).toNat % 2 = z / 2 ^ k.toNat % 2 := by
  have hp0 : 0 ≤ p := by rw [← hp]; exact Int.le_of_lt (Int.pow_pos (by omega))
  rw [low_bit _ _ (by omega), Int.ediv_ediv_of_nonneg hp0, ← hp, ← Int.pow_add]
  congr 3
  omega

theorem c_bit (z k : Int) (k0 : 0 ≤ k) (k1 : k ≤ 127) : Con Try.prog 157 [DI z, .int .i64 k] (.int .i64 (z / 2 ^ k.toNat % 2)) := by
  refine Con.run Try.func157 (by kernel_rfl) rfl ?_
  have e : IntKind.i64.wrap (k.tdiv 16) = k / 16 := by rw [tdiv_pos k0, wrap_i64_of (by omega) (by omega)]
  have go_ : ∀ (n : Int), 0 ≤ n → n ≤ 65535 → RunsE Try.prog 157 0 (LB Try.prog Try.f157 z k n 0) (.int .i64 (n / 2 ^ (k % 16).toNat % 2)) := fun n n0 n1 => bit_loop z k k0 k1 _ n 0 n0 n1 (by omega) (by omega)
  have hj : k / 16 = (0 : Nat) ∨ k / 16 = (1 : Nat) ∨ k / 16 = (2 : Nat) ∨ k / 16 = (3 : Nat) ∨ k / 16 = (4 : Nat) ∨ k / 16 = (5 : Nat) ∨ k / 16 = (6 : Nat) ∨ k / 16 = (7 : Nat) := by omega
  rcases hj with h | h | h | h | h | h | h | h
  · rw [← digit_bit z k 1 0 h k0 (by decide)]
    refine R.spell mixed 9 8 (.int .i64 (IntKind.i64.wrap (k.tdiv 16))) (.int .i64 0) (by rw [e, h]; rfl) (by kernel_rfl) <| R.at mixed 11 [1, 5, 6] (st := LB Try.prog Try.f157 z k (z % 65536) 0) (by kernel_rfl) ?_
    rw [Int.ediv_one]
    exact go_ _ (by omega) (by omega)
  · rw [← digit_bit z k 65536 1 h k0 (by decide)]
    exact R.spell mixed 9 8 (.int .i64 (IntKind.i64.wrap (k.tdiv 16))) (.int .i64 1) (by rw [e, h]; rfl) (by kernel_rfl) <| R.at mixed 11 [1, 5, 6] (st := LB Try.prog Try.f157 z k (z / 65536 % 65536) 0) (by kernel_rfl) (go_ _ (by omega) (by omega))
  · rw [← digit_bit z k 4294967296 2 h k0 (by decide)]
    exact R.spell mixed 9 8 (.int .i64 (IntKind.i64.wrap (k.tdiv 16))) (.int .i64 2) (by rw [e, h]; rfl) (by kernel_rfl) <| R.at mixed 11 [1, 5, 6] (st := LB Try.prog Try.f157 z k (z / 4294967296 % 65536) 0) (by kernel_rfl) (go_ _ (by omega) (by omega))
  · rw [← digit_bit z k 281474976710656 3 h k0 (by decide)]
    exact R.spell mixed 9 8 (.int .i64 (IntKind.i64.wrap (k.tdiv 16))) (.int .i64 3) (by rw [e, h]; rfl) (by kernel_rfl) <| R.at mixed 11 [1, 5, 6] (st := LB Try.prog Try.f157 z k (z / 281474976710656 % 65536) 0) (by kernel_rfl) (go_ _ (by omega) (by omega))
  · rw [← digit_bit z k 18446744073709551616 4 h k0 (by decide)]
    exact R.spell mixed 9 8 (.int .i64 (IntKind.i64.wrap (k.tdiv 16))) (.int .i64 4) (by rw [e, h]; rfl) (by kernel_rfl) <| R.at mixed 11 [1, 5, 6] (st := LB Try.prog Try.f157 z k (z / 18446744073709551616 % 65536) 0) (by kernel_rfl) (go_ _ (by omega) (by omega))
  · rw [← digit_bit z k 1208925819614629174706176 5 h k0 (by decide)]
    exact R.spell mixed 9 8 (.int .i64 (IntKind.i64.wrap (k.tdiv 16))) (.int .i64 5) (by rw [e, h]; rfl) (by kernel_rfl) <| R.at mixed 11 [1, 5, 6] (st := LB Try.prog Try.f157 z k (z / 1208925819614629174706176 % 65536) 0) (by kernel_rfl) (go_ _ (by omega) (by omega))
  · rw [← digit_bit z k 79228162514264337593543950336 6 h k0 (by decide)]
    exact R.spell mixed 9 8 (.int .i64 (IntKind.i64.wrap (k.tdiv 16))) (.int .i64 6) (by rw [e, h]; rfl) (by kernel_rfl) <| R.at mixed 11 [1, 5, 6] (st := LB Try.prog Try.f157 z k (z / 79228162514264337593543950336 % 65536) 0) (by kernel_rfl) (go_ _ (by omega) (by omega))
  · rw [← digit_bit z k 5192296858534827628530496329220096 7 h k0 (by decide)]
    exact R.spell mixed 9 8 (.int .i64 (IntKind.i64.wrap (k.tdiv 16))) (.int .i64 7) (by rw [e, h]; rfl) (by kernel_rfl) <| R.at mixed 11 [1, 5, 6] (st := LB Try.prog Try.f157 z k (z / 5192296858534827628530496329220096 % 65536) 0) (by kernel_rfl) (go_ _ (by omega) (by omega))

/-! ### Amounts -/
theorem sg_of {z : Int} (z1 : -170141183460469231731687303715884105728 ≤ z) (z2 : z ≤ 170141183460469231731687303715884105727) : sg z = z := by unfold sg; omega

theorem c_ramount (z : Int) (z1 : -170141183460469231731687303715884105728 ≤ z) (z2 : z ≤ 170141183460469231731687303715884105727) : Con Try.prog 155 [DI z] (DI z.natAbs) := by
  refine Con.run Try.func155 (by kernel_rfl) rfl ?_
  have e := sg_of z1 z2
  refine R.call mixed (below_ z) (by kernel_rfl) ?_
  rcases Decidable.em (z < 0) with hz | hz
  · rw [show ((z.natAbs : Int)) = -z by omega]
    exact R.cond mixed 1 (decide (sg z < 0)) true (by rw [e]; exact decide_eq_true hz) (by kernel_rfl) <| R.call mixed (c_rneg z) (by kernel_rfl) <| R.fin mixed Try.func155 (by kernel_rfl)
  · rw [show ((z.natAbs : Int)) = z by omega]
    exact R.cond mixed 1 (decide (sg z < 0)) false (by rw [e]; exact decide_eq_false hz) (by kernel_rfl) <| R.fin mixed Try.func155 (by kernel_rfl)

end Go.Proofs.Ytfkmhhbpomkakaa.Wide
