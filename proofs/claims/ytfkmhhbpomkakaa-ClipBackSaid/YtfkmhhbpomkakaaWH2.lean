/- Long division by trial digits: the plain law. -/
import Derived.Test.YtfkmhhbpomkakaaWD2
namespace Go.Proofs.Ytfkmhhbpomkakaa.Wide
open Go Go.Dt Go.Proofs

theorem quot_of {N Y q : Int} (hY : 0 < Y) (h1 : q * Y ≤ N) (h2 : N < (q + 1) * Y) : N / Y = q :=
  Int.le_antisymm (Int.lt_add_one_iff.1 (Int.ediv_lt_of_lt_mul hY h2)) (Int.le_ediv_of_mul_le hY h1)

/-- What is known of a trial digit: what it leaves, and that it is not too small. -/
structure Tri (y1 y0 u u1 q r : Int) : Prop where
  rest : r + q * y1 = u
  big : u * 4294967296 + u1 < (q + 1) * (y1 * 4294967296 + y0)

theorem split_mul (q y1 y0 : Int) : q * (y1 * 4294967296 + y0) = q * y1 * 4294967296 + q * y0 := by rw [Int.mul_add, Int.mul_assoc]

theorem Tri.start {y1 y0 u u1 : Int} (h1 : 0 < y1) (h0 : 0 ≤ y0) (hu : 0 ≤ u) (hu1 : u1 < 4294967296) : Tri y1 y0 u u1 (u / y1) (u - u / y1 * y1) where
  rest := by omega
  big := by
    have e := Int.mul_ediv_add_emod u y1
    have e2 := Int.emod_lt_of_pos u h1
    rw [split_mul, Int.add_mul (u / y1) 1 y1, Int.add_mul (u / y1) 1 y0, Int.one_mul, Int.one_mul]
    have : 0 ≤ u / y1 * y0 := Int.mul_nonneg (Int.ediv_nonneg hu (by omega)) h0
    rw [Int.mul_comm (u / y1) y1]
    generalize y1 * (u / y1) = p at *
    omega

theorem Tri.less {y1 y0 u u1 q r : Int} (h : Tri y1 y0 u u1 q r) (hc : r * 4294967296 + u1 < q * y0) : Tri y1 y0 u u1 (q - 1) (r + y1) where
  rest := by
    have := h.rest
    rw [Int.sub_mul, Int.one_mul]
    omega
  big := by
    have := h.rest
    rw [show q - 1 + 1 = q by omega, split_mul]
    omega

theorem Tri.huge {y1 y0 u u1 q r : Int} (h : Tri y1 y0 u u1 q r) (hu : u < y1 * 4294967296 + y0) (hY : 0 ≤ y1 * 4294967296 + y0) (hu1 : u1 < 4294967296) (hc : 4294967296 ≤ q) : Tri y1 y0 u u1 (q - 1) (r + y1) where
  rest := by
    have := h.rest
    rw [Int.sub_mul, Int.one_mul]
    omega
  big := by
    rw [show q - 1 + 1 = q by omega]
    have := Int.mul_le_mul_of_nonneg_right hc hY
    omega

theorem Tri.exact {y1 y0 u u1 q r : Int} (h : Tri y1 y0 u u1 q r) (hY : 0 < y1 * 4294967296 + y0) (hc : q * y0 ≤ r * 4294967296 + u1) : q = (u * 4294967296 + u1) / (y1 * 4294967296 + y0) := by
  refine (quot_of hY ?_ h.big).symm
  have := h.rest
  rw [split_mul]
  omega

theorem Tri.wide {y1 y0 u u1 q r : Int} (h : Tri y1 y0 u u1 q r) (hY : 0 < y1 * 4294967296 + y0) (h0 : 0 ≤ y0) (h02 : y0 < 4294967296) (hu1 : 0 ≤ u1) (hq : q ≤ 4294967296) (hr : 4294967296 ≤ r) : q = (u * 4294967296 + u1) / (y1 * 4294967296 + y0) := by
  refine h.exact hY ?_
  have := Int.mul_le_mul_of_nonneg_right hq h0
  omega

/-- Two digits, one behind the other. -/
theorem two_digits {U Y u1 u0 a : Int} (hY : 0 < Y) (hU : U = (a * 4294967296 + u1) * 4294967296 + u0) :
    U / Y = (a * 4294967296 + u1) / Y * 4294967296 + ((a * 4294967296 + u1) % Y * 4294967296 + u0) / Y ∧ U % Y = ((a * 4294967296 + u1) % Y * 4294967296 + u0) % Y := by
  generalize hM : a * 4294967296 + u1 = M at *
  have e := Int.mul_ediv_add_emod M Y
  have e2 : U = M % Y * 4294967296 + u0 + Y * (M / Y * 4294967296) := by
    rw [hU, ← Int.mul_assoc]
    generalize Y * (M / Y) = p at *
    omega
  rw [e2, Int.add_mul_ediv_left _ _ (by omega), Int.add_mul_emod_self_left]
  exact ⟨by omega, rfl⟩

/-- Digits below one another. -/
theorem or_add {a b : Int} {s : Nat} (hb : 0 ≤ b) (hb2 : b < 2 ^ s) (ha : 0 ≤ a) (h1 : a * 2 ^ s + b ≤ 18446744073709551615) :
    IntKind.u64.wrap ↑(BitVec.ofInt 64 (a * 2 ^ s) ||| BitVec.ofInt 64 b).toNat = a * 2 ^ s + b := by
  obtain ⟨A, rfl⟩ := Int.eq_ofNat_of_zero_le ha
  obtain ⟨B, rfl⟩ := Int.eq_ofNat_of_zero_le hb
  have hB : B < 2 ^ s := by
    have : ((B : Nat) : Int) < ((2 ^ s : Nat) : Int) := by simpa using hb2
    omega
  have e1 : ((A : Int) * 2 ^ s) = ((2 ^ s * A : Nat) : Int) := by simp [Int.mul_comm]
  rw [e1] at h1
  rw [e1]
  have eo := Nat.two_pow_add_eq_or_of_lt hB A
  generalize 2 ^ s * A = M at *
  rw [BitVec.toNat_or]
  have t1 : (BitVec.ofInt 64 (M : Int)).toNat = M := by
    simp only [BitVec.toNat_ofInt]
    omega
  have t2 : (BitVec.ofInt 64 (B : Int)).toNat = B := by
    simp only [BitVec.toNat_ofInt]
    omega
  rw [t1, t2, ← eo, wrap_u64]
  omega

end Go.Proofs.Ytfkmhhbpomkakaa.Wide
