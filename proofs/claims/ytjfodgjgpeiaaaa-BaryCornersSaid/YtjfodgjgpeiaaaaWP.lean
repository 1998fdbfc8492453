/- WideFloors, WideDivs: the walks. -/
import Derived.Test.YtjfodgjgpeiaaaaWO
namespace Go.Proofs.Ytjfodgjgpeiaaaa.Wide
open Go Go.Dt Go.Proofs

theorem rfloorN_fits {z b : Int} (h : fits (z.fdiv b) = true) (hb : b ≠ 0) : rfloorN z b = z.fdiv b := by
  have hf := h
  simp only [fits, Bool.and_eq_true, decide_eq_true_eq] at hf
  have hF := fdiv_amounts (z := z) hb
  have hw : IntKind.i64.wrap (z.fdiv b) = z.fdiv b := wrap_i64_of hf.1 hf.2
  unfold rfloorN
  rw [hw]
  cases hs : (decide (z < 0) == decide (b < 0)) with
  | false => rfl
  | true =>
    rw [hs, if_pos rfl] at hF
    have : ¬ (z.natAbs / b.natAbs ≥ 170141183460469231731687303715884105728) := by
      rw [hF] at hf
      omega
    simp [this]

theorem floors_ (h l b : Int) (h1 : -9223372036854775808 ≤ h) (h2 : h ≤ 9223372036854775807) (l1 : 0 ≤ l) (l2 : l ≤ 18446744073709551615) (b1 : -9223372036854775808 ≤ b) (b2 : b ≤ 9223372036854775807) :
    FnEq Try.prog 8 [.int .i64 h, .int .u64 l, .int .i64 b] [] (.bool true) [] := by
  refine FnEq.run Try.func8 rfl rfl ?_
  have t1 := c_two h l h1 h2 l1 l2
  have t2 : Con Try.prog 34 [.int .i64 h, .int .u64 l] (DI (h * 18446744073709551616 + l)) := Con.of Try.func34 rfl rfl (two_ h l h1 h2 l1 l2)
  have z1 : -170141183460469231731687303715884105728 ≤ h * 18446744073709551616 + l := by omega
  have z2 : h * 18446744073709551616 + l ≤ 170141183460469231731687303715884105727 := by omega
  generalize h * 18446744073709551616 + l = z at *
  have cf := c_floor z b z1 z2 b1 b2
  refine R.call mixed t1 (by kernel_rfl) ?_
  rcases Decidable.em (b = 0) with hb | hb
  · have cf' : Con Try.prog 31 [WI z, .int .i64 b] (.tuple ⟨[.int .i64 0, .int .i64 2]⟩) := cf.val rfl (by simp [floorN, floorE, hb])
    exact R.call mixed cf' (by kernel_rfl) <| R.cond mixed 12 (b == 0) true (by simp [hb]) (by kernel_rfl) <| R.call mixed c_awake (by kernel_rfl) <| R.fin mixed Try.func8 (by kernel_rfl)
  · have hb' : (b == 0) = false := beq_eq_false_iff_ne.2 hb
    have cr := c_rfloor z b z1 z2 b1 b2 hb
    cases hf : fits (z.fdiv b) with
    | false =>
      rw [hf] at cr
      have cf' : Con Try.prog 31 [WI z, .int .i64 b] (.tuple ⟨[.int .i64 0, .int .i64 3]⟩) := cf.val rfl (by simp [floorN, floorE, hb', hf])
      exact R.call mixed cf' (by kernel_rfl) <| R.cond mixed 12 (b == 0) false hb' (by kernel_rfl) <| R.call mixed t2 (by kernel_rfl) <| R.call mixed cr (by kernel_rfl) <| R.call mixed c_awake (by kernel_rfl) <| R.fin mixed Try.func8 (by kernel_rfl)
    | true =>
      rw [hf, rfloorN_fits hf hb] at cr
      have cf' : Con Try.prog 31 [WI z, .int .i64 b] (.tuple ⟨[.int .i64 (z.fdiv b), .int .i64 0]⟩) := cf.val rfl (by simp [floorN, floorE, hb', hf])
      exact R.call mixed cf' (by kernel_rfl) <| R.cond mixed 12 (b == 0) false hb' (by kernel_rfl) <| R.call mixed t2 (by kernel_rfl) <| R.call mixed cr (by kernel_rfl) <|
        R.guardIs mixed 20 (z.fdiv b == z.fdiv b) true (by simp) (by kernel_rfl) <| R.call mixed c_awake (by kernel_rfl) <| R.fin mixed Try.func8 (by kernel_rfl)

theorem mul_range {a b : Int} (a1 : -9223372036854775808 ≤ a) (a2 : a ≤ 9223372036854775807) (b1 : -9223372036854775808 ≤ b) (b2 : b ≤ 9223372036854775807) :
    -85070591730234615865843651857942052864 ≤ a * b ∧ a * b ≤ 85070591730234615865843651857942052864 := by
  have h : (a * b).natAbs ≤ 9223372036854775808 * 9223372036854775808 := by
    rw [Int.natAbs_mul]
    exact Nat.mul_le_mul (by omega) (by omega)
  omega

theorem c_mulDiv (a b c : Int) (a1 : -9223372036854775808 ≤ a) (a2 : a ≤ 9223372036854775807) (b1 : -9223372036854775808 ≤ b) (b2 : b ≤ 9223372036854775807) (c1 : -9223372036854775808 ≤ c) (c2 : c ≤ 9223372036854775807) :
    Con Try.prog 35 [.int .i64 a, .int .i64 b, .int .i64 c] (.tuple ⟨[.int .i64 (floorN (a * b) c), .int .i64 (floorE (a * b) c)]⟩) := by
  have hm := mul_range a1 a2 b1 b2
  have cm : Con Try.prog 40 [.int .i64 a, .int .i64 b] (WI (a * b)) := Con.of Try.func40 rfl rfl (mul_ a b a1 a2 b1 b2)
  exact Con.run Try.func35 (by kernel_rfl) rfl <| R.call mixed cm (by kernel_rfl) <| R.call mixed (c_floor (a * b) c (by omega) (by omega) c1 c2) (by kernel_rfl) <| R.fin mixed Try.func35 (by kernel_rfl)

theorem c_rmulDiv (a b c : Int) (a1 : -9223372036854775808 ≤ a) (a2 : a ≤ 9223372036854775807) (b1 : -9223372036854775808 ≤ b) (b2 : b ≤ 9223372036854775807) (c1 : -9223372036854775808 ≤ c) (c2 : c ≤ 9223372036854775807) (hc : c ≠ 0) :
    Con Try.prog 36 [.int .i64 a, .int .i64 b, .int .i64 c] (.tuple ⟨[.int .i64 (rfloorN (a * b) c), .bool (fits ((a * b).fdiv c))]⟩) := by
  have hm := mul_range a1 a2 b1 b2
  have cm : Con Try.prog 41 [DI a, DI b] (DI (a * b)) := Con.of Try.func41 rfl rfl (rmul_ a b)
  exact Con.run Try.func36 (by kernel_rfl) rfl <| R.call mixed (c_rof a a1 a2) (by kernel_rfl) <| R.call mixed (c_rof b b1 b2) (by kernel_rfl) <| R.call mixed cm (by kernel_rfl) <|
    R.call mixed (c_rfloor (a * b) c (by omega) (by omega) c1 c2 hc) (by kernel_rfl) <| R.fin mixed Try.func36 (by kernel_rfl)

theorem mulDiv_zero {z : Int} : floorN z 0 = 0 ∧ floorE z 0 = 2 := ⟨rfl, rfl⟩
theorem mulDiv_in {z c : Int} (hc : c ≠ 0) (h : fits (z.fdiv c) = true) : floorN z c = z.fdiv c ∧ floorE z c = 0 := by
  have hc' : (c == 0) = false := beq_eq_false_iff_ne.2 hc
  simp [floorN, floorE, hc', h]
theorem mulDiv_out {z c : Int} (hc : c ≠ 0) (h : fits (z.fdiv c) = false) : floorN z c = 0 ∧ floorE z c = 3 := by
  have hc' : (c == 0) = false := beq_eq_false_iff_ne.2 hc
  simp [floorN, floorE, hc', h]

theorem divs_ (a b c : Int) (a1 : -9223372036854775808 ≤ a) (a2 : a ≤ 9223372036854775807) (b1 : -9223372036854775808 ≤ b) (b2 : b ≤ 9223372036854775807) (c1 : -9223372036854775808 ≤ c) (c2 : c ≤ 9223372036854775807) :
    FnEq Try.prog 9 [.int .i64 a, .int .i64 b, .int .i64 c] [] (.bool true) [] := by
  refine FnEq.run Try.func9 rfl rfl ?_
  have m1 := c_mulDiv a b b a1 a2 b1 b2 b1 b2
  have m2 := c_mulDiv a b c a1 a2 b1 b2 c1 c2
  have m3 := c_rmulDiv a b c a1 a2 b1 b2 c1 c2
  rcases Decidable.em (b = 0) with hb | hb
  · subst hb
    have m1' : Con Try.prog 35 [.int .i64 a, .int .i64 0, .int .i64 0] (.tuple ⟨[.int .i64 0, .int .i64 2]⟩) := m1
    refine R.call mixed m1' (by kernel_rfl) ?_
    rcases Decidable.em (c = 0) with hc | hc
    · subst hc
      have m2' : Con Try.prog 35 [.int .i64 a, .int .i64 0, .int .i64 0] (.tuple ⟨[.int .i64 0, .int .i64 2]⟩) := m2
      exact R.call mixed m2' (by kernel_rfl) <| R.call mixed c_awake (by kernel_rfl) <| R.fin mixed Try.func9 (by kernel_rfl)
    · have hc' : (c == 0) = false := beq_eq_false_iff_ne.2 hc
      have m3' := m3 hc
      have e0 : a * 0 = 0 := Int.mul_zero a
      have ef : fits ((0 : Int).fdiv c) = true := by rw [Int.zero_fdiv]; rfl
      rw [e0] at m2 m3'
      rw [ef, rfloorN_fits ef hc, Int.zero_fdiv] at m3'
      rw [(mulDiv_in hc ef).1, (mulDiv_in hc ef).2, Int.zero_fdiv] at m2
      exact R.call mixed m2 (by kernel_rfl) <| R.cond mixed 41 (c == 0) false hc' (by kernel_rfl) <| R.call mixed m3' (by kernel_rfl) <| R.call mixed c_awake (by kernel_rfl) <| R.fin mixed Try.func9 (by kernel_rfl)
  · have hb' : (b == 0) = false := beq_eq_false_iff_ne.2 hb
    have hbn : (b != 0) = true := by simp [bne, hb']
    have ea : (a * b).fdiv b = a := Int.mul_fdiv_cancel a hb
    have ef : fits ((a * b).fdiv b) = true := by rw [ea]; simp [fits]; omega
    rw [(mulDiv_in hb ef).1, (mulDiv_in hb ef).2, ea] at m1
    refine R.call mixed m1 (by kernel_rfl) ?_
    rcases Decidable.em (c = 0) with hc | hc
    · subst hc
      have m2' : Con Try.prog 35 [.int .i64 a, .int .i64 b, .int .i64 0] (.tuple ⟨[.int .i64 0, .int .i64 2]⟩) := m2
      exact R.call mixed m2' (by kernel_rfl) <| R.guardIs mixed 12 (b != 0) true hbn (by kernel_rfl) <| R.guardIs mixed 4 (a != a) false (by simp) (by kernel_rfl) <| R.guardIs mixed 8 (b == 0) false hb' (by kernel_rfl) <|
        R.call mixed c_awake (by kernel_rfl) <| R.fin mixed Try.func9 (by kernel_rfl)
    · have hc' : (c == 0) = false := beq_eq_false_iff_ne.2 hc
      have m3' := m3 hc
      cases hf : fits ((a * b).fdiv c) with
      | false =>
        rw [hf] at m3'
        rw [(mulDiv_out hc hf).1, (mulDiv_out hc hf).2] at m2
        exact R.call mixed m2 (by kernel_rfl) <| R.guardIs mixed 12 (b != 0) true hbn (by kernel_rfl) <| R.guardIs mixed 4 (a != a) false (by simp) (by kernel_rfl) <| R.guardIs mixed 8 (b == 0) false hb' (by kernel_rfl) <|
          R.cond mixed 17 (c == 0) false hc' (by kernel_rfl) <| R.call mixed m3' (by kernel_rfl) <| R.call mixed c_awake (by kernel_rfl) <| R.fin mixed Try.func9 (by kernel_rfl)
      | true =>
        rw [hf, rfloorN_fits hf hc] at m3'
        rw [(mulDiv_in hc hf).1, (mulDiv_in hc hf).2] at m2
        exact R.call mixed m2 (by kernel_rfl) <| R.guardIs mixed 12 (b != 0) true hbn (by kernel_rfl) <| R.guardIs mixed 4 (a != a) false (by simp) (by kernel_rfl) <| R.guardIs mixed 8 (b == 0) false hb' (by kernel_rfl) <|
          R.cond mixed 17 (c == 0) false hc' (by kernel_rfl) <| R.call mixed m3' (by kernel_rfl) <| R.guardIs mixed 20 ((a * b).fdiv c == (a * b).fdiv c) true (by simp) (by kernel_rfl) <|
          R.call mixed c_awake (by kernel_rfl) <| R.fin mixed Try.func9 (by kernel_rfl)

end Go.Proofs.Ytjfodgjgpeiaaaa.Wide
