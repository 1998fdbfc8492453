/- Several texts in one: WD2y, WH2y, WJ2y. -/
import Derived.Test.YtfkmhhbpomkakaaGreatQF19
import Derived.Test.YtfkmhhbpomkakaaGreatQF11
namespace Go.Proofs.YtfkmhhbpomkakaaGreat.Wide

section
open Go Go.Dt Go.Proofs

/-! ### wide.Mul -/
theorem natAbs_mul_cases (a b : Int) : (a < 0 ↔ b < 0) ∧ (a.natAbs : Int) * b.natAbs = a * b ∨ ¬ (a < 0 ↔ b < 0) ∧ (a.natAbs : Int) * b.natAbs = -(a * b) := by
  rcases (show a < 0 ∨ 0 ≤ a by omega) with ha | ha <;> rcases (show b < 0 ∨ 0 ≤ b by omega) with hb | hb
  · left
    refine ⟨by simp [ha, hb], ?_⟩
    rw [show (a.natAbs : Int) = -a by omega, show (b.natAbs : Int) = -b by omega, Int.neg_mul_neg]
  · right
    refine ⟨by simp [ha, Int.not_lt.2 hb], ?_⟩
    rw [show (a.natAbs : Int) = -a by omega, show (b.natAbs : Int) = b by omega, Int.neg_mul]
  · right
    refine ⟨by simp [hb, Int.not_lt.2 ha], ?_⟩
    rw [show (a.natAbs : Int) = a by omega, show (b.natAbs : Int) = -b by omega, Int.mul_neg]
  · left
    refine ⟨by simp [Int.not_lt.2 ha, Int.not_lt.2 hb], ?_⟩
    rw [show (a.natAbs : Int) = a by omega, show (b.natAbs : Int) = b by omega]

theorem mul_ (a b : Int) (a1 : -9223372036854775808 ≤ a) (a2 : a ≤ 9223372036854775807) (b1 : -9223372036854775808 ≤ b) (b2 : b ≤ 9223372036854775807) : FnEq Tryz.prog 88 [.int .i64 a, .int .i64 b] [] (WI (a * b)) [] := by
  have hc := natAbs_mul_cases a b
  refine FnEq.run Tryz.func88 (by kernel_rfl) rfl <| RunsE.adv mixed 7 <| RunsE.call [.int .i64 a] Tryz.func111 (by kernel_rfl) (by kernel_rfl) rfl (amount_ a a1 a2) <|
    RunsE.adv mixed 1 <| RunsE.call [.int .i64 b] Tryz.func111 (by kernel_rfl) (by kernel_rfl) rfl (amount_ b b1 b2) <|
    RunsE.adv mixed 0 <| RunsE.call [.int .u64 a.natAbs, .int .u64 b.natAbs] Tryz.func110 (by kernel_rfl) (by kernel_rfl) rfl (mul64_ a.natAbs b.natAbs (by omega) (by omega) (by omega) (by omega)) <|
    RunsE.adv mixed 24 <| RunsE.branch (!(decide (a < 0) == decide (b < 0))) (by kernel_rfl) (fun h => ?_) (fun h => ?_)
  · rcases hc with ⟨hc, _⟩ | ⟨_, hp⟩
    · simp [hc] at h
    · have e : WI (a * b) = WI (-((a.natAbs : Int) * b.natAbs)) := by rw [hp, Int.neg_neg]
      rw [e]
      exact RunsE.adv mixed 3 <| RunsE.call [WI ((a.natAbs : Int) * b.natAbs)] Tryz.func112 (by kernel_rfl) (by kernel_rfl) rfl (neg_WI _) <| RunsE.fin mixed Tryz.func88 1002 (by kernel_rfl)
  · rcases hc with ⟨_, hp⟩ | ⟨hc, _⟩
    · rw [← hp]
      exact RunsE.fin mixed Tryz.func88 1006 (by kernel_rfl)
    · exact absurd (by simpa using h) hc

end

section
open Go Go.Dt Go.Proofs

theorem quot_of {N Y q : Int} (hY : 0 < Y) (h1 : q * Y ≤ N) (h2 : N < (q + 1) * Y) : N / Y = q :=
  Int.le_antisymm (Int.lt_add_one_iff.1 (Int.ediv_lt_of_lt_mul hY h2)) (Int.le_ediv_of_mul_le hY h1)

/-- What is known of a trial digit: what it leaves, and that it is not too small. -/
structure Tri (y1 y0 u u1 q r : Int) : Prop where
  rest : r + q * y1 = u
  big : u * 4294967296 + u1 < (q + 1) * (y1 * 4294967296 + y0)

theorem split_mul (q y1 y0 : Int) : q * (y1 * 4294967296 + y0) = q * y1 * 4294967296 + q * y0 := by rw [Int.mul_add, Int.mul_assoc]

theorem Tri.start {y1 y0 u u1 : Int} (h1 : 0 < y1) (h0 : 0 ≤ y0) (hu : 0 ≤ u) (hu1 : u1 < 4294967296) : Tri y1 y0 u u1 (u / y1) (u - u / y1 * y1) where
  rest := by omega
  big := by
    have e := Int.mul_ediv_add_emod u y1
    have e2 := Int.emod_lt_of_pos u h1
    rw [split_mul, Int.add_mul (u / y1) 1 y1, Int.add_mul (u / y1) 1 y0, Int.one_mul, Int.one_mul]
    have : 0 ≤ u / y1 * y0 := Int.mul_nonneg (Int.ediv_nonneg hu (by omega)) h0
    rw [Int.mul_comm (u / y1) y1]
    generalize y1 * (u / y1) = p at *
    omega

theorem Tri.less {y1 y0 u u1 q r : Int} (h : Tri y1 y0 u u1 q r) (hc : r * 4294967296 + u1 < q * y0) : Tri y1 y0 u u1 (q - 1) (r + y1) where
  rest := by
    have := h.rest
    rw [Int.sub_mul, Int.one_mul]
    omega
  big := by
    have := h.rest
    rw [show q - 1 + 1 = q by omega, split_mul]
    omega

theorem Tri.huge {y1 y0 u u1 q r : Int} (h : Tri y1 y0 u u1 q r) (hu : u < y1 * 4294967296 + y0) (hY : 0 ≤ y1 * 4294967296 + y0) (hu1 : u1 < 4294967296) (hc : 4294967296 ≤ q) : Tri y1 y0 u u1 (q - 1) (r + y1) where
  rest := by
    have := h.rest
    rw [Int.sub_mul, Int.one_mul]
    omega
  big := by
    rw [show q - 1 + 1 = q by omega]
    have := Int.mul_le_mul_of_nonneg_right hc hY
    omega

theorem Tri.exact {y1 y0 u u1 q r : Int} (h : Tri y1 y0 u u1 q r) (hY : 0 < y1 * 4294967296 + y0) (hc : q * y0 ≤ r * 4294967296 + u1) : q = (u * 4294967296 + u1) / (y1 * 4294967296 + y0) := by
  refine (quot_of hY ?_ h.big).symm
  have := h.rest
  rw [split_mul]
  omega

theorem Tri.wide {y1 y0 u u1 q r : Int} (h : Tri y1 y0 u u1 q r) (hY : 0 < y1 * 4294967296 + y0) (h0 : 0 ≤ y0) (h02 : y0 < 4294967296) (hu1 : 0 ≤ u1) (hq : q ≤ 4294967296) (hr : 4294967296 ≤ r) : q = (u * 4294967296 + u1) / (y1 * 4294967296 + y0) := by
  refine h.exact hY ?_
  have := Int.mul_le_mul_of_nonneg_right hq h0
  omega

/-- Two digits, one behind the other. -/
theorem two_digits {U Y u1 u0 a : Int} (hY : 0 < Y) (hU : U = (a * 4294967296 + u1) * 4294967296 + u0) :
    U / Y = (a * 4294967296 + u1) / Y * 4294967296 + ((a * 4294967296 + u1) % Y * 4294967296 + u0) / Y ∧ U % Y = ((a * 4294967296 + u1) % Y * 4294967296 + u0) % Y := by
  generalize hM : a * 4294967296 + u1 = M at *
  have e := Int.mul_ediv_add_emod M Y
  have e2 : U = M % Y * 4294967296 + u0 + Y * (M / Y * 4294967296) := by
    rw [hU, ← Int.mul_assoc]
    generalize Y * (M / Y) = p at *
    omega
  rw [e2, Int.add_mul_ediv_left _ _ (by omega), Int.add_mul_emod_self_left]
  exact ⟨by omega, rfl⟩

/-- Digits below one another. -/
theorem or_add {a b : Int} {s : Nat} (hb : 0 ≤ b) (hb2 : b < 2 ^ s) (ha : 0 ≤ a) (h1 : a * 2 ^ s + b ≤ 18446744073709551615) :
    IntKind.u64.wrap ↑(BitVec.ofInt 64 (a * 2 ^ s) ||| BitVec.ofInt 64 b).toNat = a * 2 ^ s + b := by
  obtain ⟨A, rfl⟩ := Int.eq_ofNat_of_zero_le ha
  obtain ⟨B, rfl⟩ := Int.eq_ofNat_of_zero_le hb
  have hB : B < 2 ^ s := by
    have : ((B : Nat) : Int) < ((2 ^ s : Nat) : Int) := by simpa using hb2
    omega
  have e1 : ((A : Int) * 2 ^ s) = ((2 ^ s * A : Nat) : Int) := by simp [Int.mul_comm]
  rw [e1] at h1
  rw [e1]
  have eo := Nat.two_pow_add_eq_or_of_lt hB A
  generalize 2 ^ s * A = M at *
  rw [BitVec.toNat_or]
  have t1 : (BitVec.ofInt 64 (M : Int)).toNat = M := by
    simp only [BitVec.toNat_ofInt]
    omega
  have t2 : (BitVec.ofInt 64 (B : Int)).toNat = B := by
    simp only [BitVec.toNat_ofInt]
    omega
  rw [t1, t2, ← eo, wrap_u64]
  omega

end

section
open Go Go.Dt Go.Proofs

def sA (P : Program) (fn : Func) : VS := afterCall (Go.Dt.go P (entry fn [.int .u64 3, .int .u64 2, .int .u64 (9223372036854775808 + 4294967290)] [])) (.int .i64 0)
def L1 (P : Program) (fn : Func) (Y s y1 y0 u u1 u0 q r : Int) : VS := puts [(2, .int .u64 Y), (8, .int .u64 s), (9, .int .u64 y1), (10, .int .u64 y0), (11, .int .u64 u), (13, .int .u64 u1), (14, .int .u64 u0), (15, .int .u64 q), (16, .int .u64 r)] (keepS [] (vadv P 72 (sA P fn)))
def J1 (P : Program) (fn : Func) (Y s y1 y0 u u1 u0 q : Int) : VS := puts [(2, .int .u64 Y), (8, .int .u64 s), (9, .int .u64 y1), (10, .int .u64 y0), (11, .int .u64 u), (13, .int .u64 u1), (14, .int .u64 u0), (15, .int .u64 q)] (keepS [] (vadv P 91 (sA P fn)))
def K1 (P : Program) (fn : Func) (Y s y1 y0 u0 q1 u : Int) : VS := puts [(2, .int .u64 Y), (8, .int .u64 s), (9, .int .u64 y1), (10, .int .u64 y0), (14, .int .u64 u0), (15, .int .u64 q1), (17, .int .u64 u)] (keepS [] (vadv P 103 (sA P fn)))
def L2 (P : Program) (fn : Func) (Y s y1 y0 u0 q1 u q r : Int) : VS := puts [(2, .int .u64 Y), (8, .int .u64 s), (9, .int .u64 y1), (10, .int .u64 y0), (14, .int .u64 u0), (15, .int .u64 q1), (16, .int .u64 r), (17, .int .u64 u), (18, .int .u64 q)] (keepS [] (vadv P 121 (sA P fn)))
def J2 (P : Program) (fn : Func) (Y s u0 q1 u q : Int) : VS := puts [(2, .int .u64 Y), (8, .int .u64 s), (14, .int .u64 u0), (15, .int .u64 q1), (17, .int .u64 u), (18, .int .u64 q)] (keepS [] (vadv P 2 (goC (vadv P 10 (setG (vadv P 6 (L2 P fn 9223372036854775808 0 2147483648 0 7 5 5 0 0)) false)) false)))


theorem round1 {Y s y1 y0 u u1 u0 q r Q : Int} {v : Value} (eY : Y = y1 * 4294967296 + y0) (b1 : 2147483648 ≤ y1) (b2 : y1 < 4294967296) (b3 : 0 ≤ y0) (b4 : y0 < 4294967296) (c1 : 0 ≤ u) (c2 : u < Y) (d1 : 0 ≤ u1) (d2 : u1 < 4294967296)
    (q1_ : 0 ≤ q) (q2_ : q ≤ 4294967297) (r1_ : 0 ≤ r) (r2_ : r < 4294967296) (T : Tri y1 y0 u u1 q r) (hQ : Q = (u * 4294967296 + u1) / Y) (hJ : RunsE Tryz.prog 113 0 (J1 Tryz.prog Tryz.f113 Y s y1 y0 u u1 u0 Q) v)
    (hL : r + y1 < 4294967296 → Tri y1 y0 u u1 (q - 1) (r + y1) → 0 ≤ q - 1 → RunsE Tryz.prog 113 0 (L1 Tryz.prog Tryz.f113 Y s y1 y0 u u1 u0 (q - 1) (r + y1)) v) : RunsE Tryz.prog 113 0 (L1 Tryz.prog Tryz.f113 Y s y1 y0 u u1 u0 q r) v := by
  have w1 : IntKind.u64.wrap (r + y1) = r + y1 := wrap_u64_of (by omega) (by omega)
  have w2 : 0 ≤ q - 1 → IntKind.u64.wrap (q - 1) = q - 1 := fun h => wrap_u64_of h (by omega)
  refine R.guard mixed 6 (decide (q ≥ 4294967296)) (by kernel_rfl) (fun hg => ?_) (fun hg => ?_)
  · have hg' : 4294967296 ≤ q := by simpa using hg
    have T' := T.huge (by omega) (by omega) d2 hg'
    refine R.branch mixed 31 (decide (IntKind.u64.wrap (r + y1) ≥ 4294967296)) (by kernel_rfl) (fun hb => ?_) (fun hb => ?_)
    · refine R.at mixed 2 [2, 8, 9, 10, 11, 13, 14, 15] (st := J1 Tryz.prog Tryz.f113 Y s y1 y0 u u1 u0 (IntKind.u64.wrap (q - 1))) (by kernel_rfl) ?_
      rw [w1] at hb
      rw [w2 (by omega), T'.wide (by omega) b3 b4 d1 (by omega) (by simpa using hb), ← eY, ← hQ]
      exact hJ
    · refine R.at mixed 3 [2, 8, 9, 10, 11, 13, 14, 15, 16] (st := L1 Tryz.prog Tryz.f113 Y s y1 y0 u u1 u0 (IntKind.u64.wrap (q - 1)) (IntKind.u64.wrap (r + y1))) (by kernel_rfl) ?_
      rw [w1] at hb
      rw [w1, w2 (by omega)]
      exact hL (by simpa using hb) T' (by omega)
  · have hg' : q < 4294967296 := by simpa using hg
    have p0 : 0 ≤ q * y0 := Int.mul_nonneg q1_ b3
    have p1 : q * y0 ≤ 4294967295 * 4294967295 := mul_le q1_ b3 (by omega) (by omega)
    have w3 : IntKind.u64.wrap (q * y0) = q * y0 := wrap_u64_of p0 (by omega)
    have w4 : IntKind.u64.wrap (IntKind.u64.wrap (4294967296 * r) + u1) = r * 4294967296 + u1 := by rw [wrap_u64_of (n := 4294967296 * r) (by omega) (by omega), wrap_u64_of (by omega) (by omega)]; omega
    refine R.branch mixed 10 (bif false then true else decide (IntKind.u64.wrap (q * y0) > IntKind.u64.wrap (IntKind.u64.wrap (4294967296 * r) + u1))) (by kernel_rfl) (fun hc => ?_) (fun hc => ?_)
    · have hc' : r * 4294967296 + u1 < q * y0 := by rw [cond_false, w3, w4] at hc; simpa using hc
      have T' := T.less hc'
      have hq1 : 0 ≤ q - 1 := by
        rcases Int.lt_or_le 0 q with h | h
        · omega
        · have : q = 0 := by omega
          subst this
          omega
      refine R.branch mixed 20 (decide (IntKind.u64.wrap (r + y1) ≥ 4294967296)) (by kernel_rfl) (fun hb => ?_) (fun hb => ?_)
      · refine R.at mixed 2 [2, 8, 9, 10, 11, 13, 14, 15] (st := J1 Tryz.prog Tryz.f113 Y s y1 y0 u u1 u0 (IntKind.u64.wrap (q - 1))) (by kernel_rfl) ?_
        rw [w1] at hb
        rw [w2 hq1, T'.wide (by omega) b3 b4 d1 (by omega) (by simpa using hb), ← eY, ← hQ]
        exact hJ
      · refine R.at mixed 3 [2, 8, 9, 10, 11, 13, 14, 15, 16] (st := L1 Tryz.prog Tryz.f113 Y s y1 y0 u u1 u0 (IntKind.u64.wrap (q - 1)) (IntKind.u64.wrap (r + y1))) (by kernel_rfl) ?_
        rw [w1] at hb
        rw [w1, w2 hq1]
        exact hL (by simpa using hb) T' hq1
    · have hc' : q * y0 ≤ r * 4294967296 + u1 := by rw [cond_false, w3, w4] at hc; simpa using hc
      refine R.at mixed 2 [2, 8, 9, 10, 11, 13, 14, 15] (st := J1 Tryz.prog Tryz.f113 Y s y1 y0 u u1 u0 q) (by kernel_rfl) ?_
      rw [T.exact (by omega) hc', ← eY, ← hQ]
      exact hJ

/-- The trial digit is corrected twice at most. -/
theorem trial1 {Y s y1 y0 u u1 u0 q r Q : Int} {v : Value} (eY : Y = y1 * 4294967296 + y0) (b1 : 2147483648 ≤ y1) (b2 : y1 < 4294967296) (b3 : 0 ≤ y0) (b4 : y0 < 4294967296) (c1 : 0 ≤ u) (c2 : u < Y) (d1 : 0 ≤ u1) (d2 : u1 < 4294967296)
    (hq : q = u / y1) (hr : r = u - u / y1 * y1) (hQ : Q = (u * 4294967296 + u1) / Y) (hJ : RunsE Tryz.prog 113 0 (J1 Tryz.prog Tryz.f113 Y s y1 y0 u u1 u0 Q) v) : RunsE Tryz.prog 113 0 (L1 Tryz.prog Tryz.f113 Y s y1 y0 u u1 u0 q r) v := by
  have T : Tri y1 y0 u u1 q r := by
    subst hq hr
    exact Tri.start (by omega) b3 c1 d2
  have e := Int.mul_ediv_add_emod u y1
  have e2 := Int.emod_lt_of_pos u (b := y1) (by omega)
  have e3 := Int.emod_nonneg u (b := y1) (by omega)
  rw [Int.mul_comm] at e
  have q1_ : 0 ≤ q := by subst hq; exact Int.ediv_nonneg c1 (by omega)
  have q2_ : q ≤ 4294967297 := by
    have h := T.rest
    have hr0 : 0 ≤ r := by omega
    rcases Int.lt_or_le 4294967297 q with h2 | h2
    · have := Int.mul_le_mul_of_nonneg_right (show 4294967298 ≤ q by omega) (show 0 ≤ y1 by omega)
      omega
    · exact h2
  refine round1 eY b1 b2 b3 b4 c1 c2 d1 d2 q1_ q2_ (by omega) (by omega) T hQ hJ (fun h1 T1 hq1 => ?_)
  refine round1 eY b1 b2 b3 b4 c1 c2 d1 d2 hq1 (by omega) (by omega) h1 T1 hQ hJ (fun h2 _ _ => ?_)
  omega


theorem round2 {Y s y1 y0 u0 q1 u q r Q : Int} {v : Value} (eY : Y = y1 * 4294967296 + y0) (b1 : 2147483648 ≤ y1) (b2 : y1 < 4294967296) (b3 : 0 ≤ y0) (b4 : y0 < 4294967296) (c1 : 0 ≤ u) (c2 : u < Y) (d1 : 0 ≤ u0) (d2 : u0 < 4294967296)
    (q1_ : 0 ≤ q) (q2_ : q ≤ 4294967297) (r1_ : 0 ≤ r) (r2_ : r < 4294967296) (T : Tri y1 y0 u u0 q r) (hQ : Q = (u * 4294967296 + u0) / Y) (hJ : RunsE Tryz.prog 113 0 (J2 Tryz.prog Tryz.f113 Y s u0 q1 u Q) v)
    (hL : r + y1 < 4294967296 → Tri y1 y0 u u0 (q - 1) (r + y1) → 0 ≤ q - 1 → RunsE Tryz.prog 113 0 (L2 Tryz.prog Tryz.f113 Y s y1 y0 u0 q1 u (q - 1) (r + y1)) v) : RunsE Tryz.prog 113 0 (L2 Tryz.prog Tryz.f113 Y s y1 y0 u0 q1 u q r) v := by
  have w1 : IntKind.u64.wrap (r + y1) = r + y1 := wrap_u64_of (by omega) (by omega)
  have w2 : 0 ≤ q - 1 → IntKind.u64.wrap (q - 1) = q - 1 := fun h => wrap_u64_of h (by omega)
  refine R.guard mixed 6 (decide (q ≥ 4294967296)) (by kernel_rfl) (fun hg => ?_) (fun hg => ?_)
  · have hg' : 4294967296 ≤ q := by simpa using hg
    have T' := T.huge (by omega) (by omega) d2 hg'
    refine R.branch mixed 31 (decide (IntKind.u64.wrap (r + y1) ≥ 4294967296)) (by kernel_rfl) (fun hb => ?_) (fun hb => ?_)
    · refine R.at mixed 2 [2, 8, 14, 15, 17, 18] (st := J2 Tryz.prog Tryz.f113 Y s u0 q1 u (IntKind.u64.wrap (q - 1))) (by kernel_rfl) ?_
      rw [w1] at hb
      rw [w2 (by omega), T'.wide (by omega) b3 b4 d1 (by omega) (by simpa using hb), ← eY, ← hQ]
      exact hJ
    · refine R.at mixed 3 [2, 8, 9, 10, 14, 15, 16, 17, 18] (st := L2 Tryz.prog Tryz.f113 Y s y1 y0 u0 q1 u (IntKind.u64.wrap (q - 1)) (IntKind.u64.wrap (r + y1))) (by kernel_rfl) ?_
      rw [w1] at hb
      rw [w1, w2 (by omega)]
      exact hL (by simpa using hb) T' (by omega)
  · have hg' : q < 4294967296 := by simpa using hg
    have p0 : 0 ≤ q * y0 := Int.mul_nonneg q1_ b3
    have p1 : q * y0 ≤ 4294967295 * 4294967295 := mul_le q1_ b3 (by omega) (by omega)
    have w3 : IntKind.u64.wrap (q * y0) = q * y0 := wrap_u64_of p0 (by omega)
    have w4 : IntKind.u64.wrap (IntKind.u64.wrap (4294967296 * r) + u0) = r * 4294967296 + u0 := by rw [wrap_u64_of (n := 4294967296 * r) (by omega) (by omega), wrap_u64_of (by omega) (by omega)]; omega
    refine R.branch mixed 10 (bif false then true else decide (IntKind.u64.wrap (q * y0) > IntKind.u64.wrap (IntKind.u64.wrap (4294967296 * r) + u0))) (by kernel_rfl) (fun hc => ?_) (fun hc => ?_)
    · have hc' : r * 4294967296 + u0 < q * y0 := by rw [cond_false, w3, w4] at hc; simpa using hc
      have T' := T.less hc'
      have hq1 : 0 ≤ q - 1 := by
        rcases Int.lt_or_le 0 q with h | h
        · omega
        · have : q = 0 := by omega
          subst this
          omega
      refine R.branch mixed 20 (decide (IntKind.u64.wrap (r + y1) ≥ 4294967296)) (by kernel_rfl) (fun hb => ?_) (fun hb => ?_)
      · refine R.at mixed 2 [2, 8, 14, 15, 17, 18] (st := J2 Tryz.prog Tryz.f113 Y s u0 q1 u (IntKind.u64.wrap (q - 1))) (by kernel_rfl) ?_
        rw [w1] at hb
        rw [w2 hq1, T'.wide (by omega) b3 b4 d1 (by omega) (by simpa using hb), ← eY, ← hQ]
        exact hJ
      · refine R.at mixed 3 [2, 8, 9, 10, 14, 15, 16, 17, 18] (st := L2 Tryz.prog Tryz.f113 Y s y1 y0 u0 q1 u (IntKind.u64.wrap (q - 1)) (IntKind.u64.wrap (r + y1))) (by kernel_rfl) ?_
        rw [w1] at hb
        rw [w1, w2 hq1]
        exact hL (by simpa using hb) T' hq1
    · have hc' : q * y0 ≤ r * 4294967296 + u0 := by rw [cond_false, w3, w4] at hc; simpa using hc
      refine R.at mixed 2 [2, 8, 14, 15, 17, 18] (st := J2 Tryz.prog Tryz.f113 Y s u0 q1 u q) (by kernel_rfl) ?_
      rw [T.exact (by omega) hc', ← eY, ← hQ]
      exact hJ

/-- The trial digit is corrected twice at most. -/
theorem trial2 {Y s y1 y0 u0 q1 u q r Q : Int} {v : Value} (eY : Y = y1 * 4294967296 + y0) (b1 : 2147483648 ≤ y1) (b2 : y1 < 4294967296) (b3 : 0 ≤ y0) (b4 : y0 < 4294967296) (c1 : 0 ≤ u) (c2 : u < Y) (d1 : 0 ≤ u0) (d2 : u0 < 4294967296)
    (hq : q = u / y1) (hr : r = u - u / y1 * y1) (hQ : Q = (u * 4294967296 + u0) / Y) (hJ : RunsE Tryz.prog 113 0 (J2 Tryz.prog Tryz.f113 Y s u0 q1 u Q) v) : RunsE Tryz.prog 113 0 (L2 Tryz.prog Tryz.f113 Y s y1 y0 u0 q1 u q r) v := by
  have T : Tri y1 y0 u u0 q r := by
    subst hq hr
    exact Tri.start (by omega) b3 c1 d2
  have e := Int.mul_ediv_add_emod u y1
  have e2 := Int.emod_lt_of_pos u (b := y1) (by omega)
  have e3 := Int.emod_nonneg u (b := y1) (by omega)
  rw [Int.mul_comm] at e
  have q1_ : 0 ≤ q := by subst hq; exact Int.ediv_nonneg c1 (by omega)
  have q2_ : q ≤ 4294967297 := by
    have h := T.rest
    have hr0 : 0 ≤ r := by omega
    rcases Int.lt_or_le 4294967297 q with h2 | h2
    · have := Int.mul_le_mul_of_nonneg_right (show 4294967298 ≤ q by omega) (show 0 ≤ y1 by omega)
      omega
    · exact h2
  refine round2 eY b1 b2 b3 b4 c1 c2 d1 d2 q1_ q2_ (by omega) (by omega) T hQ hJ (fun h1 T1 hq1 => ?_)
  refine round2 eY b1 b2 b3 b4 c1 c2 d1 d2 hq1 (by omega) (by omega) h1 T1 hQ hJ (fun h2 _ _ => ?_)
  omega

end

end Go.Proofs.YtfkmhhbpomkakaaGreat.Wide
