/- Several texts in one: WO2z, WP2z. -/
import Derived.Test.YtegmkkpdckolkaaGreatQG22
namespace Go.Proofs.YtegmkkpdckolkaaGreat.Wide

section
open Go Go.Dt Go.Proofs

def s1 (P : Program) (fn : Func) : VS := Go.Dt.go P (afterCall (Go.Dt.go P (entry fn [DI 5, .int .i64 17] [])) (DI 5))
def s2 (P : Program) (fn : Func) : VS := afterCall (Go.Dt.go P (afterCall (s1 P fn) (DI 17))) (DI 17)
def mem5 (z M d q r : Int) : List Blk := [d8 z, d8 M, d8 d, d8 q, d8 r]
def LF (P : Program) (fn : Func) (z M d q r b k : Int) : VS := putM (mem5 z M d q r) (puts [(1, .int .i64 b), (10, .int .i64 k)] (keepS [2, 6, 7, 8, 9] (vadv P 15 (s2 P fn))))
def ac (P : Program) (s : VS) (v : Value) : VS := afterCall (Go.Dt.go P s) v
def JB (P : Program) (fn : Func) (z M d q r b k : Int) : VS := putM (mem5 z M d q r) (puts [(1, .int .i64 b), (10, .int .i64 k)] (keepS [2, 6, 7, 8, 9] (vadv P 5 (ac P (ac P (ac P (LF P fn 1 2 3 4 5 6 7) (DI 1)) (DI 2)) (.int .i64 0)))))

/-- The second half of a round. -/
theorem half_ (z M d q r b k : Int) {v : Value} (k0 : 0 ≤ k) (k1 : k ≤ 127) (r0 : 0 ≤ r) (r1 : r < 340282366920938463463374607431768211456) (d0 : 0 ≤ d) (d1 : d < 340282366920938463463374607431768211456)
    (h1 : r < d → RunsE Tryz.prog 98 0 (LF Tryz.prog Tryz.f98 z M d q r b (k - 1)) v) (h2 : d ≤ r → RunsE Tryz.prog 98 0 (LF Tryz.prog Tryz.f98 z M d (q + 1) (r + -d) b (k - 1)) v) : RunsE Tryz.prog 98 0 (JB Tryz.prog Tryz.f98 z M d q r b k) v := by
  have ew : IntKind.i64.wrap (k - 1) = k - 1 := wrap_i64_of (by omega) (by omega)
  refine R.call mixed (less_ r d) (by kernel_rfl) ?_
  have e : decide (r % 340282366920938463463374607431768211456 < d % 340282366920938463463374607431768211456) = decide (r < d) := by
    rw [Int.emod_eq_of_lt r0 r1, Int.emod_eq_of_lt d0 d1]
  rcases Decidable.em (r < d) with h | h
  · refine R.cond mixed 2 (!decide (r % 340282366920938463463374607431768211456 < d % 340282366920938463463374607431768211456)) false (by rw [e]; simp [h]) (by kernel_rfl) <|
      R.at mixed 8 [1, 2, 6, 7, 8, 9, 10] (st := LF Tryz.prog Tryz.f98 z M d q r b (IntKind.i64.wrap (k - 1))) (by kernel_rfl) ?_
    rw [ew]
    exact h1 h
  · refine R.cond mixed 2 (!decide (r % 340282366920938463463374607431768211456 < d % 340282366920938463463374607431768211456)) true (by rw [e]; simp [h]) (by kernel_rfl) <|
      R.call mixed (c_rneg d) (by kernel_rfl) <| R.call mixed (c_radd r (-d)) (by kernel_rfl) <| R.call mixed (c_rof 1 (by omega) (by omega)) (by kernel_rfl) <| R.call mixed (c_radd q 1) (by kernel_rfl) <|
      R.at mixed 9 [1, 2, 6, 7, 8, 9, 10] (st := LF Tryz.prog Tryz.f98 z M d (q + 1) (r + -d) b (IntKind.i64.wrap (k - 1))) (by kernel_rfl) ?_
    rw [ew]
    exact h2 (by omega)

theorem divmod_of {N d q r : Int} (hd : 0 < d) (h : d * q + r = N) (h0 : 0 ≤ r) (h1 : r < d) : N / d = q ∧ N % d = r := by
  have e1 : N / d = q := by
    refine quot_of hd ?_ ?_
    · rw [Int.mul_comm]; omega
    · rw [Int.add_mul, Int.one_mul, Int.mul_comm]; omega
  refine ⟨e1, ?_⟩
  have := Int.mul_ediv_add_emod N d
  rw [e1] at this
  omega

theorem floor_loop (z M d b : Int) {v : Value} (M0 : 0 ≤ M) (d0 : 0 < d) (d1 : d ≤ 9223372036854775808) (hend : RunsE Tryz.prog 98 0 (LF Tryz.prog Tryz.f98 z M d (M / d) (M % d) b (-1)) v) :
    ∀ n : Nat, n ≤ 128 → ∀ q r : Int, M / 2 ^ n / d = q → M / 2 ^ n % d = r → RunsE Tryz.prog 98 0 (LF Tryz.prog Tryz.f98 z M d q r b ((n : Int) - 1)) v
  | 0, _, q, r, hq, hr => by
    rw [Int.pow_zero, Int.ediv_one] at hq hr
    subst hq hr
    exact hend
  | n + 1, hn, q, r, hq, hr => by
    have ek : (((n + 1 : Nat) : Int) - 1) = (n : Int) := by omega
    rw [ek]
    have ep : (2 : Int) ^ (n + 1) = 2 ^ n * 2 := Int.pow_succ 2 n
    have hp : (0 : Int) < 2 ^ n := Int.pow_pos (by omega)
    have e0 : M / 2 ^ (n + 1) = M / 2 ^ n / 2 := by rw [ep, Int.ediv_ediv_of_nonneg (by omega)]
    rw [e0] at hq hr
    have hN0 : 0 ≤ M / 2 ^ n := Int.ediv_nonneg M0 (by omega)
    have cb := c_bit M n (by omega) (by omega)
    rw [Int.toNat_natCast] at cb
    have ih := floor_loop z M d b M0 d0 d1 hend n (by omega)
    generalize M / 2 ^ n = N at *
    have e1 := Int.mul_ediv_add_emod (N / 2) d
    have e2 := Int.emod_nonneg (N / 2) (b := d) (by omega)
    have e3 := Int.emod_lt_of_pos (N / 2) d0
    rw [hq, hr] at e1
    rw [hr] at e2 e3
    have eq2 : d * (q + q) = d * q + d * q := Int.mul_add d q q
    have eq3 : d * (q + q + 1) = d * q + d * q + d := by rw [Int.mul_add, Int.mul_one, eq2]
    have fin_ : ∀ r', r' = r + r + N % 2 → RunsE Tryz.prog 98 0 (JB Tryz.prog Tryz.f98 z M d (q + q) r' b n) v := by
      intro r' hr'
      refine half_ z M d (q + q) r' b n (by omega) (by omega) (by omega) (by omega) (by omega) (by omega) (fun h => ?_) (fun h => ?_)
      · obtain ⟨f1, f2⟩ := divmod_of (N := N) (q := q + q) (r := r') d0 (by omega) (by omega) h
        exact ih _ _ f1 f2
      · obtain ⟨f1, f2⟩ := divmod_of (N := N) (q := q + q + 1) (r := r' + -d) d0 (by omega) (by omega) (by omega)
        exact ih _ _ f1 f2
    refine R.cond mixed 6 (decide ((n : Int) ≥ 0)) true (decide_eq_true (by omega)) (by kernel_rfl) <| R.call mixed (c_radd r r) (by kernel_rfl) <| R.call mixed (c_radd q q) (by kernel_rfl) <| R.call mixed cb (by kernel_rfl) ?_
    rcases Decidable.em (N % 2 = 1) with h | h
    · exact R.cond mixed 2 (N % 2 == 1) true (by simp [h]) (by kernel_rfl) <| R.call mixed (c_rof 1 (by omega) (by omega)) (by kernel_rfl) <| R.call mixed (c_radd (r + r) 1) (by kernel_rfl) <|
        R.at mixed 3 [1, 2, 6, 7, 8, 9, 10] (st := JB Tryz.prog Tryz.f98 z M d (q + q) (r + r + 1) b n) (by kernel_rfl) (fin_ _ (by omega))
    · exact R.cond mixed 2 (N % 2 == 1) false (by simp [h]) (by kernel_rfl) <|
        R.at mixed 2 [1, 2, 6, 7, 8, 9, 10] (st := JB Tryz.prog Tryz.f98 z M d (q + q) (r + r) b n) (by kernel_rfl) (fin_ _ (by omega))

/-! ### The end -/
def acc (n d : Int) : Int := IntKind.i64.wrap (IntKind.i64.wrap (n * 65536) + d)
def low64 (q : Int) : Int := acc (acc (acc (acc 0 (q / 281474976710656 % 65536)) (q / 4294967296 % 65536)) (q / 65536 % 65536)) (q % 65536)
theorem low64_ (q : Int) : low64 q = IntKind.i64.wrap q := by
  unfold low64
  have h3 : acc 0 (q / 281474976710656 % 65536) = q / 281474976710656 % 65536 := by
    unfold acc; rw [wrap_i64_of (n := 0 * 65536) (by omega) (by omega), wrap_i64_of (by omega) (by omega)]; omega
  have h2 : acc (q / 281474976710656 % 65536) (q / 4294967296 % 65536) = q / 4294967296 % 4294967296 := by
    unfold acc; rw [wrap_i64_of (n := _ * 65536) (by omega) (by omega), wrap_i64_of (by omega) (by omega)]; omega
  have h1 : acc (q / 4294967296 % 4294967296) (q / 65536 % 65536) = q / 65536 % 281474976710656 := by
    unfold acc; rw [wrap_i64_of (n := _ * 65536) (by omega) (by omega), wrap_i64_of (by omega) (by omega)]; omega
  rw [h3, h2, h1]
  unfold acc
  simp only [IntKind.wrap_i64]
  omega

theorem digs_eqs (a b : Int) : eqs (digs a) (digs b) = decide (a % 340282366920938463463374607431768211456 = b % 340282366920938463463374607431768211456) := by
  rcases Decidable.em (a % 340282366920938463463374607431768211456 = b % 340282366920938463463374607431768211456) with h | h
  · rw [decide_eq_true h]
    refine eqs_of ?_
    rcases digs_lt a b with h2 | h2 | h2
    · omega
    · omega
    · exact h2
  · rw [decide_eq_false h]
    cases he : eqs (digs a) (digs b) with
    | false => rfl
    | true =>
      have := of_eqs he
      exact absurd (by rw [← valD_digs a, ← valD_digs b, this]) h

theorem fits_eqs {F : Int} (h1 : -170141183460469231731687303715884105728 ≤ F) (h2 : F ≤ 170141183460469231731687303715884105727) : eqs (digs (IntKind.i64.wrap F)) (digs F) = fits F := by
  rw [digs_eqs]
  unfold fits
  rw [← Bool.decide_and]
  congr 1
  rw [eq_iff_iff, IntKind.wrap_i64]
  omega

/-- What the reference's Floor gives. -/
def rfloorN (z b : Int) : Int := bif (decide (z < 0) == decide (b < 0)) && decide (z.natAbs / b.natAbs ≥ 170141183460469231731687303715884105728) then 0 else IntKind.i64.wrap (z.fdiv b)

theorem c_rfloor (z b : Int) (z1 : -170141183460469231731687303715884105728 ≤ z) (z2 : z ≤ 170141183460469231731687303715884105727) (b1 : -9223372036854775808 ≤ b) (b2 : b ≤ 9223372036854775807) (hb : b ≠ 0) :
    Con Tryz.prog 98 [DI z, .int .i64 b] (.tuple ⟨[.int .i64 (rfloorN z b), .bool (fits (z.fdiv b))]⟩) := by
  refine Con.run Tryz.func98 (by kernel_rfl) rfl ?_
  have hd : (0 : Int) < b.natAbs := by omega
  refine R.call mixed (c_ramount z z1 z2) (by kernel_rfl) <| R.call mixed (c_rof b b1 b2) (by kernel_rfl) <| R.call mixed (c_ramount b (by omega) (by omega)) (by kernel_rfl) <|
    R.at mixed 15 [1, 2, 6, 7, 8, 9, 10] (st := LF Tryz.prog Tryz.f98 z z.natAbs b.natAbs 0 0 b (((128 : Nat) : Int) - 1)) (by kernel_rfl) ?_
  have hz0 : (z.natAbs : Int) / 2 ^ 128 = 0 := Int.ediv_eq_zero_of_lt (by omega) (by omega)
  refine floor_loop z z.natAbs b.natAbs b (by omega) hd (by omega) ?_ 128 (by omega) 0 0 (by rw [hz0, Int.zero_ediv]) (by rw [hz0, Int.zero_emod])
  have hF := fdiv_amounts (z := z) hb
  have q0 : 0 ≤ (z.natAbs : Int) / b.natAbs := Int.ediv_nonneg (by omega) (by omega)
  have q1 : (z.natAbs : Int) / b.natAbs ≤ z.natAbs := Int.ediv_le_self _ (by omega)
  have r0 := Int.emod_nonneg (z.natAbs : Int) (b := b.natAbs) (by omega)
  have r1 := Int.emod_lt_of_pos (z.natAbs : Int) hd
  have hqr := Int.mul_ediv_add_emod (z.natAbs : Int) b.natAbs
  have hN : rfloorN z b = bif (decide (z < 0) == decide (b < 0)) && decide ((z.natAbs : Int) / b.natAbs ≥ 170141183460469231731687303715884105728) then 0 else IntKind.i64.wrap (z.fdiv b) := by
    unfold rfloorN
    congr 2
    rw [decide_eq_decide]
    omega
  rw [hN]
  have hbig : 0 < (z.natAbs : Int) % b.natAbs → (z.natAbs : Int) / b.natAbs < 170141183460469231731687303715884105728 := by
    intro hr
    rcases Int.lt_or_le ((z.natAbs : Int) / b.natAbs) 170141183460469231731687303715884105728 with h | h
    · exact h
    · have := Int.mul_le_mul_of_nonneg_right (show (1 : Int) ≤ b.natAbs by omega) q0
      rw [Int.one_mul] at this
      omega
  generalize (z.natAbs : Int) / b.natAbs = q at *
  generalize (z.natAbs : Int) % b.natAbs = r at *
  refine R.call mixed (below_ z) (by kernel_rfl) ?_
  rw [sg_of z1 z2]
  rcases Bool.eq_false_or_eq_true (decide (z < 0) == decide (b < 0)) with hs | hs
  · rw [hs] at hF
    rw [if_pos rfl] at hF
    rw [hs, hF]
    refine R.cond mixed 4 (!(decide (z < 0) == decide (b < 0))) false (by rw [hs]; rfl) (by kernel_rfl) <| R.call mixed (below_ q) (by kernel_rfl) ?_
    rcases Decidable.em (q ≥ 170141183460469231731687303715884105728) with h | h
    · have e1 : decide (sg q < 0) = true := decide_eq_true (by unfold sg; omega)
      have e2 : fits q = false := by simp [fits]; omega
      rw [e2, decide_eq_true h]
      exact R.cond mixed 1 (decide (sg q < 0)) true e1 (by kernel_rfl) <| R.fin mixed Tryz.func98 (by kernel_rfl)
    · have e1 : decide (sg q < 0) = false := decide_eq_false (by unfold sg; omega)
      rw [decide_eq_false h, ← fits_eqs (F := q) (by omega) (by omega), ← low64_]
      exact R.cond mixed 1 (decide (sg q < 0)) false e1 (by kernel_rfl) <| R.call mixed (c_rof (low64 q) (by rw [low64_]; exact wrap_i64_lo _) (by rw [low64_]; exact wrap_i64_hi _)) (by kernel_rfl) <| R.fin mixed Tryz.func98 (by kernel_rfl)
  · rw [hs] at hF
    rw [if_neg (by simp)] at hF
    rw [hs, hF]
    refine R.cond mixed 4 (!(decide (z < 0) == decide (b < 0))) true (by rw [hs]; rfl) (by kernel_rfl) <| R.call mixed (c_rneg q) (by kernel_rfl) ?_
    have ez : eqs (digs r) (digs 0) = decide (r = 0) := by
      rw [digs_eqs]
      congr 1
      rw [eq_iff_iff]
      omega
    rcases Decidable.em (0 < r) with h | h
    · have hb2 := hbig h
      rw [if_pos h, show -q - 1 = -q + -1 by omega, ← fits_eqs (F := -q + -1) (by omega) (by omega), ← low64_]
      exact R.cond mixed 8 (!eqs (digs r) [0, 0, 0, 0, 0, 0, 0, 0]) true (by rw [show [0, 0, 0, 0, 0, 0, 0, 0] = digs 0 from rfl, ez]; simp; omega) (by kernel_rfl) <| R.call mixed (c_rof (-1) (by omega) (by omega)) (by kernel_rfl) <| R.call mixed (c_radd (-q) (-1)) (by kernel_rfl) <|
        R.call mixed (c_rof (low64 (-q + -1)) (by rw [low64_]; exact wrap_i64_lo _) (by rw [low64_]; exact wrap_i64_hi _)) (by kernel_rfl) <| R.fin mixed Tryz.func98 (by kernel_rfl)
    · rw [if_neg h, show -q - 0 = -q by omega, ← fits_eqs (F := -q) (by omega) (by omega), ← low64_]
      exact R.cond mixed 8 (!eqs (digs r) [0, 0, 0, 0, 0, 0, 0, 0]) false (by rw [show [0, 0, 0, 0, 0, 0, 0, 0] = digs 0 from rfl, ez]; simp; omega) (by kernel_rfl) <|
        R.call mixed (c_rof (low64 (-q)) (by rw [low64_]; exact wrap_i64_lo _) (by rw [low64_]; exact wrap_i64_hi _)) (by kernel_rfl) <| R.fin mixed Tryz.func98 (by kernel_rfl)

end

section
open Go Go.Dt Go.Proofs

theorem rfloorN_fits {z b : Int} (h : fits (z.fdiv b) = true) (hb : b ≠ 0) : rfloorN z b = z.fdiv b := by
  have hf := h
  simp only [fits, Bool.and_eq_true, decide_eq_true_eq] at hf
  have hF := fdiv_amounts (z := z) hb
  have hw : IntKind.i64.wrap (z.fdiv b) = z.fdiv b := wrap_i64_of hf.1 hf.2
  unfold rfloorN
  rw [hw]
  cases hs : (decide (z < 0) == decide (b < 0)) with
  | false => rfl
  | true =>
    rw [hs, if_pos rfl] at hF
    have : ¬ (z.natAbs / b.natAbs ≥ 170141183460469231731687303715884105728) := by
      rw [hF] at hf
      omega
    simp [this]

theorem mul_range {a b : Int} (a1 : -9223372036854775808 ≤ a) (a2 : a ≤ 9223372036854775807) (b1 : -9223372036854775808 ≤ b) (b2 : b ≤ 9223372036854775807) :
    -85070591730234615865843651857942052864 ≤ a * b ∧ a * b ≤ 85070591730234615865843651857942052864 := by
  have h : (a * b).natAbs ≤ 9223372036854775808 * 9223372036854775808 := by
    rw [Int.natAbs_mul]
    exact Nat.mul_le_mul (by omega) (by omega)
  omega

theorem c_mulDiv (a b c : Int) (a1 : -9223372036854775808 ≤ a) (a2 : a ≤ 9223372036854775807) (b1 : -9223372036854775808 ≤ b) (b2 : b ≤ 9223372036854775807) (c1 : -9223372036854775808 ≤ c) (c2 : c ≤ 9223372036854775807) :
    Con Tryz.prog 88 [.int .i64 a, .int .i64 b, .int .i64 c] (.tuple ⟨[.int .i64 (floorN (a * b) c), .int .i64 (floorE (a * b) c)]⟩) := by
  have hm := mul_range a1 a2 b1 b2
  have cm : Con Tryz.prog 91 [.int .i64 a, .int .i64 b] (WI (a * b)) := Con.of Tryz.func91 rfl rfl (mul_ a b a1 a2 b1 b2)
  exact Con.run Tryz.func88 (by kernel_rfl) rfl <| R.call mixed cm (by kernel_rfl) <| R.call mixed (c_floor (a * b) c (by omega) (by omega) c1 c2) (by kernel_rfl) <| R.fin mixed Tryz.func88 (by kernel_rfl)

theorem c_rmulDiv (a b c : Int) (a1 : -9223372036854775808 ≤ a) (a2 : a ≤ 9223372036854775807) (b1 : -9223372036854775808 ≤ b) (b2 : b ≤ 9223372036854775807) (c1 : -9223372036854775808 ≤ c) (c2 : c ≤ 9223372036854775807) (hc : c ≠ 0) :
    Con Tryz.prog 93 [.int .i64 a, .int .i64 b, .int .i64 c] (.tuple ⟨[.int .i64 (rfloorN (a * b) c), .bool (fits ((a * b).fdiv c))]⟩) := by
  have hm := mul_range a1 a2 b1 b2
  have cm : Con Tryz.prog 99 [DI a, DI b] (DI (a * b)) := Con.of Tryz.func99 rfl rfl (rmul_ a b)
  exact Con.run Tryz.func93 (by kernel_rfl) rfl <| R.call mixed (c_rof a a1 a2) (by kernel_rfl) <| R.call mixed (c_rof b b1 b2) (by kernel_rfl) <| R.call mixed cm (by kernel_rfl) <|
    R.call mixed (c_rfloor (a * b) c (by omega) (by omega) c1 c2 hc) (by kernel_rfl) <| R.fin mixed Tryz.func93 (by kernel_rfl)

theorem mulDiv_in {z c : Int} (hc : c ≠ 0) (h : fits (z.fdiv c) = true) : floorN z c = z.fdiv c ∧ floorE z c = 0 := by
  have hc' : (c == 0) = false := beq_eq_false_iff_ne.2 hc
  simp [floorN, floorE, hc', h]
end

end Go.Proofs.YtegmkkpdckolkaaGreat.Wide
