/- Several texts in one: WA2y, WB2y, WC2y. -/
import Derived.Test.YtfkmhhbpomkakaaGreatQF7
import Derived.Test.YtfkmhhbpomkakaaGreatProg
namespace Go.Proofs.YtfkmhhbpomkakaaGreat.Wide

section
open Go Go.Dt Go.Proofs

theorem mixed : Tryz.prog.follows .mixedOrders = true := by kernel_rfl

/-- A wide number, modulo 2^128. -/
def WI (z : Int) : Value := .agg #[.int .i64 (IntKind.i64.wrap (z / 18446744073709551616)), .int .u64 (z % 18446744073709551616)]
/-- Its digits to the base 2^16. -/
def DI (z : Int) : Value := .agg #[.int .i64 (z % 65536), .int .i64 (z / 65536 % 65536), .int .i64 (z / 4294967296 % 65536), .int .i64 (z / 281474976710656 % 65536),
  .int .i64 (z / 18446744073709551616 % 65536), .int .i64 (z / 1208925819614629174706176 % 65536), .int .i64 (z / 79228162514264337593543950336 % 65536), .int .i64 (z / 5192296858534827628530496329220096 % 65536)]

theorem WI_mod {a b : Int} (h : a % 340282366920938463463374607431768211456 = b % 340282366920938463463374607431768211456) : WI a = WI b := by
  unfold WI
  have e1 : a % 18446744073709551616 = b % 18446744073709551616 := by omega
  have e2 : IntKind.i64.wrap (a / 18446744073709551616) = IntKind.i64.wrap (b / 18446744073709551616) := by
    rw [IntKind.wrap_i64, IntKind.wrap_i64]; omega
  rw [e1, e2]

end

section
open Go Go.Dt Go.Proofs

theorem e73 : externOf Tryz.prog 109 = some add64Entry := by kernel_rfl
theorem e74 : externOf Tryz.prog 119 = some sub64Entry := by kernel_rfl

theorem e74_run (x y c : Int) (hx : 0 ≤ x) (hx2 : x ≤ 18446744073709551615) (hy : 0 ≤ y) (hy2 : y ≤ 18446744073709551615) (hc0 : 0 ≤ c) (hc : c ≤ 1) (w : World) :
    (sub64Entry #[.int .u64 x, .int .u64 y, .int .u64 c]).run Tryz.prog w =
      .ok (.tuple #[.int .u64 ((x - y - c) % 18446744073709551616), .int .u64 (if x < y + c then 1 else 0)]) w := by
  have key : ∀ k : Nat, k ≤ 1 → (sub64Entry #[.int .u64 x, .int .u64 y, .int .u64 (k : Int)]).run Tryz.prog w =
      .ok (Extern.MathBitsCarry.pair ((x.toNat + Extern.MathBitsCarry.m64 - y.toNat - k) % Extern.MathBitsCarry.m64) (if x.toNat < y.toNat + k then 1 else 0)) w := by
    intro k hk
    have : k = 0 ∨ k = 1 := by omega
    rcases this with rfl | rfl <;> rfl
  obtain ⟨k, rfl⟩ := Int.eq_ofNat_of_zero_le hc0
  rw [key k (by omega)]
  obtain ⟨X, rfl⟩ := Int.eq_ofNat_of_zero_le hx
  obtain ⟨Y, rfl⟩ := Int.eq_ofNat_of_zero_le hy
  simp only [Extern.MathBitsCarry.pair, Extern.MathBitsCarry.m64, Int.toNat_natCast]
  have h1 : (Int.ofNat ((X + 2 ^ 64 - Y - k) % 2 ^ 64)) = ((X : Int) - Y - k) % 18446744073709551616 := by
    show (((X + 2 ^ 64 - Y - k) % 2 ^ 64 : Nat) : Int) = _
    omega
  have h2 : (Int.ofNat (if X < Y + k then 1 else 0)) = (if (X : Int) < Y + k then 1 else 0) := by
    by_cases h : X < Y + k
    · have h' : (X : Int) < Y + k := by omega
      rw [if_pos h, if_pos h']; rfl
    · have h' : ¬ (X : Int) < Y + k := by omega
      rw [if_neg h, if_neg h']; rfl
  rw [h1, h2]

/-- What is masked to 32 bits. -/
theorem lo32 {x : Int} (h : 0 ≤ x) : IntKind.u64.wrap ↑(BitVec.ofInt 64 x &&& BitVec.ofInt 64 4294967295).toNat = x % 4294967296 := by
  obtain ⟨X, rfl⟩ := Int.eq_ofNat_of_zero_le h
  rw [wrap_u64]
  have e : (BitVec.ofInt 64 (X : Int) &&& BitVec.ofInt 64 4294967295).toNat = X % 4294967296 := by
    rw [BitVec.toNat_and]
    have h2 : (BitVec.ofInt 64 4294967295).toNat = 2 ^ 32 - 1 := by decide
    rw [h2, Nat.and_two_pow_sub_one_eq_mod]
    have h3 : (BitVec.ofInt 64 (X : Int)).toNat = X % 2 ^ 64 := by simp
    rw [h3]
    omega
  rw [e]
  omega

theorem amount_ (n : Int) (h1 : -9223372036854775808 ≤ n) (h2 : n ≤ 9223372036854775807) : FnEq Tryz.prog 111 [.int .i64 n] [] (.int .u64 n.natAbs) [] :=
  FnEq.run Tryz.func111 (by kernel_rfl) rfl <| RunsE.adv mixed 10 <| RunsE.branch (decide (n < 0)) (by kernel_rfl)
    (fun h => by
      have hn : n < 0 := by simpa using h
      have e : (n.natAbs : Int) = IntKind.u64.wrap (0 - IntKind.u64.wrap n) := by rw [wrap_u64, wrap_u64]; omega
      rw [e]
      exact RunsE.fin mixed Tryz.func111 1007 (by kernel_rfl))
    (fun h => by
      have hn : ¬ n < 0 := by simpa using h
      have e : (n.natAbs : Int) = IntKind.u64.wrap n := by rw [wrap_u64]; omega
      rw [e]
      exact RunsE.fin mixed Tryz.func111 1007 (by kernel_rfl))

theorem neg_ (h l : Int) (l1 : 0 ≤ l) (l2 : l ≤ 18446744073709551615) :
    FnEq Tryz.prog 112 [.agg #[.int .i64 h, .int .u64 l]] [] (WI (-(h * 18446744073709551616 + l))) [] := by
  have hu : IntKind.u64.wrap h = h % 18446744073709551616 := wrap_u64 h
  have hb0 : (0:Int) ≤ (if 0 < l + 0 then 1 else 0) := by split <;> omega
  have hb1 : (if 0 < l + 0 then 1 else 0) ≤ (1:Int) := by split <;> omega
  have e1 : (0 - l - 0) % 18446744073709551616 = (-(h * 18446744073709551616 + l)) % 18446744073709551616 := by omega
  have e2 : IntKind.i64.wrap ((0 - IntKind.u64.wrap h - if 0 < l + 0 then 1 else 0) % 18446744073709551616) = IntKind.i64.wrap (-(h * 18446744073709551616 + l) / 18446744073709551616) := by
    rw [hu, IntKind.wrap_i64, IntKind.wrap_i64]
    split <;> omega
  refine FnEq.val (FnEq.run Tryz.func112 (v := .agg #[.int .i64 (IntKind.i64.wrap ((0 - IntKind.u64.wrap h - if 0 < l + 0 then 1 else 0) % 18446744073709551616)), .int .u64 ((0 - l - 0) % 18446744073709551616)]) (by kernel_rfl) rfl <|
    RunsE.adv mixed 9 <| RunsE.extern #[.int .u64 0, .int .u64 l, .int .u64 0] e74 (by kernel_rfl) rfl (e74_run 0 l 0 (by omega) (by omega) l1 l2 (by omega) (by omega)) <|
    RunsE.adv mixed 12 <| RunsE.extern #[.int .u64 0, .int .u64 (IntKind.u64.wrap h), .int .u64 (if 0 < l + 0 then 1 else 0)] e74 (by kernel_rfl) rfl
      (e74_run 0 _ _ (by omega) (by omega) (by omega) (by omega) hb0 hb1) <|
    RunsE.fin mixed Tryz.func112 1014 (by kernel_rfl)) ?_
  rw [e1, e2]
  rfl

theorem add_ (h l h' l' : Int) (l1 : 0 ≤ l) (l2 : l ≤ 18446744073709551615) (l1' : 0 ≤ l') (l2' : l' ≤ 18446744073709551615) :
    FnEq Tryz.prog 87 [.agg #[.int .i64 h, .int .u64 l], .agg #[.int .i64 h', .int .u64 l']] [] (WI ((h * 18446744073709551616 + l) + (h' * 18446744073709551616 + l'))) [] := by
  have hu : IntKind.u64.wrap h = h % 18446744073709551616 := wrap_u64 h
  have hu' : IntKind.u64.wrap h' = h' % 18446744073709551616 := wrap_u64 h'
  refine FnEq.val (FnEq.run Tryz.func87 (v := .agg #[.int .i64 (IntKind.i64.wrap ((IntKind.u64.wrap h + IntKind.u64.wrap h' + (l + l' + 0) / 18446744073709551616) % 18446744073709551616)), .int .u64 ((l + l' + 0) % 18446744073709551616)]) (by kernel_rfl) rfl <|
    RunsE.adv mixed 12 <| RunsE.extern #[.int .u64 l, .int .u64 l', .int .u64 0] e73 (by kernel_rfl) rfl (run_add64 l l' 0 l1 l1' (by omega) (by omega)) <|
    RunsE.adv mixed 15 <| RunsE.extern #[.int .u64 (IntKind.u64.wrap h), .int .u64 (IntKind.u64.wrap h'), .int .u64 ((l + l' + 0) / 18446744073709551616)] e73 (by kernel_rfl) rfl
      (run_add64 _ _ _ (by omega) (by omega) (by omega) (by omega)) <|
    RunsE.fin mixed Tryz.func87 1014 (by kernel_rfl)) ?_
  unfold WI
  have e1 : (l + l' + 0) % 18446744073709551616 = ((h * 18446744073709551616 + l) + (h' * 18446744073709551616 + l')) % 18446744073709551616 := by omega
  have e2 : IntKind.i64.wrap ((IntKind.u64.wrap h + IntKind.u64.wrap h' + (l + l' + 0) / 18446744073709551616) % 18446744073709551616) = IntKind.i64.wrap (((h * 18446744073709551616 + l) + (h' * 18446744073709551616 + l')) / 18446744073709551616) := by
    rw [hu, hu', IntKind.wrap_i64, IntKind.wrap_i64]; omega
  rw [e1, e2]

theorem neg_WI (z : Int) : FnEq Tryz.prog 112 [WI z] [] (WI (-z)) [] :=
  (neg_ (IntKind.i64.wrap (z / 18446744073709551616)) (z % 18446744073709551616) (by omega) (by omega)).val (WI_mod (by rw [IntKind.wrap_i64]; omega))

theorem add_WI (y z : Int) : FnEq Tryz.prog 87 [WI y, WI z] [] (WI (y + z)) [] :=
  (add_ (IntKind.i64.wrap (y / 18446744073709551616)) (y % 18446744073709551616) (IntKind.i64.wrap (z / 18446744073709551616)) (z % 18446744073709551616) (by omega) (by omega) (by omega) (by omega)).val
    (WI_mod (by rw [IntKind.wrap_i64, IntKind.wrap_i64]; omega))

theorem wrap_i64_lo (n : Int) : -9223372036854775808 ≤ IntKind.i64.wrap n := by rw [IntKind.wrap_i64]; omega
theorem wrap_i64_hi (n : Int) : IntKind.i64.wrap n ≤ 9223372036854775807 := by rw [IntKind.wrap_i64]; omega

end

section
open Go Go.Dt Go.Proofs

/-! ### The products of words -/
def lo' (x : Int) : Int := IntKind.u64.wrap ↑(BitVec.ofInt 64 x &&& BitVec.ofInt 64 4294967295).toNat
def hi' (x : Int) : Int := x.fdiv 4294967296
def mt (x y : Int) : Int := IntKind.u64.wrap (IntKind.u64.wrap (hi' x * lo' y) + hi' (IntKind.u64.wrap (lo' x * lo' y)))
def mw (x y : Int) : Int := IntKind.u64.wrap (lo' (mt x y) + IntKind.u64.wrap (lo' x * hi' y))
def mh (x y : Int) : Int := IntKind.u64.wrap (IntKind.u64.wrap (IntKind.u64.wrap (hi' x * hi' y) + hi' (mt x y)) + hi' (mw x y))

theorem mul64_raw (x y : Int) : FnEq Tryz.prog 110 [.int .u64 x, .int .u64 y] [] (.tuple #[.int .u64 (mh x y), .int .u64 (IntKind.u64.wrap (x * y))]) [] :=
  FnEq.straight mixed Tryz.func110 (by kernel_rfl) 2000 rfl (by kernel_rfl)

theorem mul_le {a b c d : Int} (ha : 0 ≤ a) (hb : 0 ≤ b) (hac : a ≤ c) (hbd : b ≤ d) : a * b ≤ c * d :=
  Int.le_trans (Int.mul_le_mul_of_nonneg_right hac hb) (Int.mul_le_mul_of_nonneg_left hbd (Int.le_trans ha hac))

theorem mul64_ (x y : Int) (hx : 0 ≤ x) (hx2 : x ≤ 18446744073709551615) (hy : 0 ≤ y) (hy2 : y ≤ 18446744073709551615) :
    FnEq Tryz.prog 110 [.int .u64 x, .int .u64 y] [] (.tuple #[.int .u64 (x * y / 18446744073709551616), .int .u64 (x * y % 18446744073709551616)]) [] := by
  refine (mul64_raw x y).val ?_
  have hlx : lo' x = x % 4294967296 := lo32 hx
  have hly : lo' y = y % 4294967296 := lo32 hy
  have hhx : hi' x = x / 4294967296 := Int.fdiv_eq_ediv_of_nonneg x (by omega)
  have hhy : hi' y = y / 4294967296 := Int.fdiv_eq_ediv_of_nonneg y (by omega)
  generalize hx0 : x % 4294967296 = x0 at hlx
  generalize hx1 : x / 4294967296 = x1 at hhx
  generalize hy0 : y % 4294967296 = y0 at hly
  generalize hy1 : y / 4294967296 = y1 at hhy
  have ex : x = x1 * 4294967296 + x0 := by omega
  have ey : y = y1 * 4294967296 + y0 := by omega
  have b00 : 0 ≤ x0 * y0 := Int.mul_nonneg (by omega) (by omega)
  have b01 : 0 ≤ x0 * y1 := Int.mul_nonneg (by omega) (by omega)
  have b10 : 0 ≤ x1 * y0 := Int.mul_nonneg (by omega) (by omega)
  have b11 : 0 ≤ x1 * y1 := Int.mul_nonneg (by omega) (by omega)
  have c00 : x0 * y0 ≤ 4294967295 * 4294967295 := mul_le (by omega) (by omega) (by omega) (by omega)
  have c01 : x0 * y1 ≤ 4294967295 * 4294967295 := mul_le (by omega) (by omega) (by omega) (by omega)
  have c10 : x1 * y0 ≤ 4294967295 * 4294967295 := mul_le (by omega) (by omega) (by omega) (by omega)
  have c11 : x1 * y1 ≤ 4294967295 * 4294967295 := mul_le (by omega) (by omega) (by omega) (by omega)
  have exy : x * y = (x1 * y1) * 18446744073709551616 + (x1 * y0 + x0 * y1) * 4294967296 + x0 * y0 := by
    rw [ex, ey]
    simp only [Int.add_mul, Int.mul_add]
    have h1 : x1 * 4294967296 * (y1 * 4294967296) = x1 * y1 * 18446744073709551616 := by
      rw [Int.mul_assoc, Int.mul_comm 4294967296, Int.mul_assoc, ← Int.mul_assoc]; rfl
    have h2 : x1 * 4294967296 * y0 = x1 * y0 * 4294967296 := by rw [Int.mul_assoc, Int.mul_comm 4294967296, ← Int.mul_assoc]
    have h3 : x0 * (y1 * 4294967296) = x0 * y1 * 4294967296 := by rw [← Int.mul_assoc]
    rw [h1, h2, h3]
    omega
  have et : mt x y = x1 * y0 + x0 * y0 / 4294967296 := by
    unfold mt
    rw [hlx, hly, hhx, wrap_u64_of b00 (by omega), wrap_u64_of b10 (by omega), hi', Int.fdiv_eq_ediv_of_nonneg _ (by omega), wrap_u64_of (by omega) (by omega)]
  generalize hp00 : x0 * y0 = p00 at *
  generalize hp01 : x0 * y1 = p01 at *
  generalize hp10 : x1 * y0 = p10 at *
  generalize hp11 : x1 * y1 = p11 at *
  have ew : mw x y = (p10 + p00 / 4294967296) % 4294967296 + p01 := by
    unfold mw
    rw [et, hlx, hhy, hp01, wrap_u64_of b01 (by omega), show lo' (p10 + p00 / 4294967296) = (p10 + p00 / 4294967296) % 4294967296 from lo32 (by omega), wrap_u64_of (by omega) (by omega)]
  have eh : mh x y = x * y / 18446744073709551616 := by
    unfold mh
    rw [et, ew, hhx, hhy, hp11, exy]
    unfold hi'
    rw [Int.fdiv_eq_ediv_of_nonneg _ (by omega), Int.fdiv_eq_ediv_of_nonneg _ (by omega), wrap_u64_of b11 (by omega), wrap_u64_of (n := p11 + _) (by omega) (by omega), wrap_u64_of (by omega) (by omega)]
    omega
  rw [eh, wrap_u64]

/-! ### Digits -/
def Dig (l : List Int) : Prop := ∀ d, d ∈ l → 0 ≤ d ∧ d ≤ 65535
theorem Dig.head {d : Int} {l : List Int} (h : Dig (d :: l)) : 0 ≤ d ∧ d ≤ 65535 := h d (by simp)
theorem Dig.cons {d : Int} {l : List Int} (h1 : 0 ≤ d) (h2 : d ≤ 65535) (h : Dig l) : Dig (d :: l) := fun x hx => by
  rcases List.mem_cons.1 hx with rfl | hx
  · exact ⟨h1, h2⟩
  · exact h x hx
theorem Dig.nil : Dig [] := fun _ h => by cases h

end

end Go.Proofs.YtfkmhhbpomkakaaGreat.Wide
