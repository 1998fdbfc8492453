/- Package wide: amounts, products of two words, sums and negatives. -/
import Derived.Test.YtjfodgjgpeiaaaaDt15
import Derived.Test.YtjfodgjgpeiaaaaWA
namespace Go.Proofs.Ytjfodgjgpeiaaaa.Wide
open Go Go.Dt Go.Proofs

theorem e73 : externOf Try.prog 73 = some add64Entry := by kernel_rfl
theorem e74 : externOf Try.prog 74 = some sub64Entry := by kernel_rfl

theorem e74_run (x y c : Int) (hx : 0 ≤ x) (hx2 : x ≤ 18446744073709551615) (hy : 0 ≤ y) (hy2 : y ≤ 18446744073709551615) (hc0 : 0 ≤ c) (hc : c ≤ 1) (w : World) :
    (sub64Entry #[.int .u64 x, .int .u64 y, .int .u64 c]).run Try.prog w =
      .ok (.tuple #[.int .u64 ((x - y - c) % 18446744073709551616), .int .u64 (if x < y + c then 1 else 0)]) w := by
  have key : ∀ k : Nat, k ≤ 1 → (sub64Entry #[.int .u64 x, .int .u64 y, .int .u64 (k : Int)]).run Try.prog w =
      .ok (Extern.MathBitsCarry.pair ((x.toNat + Extern.MathBitsCarry.m64 - y.toNat - k) % Extern.MathBitsCarry.m64) (if x.toNat < y.toNat + k then 1 else 0)) w := by
    intro k hk
    have : k = 0 ∨ k = 1 := by omega
    rcases this with rfl | rfl <;> rfl
  obtain ⟨k, rfl⟩ := Int.eq_ofNat_of_zero_le hc0
  rw [key k (by omega)]
  obtain ⟨X, rfl⟩ := Int.eq_ofNat_of_zero_le hx
  obtain ⟨Y, rfl⟩ := Int.eq_ofNat_of_zero_le hy
  simp only [Extern.MathBitsCarry.pair, Extern.MathBitsCarry.m64, Int.toNat_natCast]
  have h1 : (Int.ofNat ((X + 2 ^ 64 - Y - k) % 2 ^ 64)) = ((X : Int) - Y - k) % 18446744073709551616 := by
    show (((X + 2 ^ 64 - Y - k) % 2 ^ 64 : Nat) : Int) = _
    omega
  have h2 : (Int.ofNat (if X < Y + k then 1 else 0)) = (if (X : Int) < Y + k then 1 else 0) := by
    by_cases h : X < Y + k
    · have h' : (X : Int) < Y + k := by omega
      rw [if_pos h, if_pos h']; rfl
    · have h' : ¬ (X : Int) < Y + k := by omega
      rw [if_neg h, if_neg h']; rfl
  rw [h1, h2]

/-- What is masked to 32 bits. -/
theorem lo32 {x : Int} (h : 0 ≤ x) : IntKind.u64.wrap ↑(BitVec.ofInt 64 x &&& BitVec.ofInt 64 4294967295).toNat = x % 4294967296 := by
  obtain ⟨X, rfl⟩ := Int.eq_ofNat_of_zero_le h
  rw [wrap_u64]
  have e : (BitVec.ofInt 64 (X : Int) &&& BitVec.ofInt 64 4294967295).toNat = X % 4294967296 := by
    rw [BitVec.toNat_and]
    have h2 : (BitVec.ofInt 64 4294967295).toNat = 2 ^ 32 - 1 := by decide
    rw [h2, Nat.and_two_pow_sub_one_eq_mod]
    have h3 : (BitVec.ofInt 64 (X : Int)).toNat = X % 2 ^ 64 := by simp
    rw [h3]
    omega
  rw [e]
  omega

theorem amount_ (n : Int) (h1 : -9223372036854775808 ≤ n) (h2 : n ≤ 9223372036854775807) : FnEq Try.prog 66 [.int .i64 n] [] (.int .u64 n.natAbs) [] :=
  FnEq.run Try.func66 (by kernel_rfl) rfl <| RunsE.adv mixed 10 <| RunsE.branch (decide (n < 0)) (by kernel_rfl)
    (fun h => by
      have hn : n < 0 := by simpa using h
      have e : (n.natAbs : Int) = IntKind.u64.wrap (0 - IntKind.u64.wrap n) := by rw [wrap_u64, wrap_u64]; omega
      rw [e]
      exact RunsE.fin mixed Try.func66 1007 (by kernel_rfl))
    (fun h => by
      have hn : ¬ n < 0 := by simpa using h
      have e : (n.natAbs : Int) = IntKind.u64.wrap n := by rw [wrap_u64]; omega
      rw [e]
      exact RunsE.fin mixed Try.func66 1007 (by kernel_rfl))

theorem neg_ (h l : Int) (l1 : 0 ≤ l) (l2 : l ≤ 18446744073709551615) :
    FnEq Try.prog 44 [.agg #[.int .i64 h, .int .u64 l]] [] (WI (-(h * 18446744073709551616 + l))) [] := by
  have hu : IntKind.u64.wrap h = h % 18446744073709551616 := wrap_u64 h
  have hb0 : (0:Int) ≤ (if 0 < l + 0 then 1 else 0) := by split <;> omega
  have hb1 : (if 0 < l + 0 then 1 else 0) ≤ (1:Int) := by split <;> omega
  have e1 : (0 - l - 0) % 18446744073709551616 = (-(h * 18446744073709551616 + l)) % 18446744073709551616 := by omega
  have e2 : IntKind.i64.wrap ((0 - IntKind.u64.wrap h - if 0 < l + 0 then 1 else 0) % 18446744073709551616) = IntKind.i64.wrap (-(h * 18446744073709551616 + l) / 18446744073709551616) := by
    rw [hu, IntKind.wrap_i64, IntKind.wrap_i64]
    split <;> omega
  refine FnEq.val (FnEq.run Try.func44 (v := .agg #[.int .i64 (IntKind.i64.wrap ((0 - IntKind.u64.wrap h - if 0 < l + 0 then 1 else 0) % 18446744073709551616)), .int .u64 ((0 - l - 0) % 18446744073709551616)]) (by kernel_rfl) rfl <|
    RunsE.adv mixed 9 <| RunsE.extern #[.int .u64 0, .int .u64 l, .int .u64 0] e74 (by kernel_rfl) rfl (e74_run 0 l 0 (by omega) (by omega) l1 l2 (by omega) (by omega)) <|
    RunsE.adv mixed 12 <| RunsE.extern #[.int .u64 0, .int .u64 (IntKind.u64.wrap h), .int .u64 (if 0 < l + 0 then 1 else 0)] e74 (by kernel_rfl) rfl
      (e74_run 0 _ _ (by omega) (by omega) (by omega) (by omega) hb0 hb1) <|
    RunsE.fin mixed Try.func44 1014 (by kernel_rfl)) ?_
  rw [e1, e2]
  rfl

theorem add_ (h l h' l' : Int) (l1 : 0 ≤ l) (l2 : l ≤ 18446744073709551615) (l1' : 0 ≤ l') (l2' : l' ≤ 18446744073709551615) :
    FnEq Try.prog 42 [.agg #[.int .i64 h, .int .u64 l], .agg #[.int .i64 h', .int .u64 l']] [] (WI ((h * 18446744073709551616 + l) + (h' * 18446744073709551616 + l'))) [] := by
  have hu : IntKind.u64.wrap h = h % 18446744073709551616 := wrap_u64 h
  have hu' : IntKind.u64.wrap h' = h' % 18446744073709551616 := wrap_u64 h'
  refine FnEq.val (FnEq.run Try.func42 (v := .agg #[.int .i64 (IntKind.i64.wrap ((IntKind.u64.wrap h + IntKind.u64.wrap h' + (l + l' + 0) / 18446744073709551616) % 18446744073709551616)), .int .u64 ((l + l' + 0) % 18446744073709551616)]) (by kernel_rfl) rfl <|
    RunsE.adv mixed 12 <| RunsE.extern #[.int .u64 l, .int .u64 l', .int .u64 0] e73 (by kernel_rfl) rfl (run_add64 l l' 0 l1 l1' (by omega) (by omega)) <|
    RunsE.adv mixed 15 <| RunsE.extern #[.int .u64 (IntKind.u64.wrap h), .int .u64 (IntKind.u64.wrap h'), .int .u64 ((l + l' + 0) / 18446744073709551616)] e73 (by kernel_rfl) rfl
      (run_add64 _ _ _ (by omega) (by omega) (by omega) (by omega)) <|
    RunsE.fin mixed Try.func42 1014 (by kernel_rfl)) ?_
  unfold WI
  have e1 : (l + l' + 0) % 18446744073709551616 = ((h * 18446744073709551616 + l) + (h' * 18446744073709551616 + l')) % 18446744073709551616 := by omega
  have e2 : IntKind.i64.wrap ((IntKind.u64.wrap h + IntKind.u64.wrap h' + (l + l' + 0) / 18446744073709551616) % 18446744073709551616) = IntKind.i64.wrap (((h * 18446744073709551616 + l) + (h' * 18446744073709551616 + l')) / 18446744073709551616) := by
    rw [hu, hu', IntKind.wrap_i64, IntKind.wrap_i64]; omega
  rw [e1, e2]

theorem neg_WI (z : Int) : FnEq Try.prog 44 [WI z] [] (WI (-z)) [] :=
  (neg_ (IntKind.i64.wrap (z / 18446744073709551616)) (z % 18446744073709551616) (by omega) (by omega)).val (WI_mod (by rw [IntKind.wrap_i64]; omega))

theorem add_WI (y z : Int) : FnEq Try.prog 42 [WI y, WI z] [] (WI (y + z)) [] :=
  (add_ (IntKind.i64.wrap (y / 18446744073709551616)) (y % 18446744073709551616) (IntKind.i64.wrap (z / 18446744073709551616)) (z % 18446744073709551616) (by omega) (by omega) (by omega) (by omega)).val
    (WI_mod (by rw [IntKind.wrap_i64, IntKind.wrap_i64]; omega))

theorem DI_mod {a b : Int} (h : a % 340282366920938463463374607431768211456 = b % 340282366920938463463374607431768211456) : DI a = DI b := by
  unfold DI
  have e1 : a % 65536 = b % 65536 := by omega
  have e2 : a / 65536 % 65536 = b / 65536 % 65536 := by omega
  have e3 : a / 4294967296 % 65536 = b / 4294967296 % 65536 := by omega
  have e4 : a / 281474976710656 % 65536 = b / 281474976710656 % 65536 := by omega
  have e5 : a / 18446744073709551616 % 65536 = b / 18446744073709551616 % 65536 := by omega
  have e6 : a / 1208925819614629174706176 % 65536 = b / 1208925819614629174706176 % 65536 := by omega
  have e7 : a / 79228162514264337593543950336 % 65536 = b / 79228162514264337593543950336 % 65536 := by omega
  have e8 : a / 5192296858534827628530496329220096 % 65536 = b / 5192296858534827628530496329220096 % 65536 := by omega
  rw [e1, e2, e3, e4, e5, e6, e7, e8]

theorem wrap_i64_lo (n : Int) : -9223372036854775808 ≤ IntKind.i64.wrap n := by rw [IntKind.wrap_i64]; omega
theorem wrap_i64_hi (n : Int) : IntKind.i64.wrap n ≤ 9223372036854775807 := by rw [IntKind.wrap_i64]; omega

theorem two_WI (z : Int) : FnEq Try.prog 34 [.int .i64 (IntKind.i64.wrap (z / 18446744073709551616)), .int .u64 (z % 18446744073709551616)] [] (DI z) [] :=
  (two_ _ _ (wrap_i64_lo _) (wrap_i64_hi _) (by omega) (by omega)).val (DI_mod (by rw [IntKind.wrap_i64]; omega))

theorem D_ (z : Int) : FnEq Try.prog 37 [WI z] [] (DI z) [] :=
  FnEq.run Try.func37 (by kernel_rfl) rfl <| RunsE.adv mixed 11 <| RunsE.call [.int .i64 (IntKind.i64.wrap (z / 18446744073709551616)), .int .u64 (z % 18446744073709551616)] Try.func34 (by kernel_rfl) (by kernel_rfl) rfl (two_WI z) <|
    RunsE.fin mixed Try.func37 1000 (by kernel_rfl)

end Go.Proofs.Ytjfodgjgpeiaaaa.Wide
