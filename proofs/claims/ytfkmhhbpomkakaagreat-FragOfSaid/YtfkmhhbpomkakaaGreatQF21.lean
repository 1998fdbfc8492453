/- Several texts in one: WK2y, WL2y, WE2y. -/
import Derived.Test.YtfkmhhbpomkakaaGreatQF20
import Derived.Test.YtfkmhhbpomkakaaGreatQF8
namespace Go.Proofs.YtfkmhhbpomkakaaGreat.Wide

section
open Go Go.Dt Go.Proofs

def tabOf (P : Program) (fn : Func) : ByteArray := match strAt (vadv P 33 (entry fn [.int .u64 1] [])) with
  | some (_, b, _, _) => b
  | none => .empty
def tabTy (P : Program) (fn : Func) : TypeId := match strAt (vadv P 33 (entry fn [.int .u64 1] [])) with
  | some (t, _, _, _) => t
  | none => 0
def chkT (b : ByteArray) : Nat → Bool
  | 0 => true
  | n + 1 => chkT b n && (match b[n]? with
    | some u => Nat.ble u.toNat 8 && (Nat.beq n 0 || (Nat.ble 1 u.toNat && Nat.ble (2 ^ (u.toNat - 1)) n && Nat.blt n (2 ^ u.toNat)))
    | none => false)
theorem chkT_get {b : ByteArray} : ∀ {n : Nat}, chkT b n = true → ∀ i, i < n → 1 ≤ i → ∃ u : UInt8, b[i]? = some u ∧ u.toNat ≤ 8 ∧ 1 ≤ u.toNat ∧ 2 ^ (u.toNat - 1) ≤ i ∧ i < 2 ^ u.toNat
  | 0, _, i, h, _ => by omega
  | n + 1, h, i, hi, h1 => by
    simp only [chkT, Bool.and_eq_true] at h
    rcases Nat.lt_or_ge i n with hlt | hge
    · exact chkT_get h.1 i hlt h1
    · have e : i = n := by omega
      subst e
      have h2 := h.2
      split at h2
      · rename_i u hu
        simp only [Bool.and_eq_true, Bool.or_eq_true] at h2
        refine ⟨u, hu, Nat.le_of_ble_eq_true h2.1, ?_⟩
        rcases h2.2 with h3 | h3
        · have := Nat.eq_of_beq_eq_true h3; omega
        · exact ⟨Nat.le_of_ble_eq_true h3.1.1, Nat.le_of_ble_eq_true h3.1.2, Nat.le_of_ble_eq_true h3.2⟩
      · cases h2
theorem tab_ok : chkT (tabOf Tryz.prog Tryz.f121) 256 = true := by kernel_rfl
theorem tab_str : Tryz.prog.underlying (tabTy Tryz.prog Tryz.f121) = some .string := by kernel_rfl

theorem leaf_bits {X k u i : Nat} (hi : X / 2 ^ k = i) (hu : 1 ≤ u) (h1 : 2 ^ (u - 1) ≤ i) (h2 : i < 2 ^ u) : 2 ^ (k + u - 1) ≤ X ∧ X < 2 ^ (k + u) := by
  have hp : 0 < 2 ^ k := Nat.two_pow_pos k
  subst hi
  constructor
  · rw [show k + u - 1 = u - 1 + k by omega, Nat.pow_add]
    exact (Nat.le_div_iff_mul_le hp).1 h1
  · rw [Nat.add_comm, Nat.pow_add]
    exact (Nat.div_lt_iff_lt_mul hp).1 h2

/-- A number's length in bits. -/
def Bits (X n : Nat) : Prop := 1 ≤ n ∧ n ≤ 64 ∧ 2 ^ (n - 1) ≤ X ∧ X < 2 ^ n

theorem u8_of {x : Int} (h : 0 ≤ x) (h2 : x < 256) : IntKind.u8.wrap x = x := by
  unfold IntKind.wrap
  simp [IntKind.signed, IntKind.bits]
  omega

theorem len64_ (x : Int) (h1 : 1 ≤ x) (h2 : x ≤ 18446744073709551615) : ∃ n : Nat, Bits x.toNat n ∧ Con Tryz.prog 121 [.int .u64 x] (.int .i64 n) := by
  have e1 : x.fdiv 4294967296 = x / 4294967296 := Int.fdiv_eq_ediv_of_nonneg _ (by omega)
  have e2 : ∀ z : Int, z.fdiv 65536 = z / 65536 := fun z => Int.fdiv_eq_ediv_of_nonneg _ (by omega)
  have e3 : ∀ z : Int, z.fdiv 256 = z / 256 := fun z => Int.fdiv_eq_ediv_of_nonneg _ (by omega)
  have e21 := e2 x
  have e22 := e2 (x.fdiv 4294967296)
  have e31 := e3 x
  have e32 := e3 (x.fdiv 4294967296)
  have e33 := e3 (x.fdiv 65536)
  have e34 := e3 ((x.fdiv 4294967296).fdiv 65536)
  rcases Decidable.em (x ≥ 4294967296) with ha | ha
  · rcases Decidable.em ((x.fdiv 4294967296) ≥ 65536) with hb | hb
    · rcases Decidable.em (((x.fdiv 4294967296).fdiv 65536) ≥ 256) with hc | hc
      · obtain ⟨u, hu, hu8, hu1, hu2, hu3⟩ := chkT_get tab_ok (IntKind.u8.wrap (((x.fdiv 4294967296).fdiv 65536).fdiv 256)).toNat (by rw [u8_of (by omega) (by omega)]; omega) (by rw [u8_of (by omega) (by omega)]; omega)
        have hl := leaf_bits (X := x.toNat) (k := 56) (u := u.toNat) (i := (IntKind.u8.wrap (((x.fdiv 4294967296).fdiv 65536).fdiv 256)).toNat) (by rw [u8_of (by omega) (by omega)]; omega) hu1 hu2 hu3
        refine ⟨56 + u.toNat, ⟨by omega, by omega, hl.1, hl.2⟩, ?_⟩
        refine (Con.run (v := .int .i64 (IntKind.i64.wrap (56 + IntKind.i64.wrap u.toNat))) Tryz.func121 (by kernel_rfl) rfl <|
          R.cond mixed 10 (decide (x ≥ 4294967296)) true (decide_eq_true ha) (by kernel_rfl) <|
          R.cond mixed 15 (decide ((x.fdiv 4294967296) ≥ 65536)) true (decide_eq_true hb) (by kernel_rfl) <|
          R.cond mixed 17 (decide (((x.fdiv 4294967296).fdiv 65536) ≥ 256)) true (decide_eq_true hc) (by kernel_rfl) <|
          R.strIndex mixed 16 (tabTy Tryz.prog Tryz.f121) (tabOf Tryz.prog Tryz.f121) .u8 (IntKind.u8.wrap (((x.fdiv 4294967296).fdiv 65536).fdiv 256)) u (by kernel_rfl) tab_str (by rw [u8_of (by omega) (by omega)]; omega) hu <|
          R.fin mixed Tryz.func121 (by kernel_rfl)).val rfl ?_
        rw [wrap_i64_of (n := (u.toNat : Int)) (by omega) (by omega), wrap_i64_of (by omega) (by omega)]
        simp
      · obtain ⟨u, hu, hu8, hu1, hu2, hu3⟩ := chkT_get tab_ok (IntKind.u8.wrap ((x.fdiv 4294967296).fdiv 65536)).toNat (by rw [u8_of (by omega) (by omega)]; omega) (by rw [u8_of (by omega) (by omega)]; omega)
        have hl := leaf_bits (X := x.toNat) (k := 48) (u := u.toNat) (i := (IntKind.u8.wrap ((x.fdiv 4294967296).fdiv 65536)).toNat) (by rw [u8_of (by omega) (by omega)]; omega) hu1 hu2 hu3
        refine ⟨48 + u.toNat, ⟨by omega, by omega, hl.1, hl.2⟩, ?_⟩
        refine (Con.run (v := .int .i64 (IntKind.i64.wrap (48 + IntKind.i64.wrap u.toNat))) Tryz.func121 (by kernel_rfl) rfl <|
          R.cond mixed 10 (decide (x ≥ 4294967296)) true (decide_eq_true ha) (by kernel_rfl) <|
          R.cond mixed 15 (decide ((x.fdiv 4294967296) ≥ 65536)) true (decide_eq_true hb) (by kernel_rfl) <|
          R.cond mixed 17 (decide (((x.fdiv 4294967296).fdiv 65536) ≥ 256)) false (decide_eq_false hc) (by kernel_rfl) <|
          R.strIndex mixed 6 (tabTy Tryz.prog Tryz.f121) (tabOf Tryz.prog Tryz.f121) .u8 (IntKind.u8.wrap ((x.fdiv 4294967296).fdiv 65536)) u (by kernel_rfl) tab_str (by rw [u8_of (by omega) (by omega)]; omega) hu <|
          R.fin mixed Tryz.func121 (by kernel_rfl)).val rfl ?_
        rw [wrap_i64_of (n := (u.toNat : Int)) (by omega) (by omega), wrap_i64_of (by omega) (by omega)]
        simp
    · rcases Decidable.em ((x.fdiv 4294967296) ≥ 256) with hc | hc
      · obtain ⟨u, hu, hu8, hu1, hu2, hu3⟩ := chkT_get tab_ok (IntKind.u8.wrap ((x.fdiv 4294967296).fdiv 256)).toNat (by rw [u8_of (by omega) (by omega)]; omega) (by rw [u8_of (by omega) (by omega)]; omega)
        have hl := leaf_bits (X := x.toNat) (k := 40) (u := u.toNat) (i := (IntKind.u8.wrap ((x.fdiv 4294967296).fdiv 256)).toNat) (by rw [u8_of (by omega) (by omega)]; omega) hu1 hu2 hu3
        refine ⟨40 + u.toNat, ⟨by omega, by omega, hl.1, hl.2⟩, ?_⟩
        refine (Con.run (v := .int .i64 (IntKind.i64.wrap (40 + IntKind.i64.wrap u.toNat))) Tryz.func121 (by kernel_rfl) rfl <|
          R.cond mixed 10 (decide (x ≥ 4294967296)) true (decide_eq_true ha) (by kernel_rfl) <|
          R.cond mixed 15 (decide ((x.fdiv 4294967296) ≥ 65536)) false (decide_eq_false hb) (by kernel_rfl) <|
          R.cond mixed 7 (decide ((x.fdiv 4294967296) ≥ 256)) true (decide_eq_true hc) (by kernel_rfl) <|
          R.strIndex mixed 16 (tabTy Tryz.prog Tryz.f121) (tabOf Tryz.prog Tryz.f121) .u8 (IntKind.u8.wrap ((x.fdiv 4294967296).fdiv 256)) u (by kernel_rfl) tab_str (by rw [u8_of (by omega) (by omega)]; omega) hu <|
          R.fin mixed Tryz.func121 (by kernel_rfl)).val rfl ?_
        rw [wrap_i64_of (n := (u.toNat : Int)) (by omega) (by omega), wrap_i64_of (by omega) (by omega)]
        simp
      · obtain ⟨u, hu, hu8, hu1, hu2, hu3⟩ := chkT_get tab_ok (IntKind.u8.wrap (x.fdiv 4294967296)).toNat (by rw [u8_of (by omega) (by omega)]; omega) (by rw [u8_of (by omega) (by omega)]; omega)
        have hl := leaf_bits (X := x.toNat) (k := 32) (u := u.toNat) (i := (IntKind.u8.wrap (x.fdiv 4294967296)).toNat) (by rw [u8_of (by omega) (by omega)]; omega) hu1 hu2 hu3
        refine ⟨32 + u.toNat, ⟨by omega, by omega, hl.1, hl.2⟩, ?_⟩
        refine (Con.run (v := .int .i64 (IntKind.i64.wrap (32 + IntKind.i64.wrap u.toNat))) Tryz.func121 (by kernel_rfl) rfl <|
          R.cond mixed 10 (decide (x ≥ 4294967296)) true (decide_eq_true ha) (by kernel_rfl) <|
          R.cond mixed 15 (decide ((x.fdiv 4294967296) ≥ 65536)) false (decide_eq_false hb) (by kernel_rfl) <|
          R.cond mixed 7 (decide ((x.fdiv 4294967296) ≥ 256)) false (decide_eq_false hc) (by kernel_rfl) <|
          R.strIndex mixed 6 (tabTy Tryz.prog Tryz.f121) (tabOf Tryz.prog Tryz.f121) .u8 (IntKind.u8.wrap (x.fdiv 4294967296)) u (by kernel_rfl) tab_str (by rw [u8_of (by omega) (by omega)]; omega) hu <|
          R.fin mixed Tryz.func121 (by kernel_rfl)).val rfl ?_
        rw [wrap_i64_of (n := (u.toNat : Int)) (by omega) (by omega), wrap_i64_of (by omega) (by omega)]
        simp
  · rcases Decidable.em (x ≥ 65536) with hb | hb
    · rcases Decidable.em ((x.fdiv 65536) ≥ 256) with hc | hc
      · obtain ⟨u, hu, hu8, hu1, hu2, hu3⟩ := chkT_get tab_ok (IntKind.u8.wrap ((x.fdiv 65536).fdiv 256)).toNat (by rw [u8_of (by omega) (by omega)]; omega) (by rw [u8_of (by omega) (by omega)]; omega)
        have hl := leaf_bits (X := x.toNat) (k := 24) (u := u.toNat) (i := (IntKind.u8.wrap ((x.fdiv 65536).fdiv 256)).toNat) (by rw [u8_of (by omega) (by omega)]; omega) hu1 hu2 hu3
        refine ⟨24 + u.toNat, ⟨by omega, by omega, hl.1, hl.2⟩, ?_⟩
        refine (Con.run (v := .int .i64 (IntKind.i64.wrap (24 + IntKind.i64.wrap u.toNat))) Tryz.func121 (by kernel_rfl) rfl <|
          R.cond mixed 10 (decide (x ≥ 4294967296)) false (decide_eq_false ha) (by kernel_rfl) <|
          R.cond mixed 7 (decide (x ≥ 65536)) true (decide_eq_true hb) (by kernel_rfl) <|
          R.cond mixed 17 (decide ((x.fdiv 65536) ≥ 256)) true (decide_eq_true hc) (by kernel_rfl) <|
          R.strIndex mixed 16 (tabTy Tryz.prog Tryz.f121) (tabOf Tryz.prog Tryz.f121) .u8 (IntKind.u8.wrap ((x.fdiv 65536).fdiv 256)) u (by kernel_rfl) tab_str (by rw [u8_of (by omega) (by omega)]; omega) hu <|
          R.fin mixed Tryz.func121 (by kernel_rfl)).val rfl ?_
        rw [wrap_i64_of (n := (u.toNat : Int)) (by omega) (by omega), wrap_i64_of (by omega) (by omega)]
        simp
      · obtain ⟨u, hu, hu8, hu1, hu2, hu3⟩ := chkT_get tab_ok (IntKind.u8.wrap (x.fdiv 65536)).toNat (by rw [u8_of (by omega) (by omega)]; omega) (by rw [u8_of (by omega) (by omega)]; omega)
        have hl := leaf_bits (X := x.toNat) (k := 16) (u := u.toNat) (i := (IntKind.u8.wrap (x.fdiv 65536)).toNat) (by rw [u8_of (by omega) (by omega)]; omega) hu1 hu2 hu3
        refine ⟨16 + u.toNat, ⟨by omega, by omega, hl.1, hl.2⟩, ?_⟩
        refine (Con.run (v := .int .i64 (IntKind.i64.wrap (16 + IntKind.i64.wrap u.toNat))) Tryz.func121 (by kernel_rfl) rfl <|
          R.cond mixed 10 (decide (x ≥ 4294967296)) false (decide_eq_false ha) (by kernel_rfl) <|
          R.cond mixed 7 (decide (x ≥ 65536)) true (decide_eq_true hb) (by kernel_rfl) <|
          R.cond mixed 17 (decide ((x.fdiv 65536) ≥ 256)) false (decide_eq_false hc) (by kernel_rfl) <|
          R.strIndex mixed 6 (tabTy Tryz.prog Tryz.f121) (tabOf Tryz.prog Tryz.f121) .u8 (IntKind.u8.wrap (x.fdiv 65536)) u (by kernel_rfl) tab_str (by rw [u8_of (by omega) (by omega)]; omega) hu <|
          R.fin mixed Tryz.func121 (by kernel_rfl)).val rfl ?_
        rw [wrap_i64_of (n := (u.toNat : Int)) (by omega) (by omega), wrap_i64_of (by omega) (by omega)]
        simp
    · rcases Decidable.em (x ≥ 256) with hc | hc
      · obtain ⟨u, hu, hu8, hu1, hu2, hu3⟩ := chkT_get tab_ok (IntKind.u8.wrap (x.fdiv 256)).toNat (by rw [u8_of (by omega) (by omega)]; omega) (by rw [u8_of (by omega) (by omega)]; omega)
        have hl := leaf_bits (X := x.toNat) (k := 8) (u := u.toNat) (i := (IntKind.u8.wrap (x.fdiv 256)).toNat) (by rw [u8_of (by omega) (by omega)]; omega) hu1 hu2 hu3
        refine ⟨8 + u.toNat, ⟨by omega, by omega, hl.1, hl.2⟩, ?_⟩
        refine (Con.run (v := .int .i64 (IntKind.i64.wrap (8 + IntKind.i64.wrap u.toNat))) Tryz.func121 (by kernel_rfl) rfl <|
          R.cond mixed 10 (decide (x ≥ 4294967296)) false (decide_eq_false ha) (by kernel_rfl) <|
          R.cond mixed 7 (decide (x ≥ 65536)) false (decide_eq_false hb) (by kernel_rfl) <|
          R.cond mixed 7 (decide (x ≥ 256)) true (decide_eq_true hc) (by kernel_rfl) <|
          R.strIndex mixed 16 (tabTy Tryz.prog Tryz.f121) (tabOf Tryz.prog Tryz.f121) .u8 (IntKind.u8.wrap (x.fdiv 256)) u (by kernel_rfl) tab_str (by rw [u8_of (by omega) (by omega)]; omega) hu <|
          R.fin mixed Tryz.func121 (by kernel_rfl)).val rfl ?_
        rw [wrap_i64_of (n := (u.toNat : Int)) (by omega) (by omega), wrap_i64_of (by omega) (by omega)]
        simp
      · obtain ⟨u, hu, hu8, hu1, hu2, hu3⟩ := chkT_get tab_ok (IntKind.u8.wrap x).toNat (by rw [u8_of (by omega) (by omega)]; omega) (by rw [u8_of (by omega) (by omega)]; omega)
        have hl := leaf_bits (X := x.toNat) (k := 0) (u := u.toNat) (i := (IntKind.u8.wrap x).toNat) (by rw [u8_of (by omega) (by omega)]; omega) hu1 hu2 hu3
        refine ⟨0 + u.toNat, ⟨by omega, by omega, hl.1, hl.2⟩, ?_⟩
        refine (Con.run (v := .int .i64 (IntKind.i64.wrap (0 + IntKind.i64.wrap u.toNat))) Tryz.func121 (by kernel_rfl) rfl <|
          R.cond mixed 10 (decide (x ≥ 4294967296)) false (decide_eq_false ha) (by kernel_rfl) <|
          R.cond mixed 7 (decide (x ≥ 65536)) false (decide_eq_false hb) (by kernel_rfl) <|
          R.cond mixed 7 (decide (x ≥ 256)) false (decide_eq_false hc) (by kernel_rfl) <|
          R.strIndex mixed 6 (tabTy Tryz.prog Tryz.f121) (tabOf Tryz.prog Tryz.f121) .u8 (IntKind.u8.wrap x) u (by kernel_rfl) tab_str (by rw [u8_of (by omega) (by omega)]; omega) hu <|
          R.fin mixed Tryz.func121 (by kernel_rfl)).val rfl ?_
        rw [wrap_i64_of (n := (u.toNat : Int)) (by omega) (by omega), wrap_i64_of (by omega) (by omega)]
        simp

theorem zeros64_ (x : Int) (h1 : 1 ≤ x) (h2 : x ≤ 18446744073709551615) : ∃ s : Nat, s ≤ 63 ∧ 2 ^ 63 ≤ x.toNat * 2 ^ s ∧ x.toNat * 2 ^ s < 2 ^ 64 ∧ Con Tryz.prog 120 [.int .u64 x] (.int .i64 s) := by
  obtain ⟨n, ⟨n1, n2, n3, n4⟩, hc⟩ := len64_ x h1 h2
  have p1 : 2 ^ (n - 1) * 2 ^ (64 - n) = 2 ^ 63 := by rw [← Nat.pow_add]; congr 1; omega
  have p2 : 2 ^ n * 2 ^ (64 - n) = 2 ^ 64 := by rw [← Nat.pow_add]; congr 1; omega
  refine ⟨64 - n, by omega, ?_, ?_, ?_⟩
  · rw [← p1]; exact Nat.mul_le_mul_right _ n3
  · rw [← p2]; exact Nat.mul_lt_mul_of_pos_right n4 (Nat.two_pow_pos _)
  · refine (Con.run (v := .int .i64 (IntKind.i64.wrap (64 - n))) Tryz.func120 (by kernel_rfl) rfl <| R.call mixed hc (by kernel_rfl) <| R.fin mixed Tryz.func120 (by kernel_rfl)).val rfl ?_
    rw [wrap_i64_of (by omega) (by omega)]
    congr 1
    omega

end

section
open Go Go.Dt Go.Proofs

theorem shl_parts {p p' lo : Int} (hp : 0 < p) (h : p' * p = 18446744073709551616) : lo * p / 18446744073709551616 = lo / p' := by
  rw [← h]; exact Int.mul_ediv_mul_of_pos_left lo p' hp

/-- What the shifts say of the numbers that are divided. -/
structure Shifted (hi lo y p Y u u1 u0 : Int) : Prop where
  Y0 : 9223372036854775808 ≤ Y
  Y1 : Y ≤ 18446744073709551615
  u_lo : 0 ≤ u
  u_hi : u < Y
  d1 : 0 ≤ u1 ∧ u1 < 4294967296
  d0 : 0 ≤ u0 ∧ u0 < 4294967296
  quot : ((u * 4294967296 + u1) * 4294967296 + u0) / Y = (hi * 18446744073709551616 + lo) / y
  rest : ((u * 4294967296 + u1) * 4294967296 + u0) % Y / p = (hi * 18446744073709551616 + lo) % y

theorem shifted {hi lo y p p' : Int} (h0 : 0 ≤ hi) (h1 : hi < y) (l0 : 0 ≤ lo) (l1 : lo ≤ 18446744073709551615) (hp : 0 < p) (hpp : p' * p = 18446744073709551616) (y0 : 9223372036854775808 ≤ y * p) (y1 : y * p ≤ 18446744073709551615) :
    Shifted hi lo y p (y * p) (hi * p + lo / p') (lo * p % 18446744073709551616 / 4294967296) (lo * p % 18446744073709551616 % 4294967296) := by
  have e := shl_parts (lo := lo) hp hpp
  have hlp : 0 ≤ lo * p := Int.mul_nonneg l0 (by omega)
  have hU : ((hi * p + lo / p') * 4294967296 + lo * p % 18446744073709551616 / 4294967296) * 4294967296 + lo * p % 18446744073709551616 % 4294967296 = p * (hi * 18446744073709551616 + lo) := by
    rw [← e, Int.mul_add, ← Int.mul_assoc, Int.mul_comm p hi, Int.mul_comm p lo]
    omega
  have hhp : 0 ≤ hi * p := Int.mul_nonneg h0 (by omega)
  have hX : (hi * 18446744073709551616 + lo) * p < y * 18446744073709551616 * p := Int.mul_lt_mul_of_pos_right (by omega) hp
  have hX2 : (hi * 18446744073709551616 + lo) * p = hi * p * 18446744073709551616 + lo * p := by
    rw [Int.add_mul, Int.mul_assoc, Int.mul_comm 18446744073709551616 p, ← Int.mul_assoc]
  have hX3 : y * 18446744073709551616 * p = y * p * 18446744073709551616 := by rw [Int.mul_assoc, Int.mul_comm 18446744073709551616 p, ← Int.mul_assoc]
  refine ⟨y0, y1, ?_, ?_, by omega, by omega, ?_, ?_⟩
  · rw [← e]; omega
  · rw [← e]; omega
  · rw [hU, Int.mul_comm y p, Int.mul_ediv_mul_of_pos _ _ hp]
  · rw [hU, Int.mul_comm y p, Int.mul_emod_mul_of_pos _ _ hp, Int.mul_ediv_cancel_left _ (by omega)]

/-- What is subtracted modulo 2^64. -/
theorem sub_rest {u d Y Q : Int} (hY : 0 < Y) (hY1 : Y ≤ 18446744073709551615) (hQ : Q = (u * 4294967296 + d) / Y) :
    IntKind.u64.wrap (IntKind.u64.wrap (IntKind.u64.wrap (u * 4294967296) + d) - IntKind.u64.wrap (Q * Y)) = (u * 4294967296 + d) % Y := by
  have e := Int.mul_ediv_add_emod (u * 4294967296 + d) Y
  have e1 := Int.emod_nonneg (u * 4294967296 + d) (b := Y) (by omega)
  have e2 := Int.emod_lt_of_pos (u * 4294967296 + d) hY
  rw [Int.mul_comm, ← hQ] at e
  simp only [wrap_u64]
  omega

theorem div64_ (hi lo y : Int) (h0 : 0 ≤ hi) (h1 : hi < y) (l0 : 0 ≤ lo) (l1 : lo ≤ 18446744073709551615) (y1 : y ≤ 18446744073709551615) :
    Con Tryz.prog 113 [.int .u64 hi, .int .u64 lo, .int .u64 y] (.tuple ⟨[.int .u64 ((hi * 18446744073709551616 + lo) / y), .int .u64 ((hi * 18446744073709551616 + lo) % y)]⟩) := by
  refine Con.run Tryz.func113 (by kernel_rfl) rfl ?_
  refine R.cond mixed 11 (y == 0) false (by simp; omega) (by kernel_rfl) <| R.cond mixed 8 (decide (y ≤ hi)) false (by simp; omega) (by kernel_rfl) ?_
  rcases Decidable.em (hi = 0) with hz | hz
  · subst hz
    have a1 : 0 ≤ lo / y := Int.ediv_nonneg l0 (by omega)
    have a2 : lo / y ≤ lo := Int.ediv_le_self _ l0
    rw [show (0 * 18446744073709551616 + lo) = lo by omega]
    exact R.cond mixed 7 ((0 : Int) == 0) true rfl (by kernel_rfl) <|
      R.divIs mixed 4 false .u64 lo y (lo / y) (by omega) (by rw [cond_false, tdiv_pos l0, wrap_u64_of a1 (by omega)]) (by kernel_rfl) <|
      R.divIs mixed 2 true .u64 lo y (lo % y) (by omega) (by rw [cond_true, tmod_pos l0]) (by kernel_rfl) <| R.fin mixed Tryz.func113 (by kernel_rfl)
  · obtain ⟨s, s1, s2, s3, c87⟩ := zeros64_ y (by omega) y1
    have ws : IntKind.u64.wrap (s : Int) = (s : Int) := wrap_u64_of (by omega) (by omega)
    have ws2 : IntKind.u64.wrap (64 - IntKind.u64.wrap (s : Int)) = (64 - s : Int) := by rw [ws]; exact wrap_u64_of (by omega) (by omega)
    have ms : min ((s : Int)).toNat IntKind.u64.bits = s := by
      show min _ 64 = s
      omega
    have ms2 : min ((64 - s : Int)).toNat IntKind.u64.bits = 64 - s := by
      show min _ 64 = 64 - s
      omega
    have hp : (0 : Int) < 2 ^ s := Int.pow_pos (by omega)
    have hpp : (2 : Int) ^ (64 - s) * 2 ^ s = 18446744073709551616 := by
      rw [← Int.pow_add, show 64 - s + s = 64 by omega]; decide
    have eY : ((y.toNat * 2 ^ s : Nat) : Int) = y * 2 ^ s := by
      simp only [Int.natCast_mul, Int.natCast_pow]
      congr 1
      omega
    have yb0 : 9223372036854775808 ≤ y * 2 ^ s := by rw [← eY]; omega
    have yb1 : y * 2 ^ s ≤ 18446744073709551615 := by rw [← eY]; omega
    have S := shifted h0 h1 l0 l1 hp hpp yb0 yb1
    have hiB : hi * 2 ^ s ≤ 18446744073709551615 := by
      have := Int.mul_le_mul_of_nonneg_right (show hi ≤ y by omega) (show 0 ≤ (2 : Int) ^ s by omega)
      omega
    have hib : 0 ≤ hi * 2 ^ s := Int.mul_nonneg h0 (by omega)
    have hlo : 0 ≤ lo / 2 ^ (64 - s) := Int.ediv_nonneg l0 (Int.le_of_lt (Int.pow_pos (by omega)))
    have hlo2 : lo / 2 ^ (64 - s) < 2 ^ s := by
      refine Int.ediv_lt_of_lt_mul (Int.pow_pos (by omega)) ?_
      rw [Int.mul_comm, hpp]; omega
    have hu := or_add (s := s) hlo hlo2 h0 (by have := S.u_hi; omega)
    have hlp : 0 ≤ lo * 2 ^ s := Int.mul_nonneg l0 (by omega)
    generalize hYd : y * 2 ^ s = Y at *
    generalize hLd : lo * 2 ^ s = L at *
    generalize hud : hi * 2 ^ s + lo / 2 ^ (64 - s) = u at *
    have eY1 : hi' Y = Y / 4294967296 := Int.fdiv_eq_ediv_of_nonneg _ (by omega)
    have eY0 : lo' Y = Y % 4294967296 := lo32 (by omega)
    have eL1 : hi' (L % 18446744073709551616) = L % 18446744073709551616 / 4294967296 := Int.fdiv_eq_ediv_of_nonneg _ (by omega)
    have eL0 : lo' (L % 18446744073709551616) = L % 18446744073709551616 % 4294967296 := lo32 (by omega)
    have sY := S.Y0; have sY1 := S.Y1; have su0 := S.u_lo; have su1 := S.u_hi; have sd1 := S.d1; have sd0 := S.d0; have sq := S.quot; have sr := S.rest
    generalize hd1 : L % 18446744073709551616 / 4294967296 = D1 at *
    generalize hd0 : L % 18446744073709551616 % 4294967296 = D0 at *
    have q1a : 0 ≤ u / (Y / 4294967296) := Int.ediv_nonneg su0 (by omega)
    have q1b : u / (Y / 4294967296) ≤ u := Int.ediv_le_self _ su0
    obtain ⟨td1, td2⟩ := two_digits (U := (u * 4294967296 + D1) * 4294967296 + D0) (Y := Y) (u1 := D1) (u0 := D0) (a := u) (by omega) rfl
    have e1 := Int.mul_ediv_add_emod u (Y / 4294967296)
    have e2 := Int.emod_lt_of_pos u (b := Y / 4294967296) (by omega)
    have e3 := Int.emod_nonneg u (b := Y / 4294967296) (by omega)
    rw [Int.mul_comm (Y / 4294967296)] at e1
    refine R.cond mixed 7 (hi == 0) false (by simp; omega) (by kernel_rfl) <| R.call mixed c87 (by kernel_rfl) <|
      R.shiftIs mixed 7 false .u64 y (IntKind.u64.wrap s) Y (by omega) (by rw [cond_false, ws, ms, hYd, wrap_u64_of (by omega) (by omega)]) (by kernel_rfl) <|
      R.shiftIs mixed 18 false .u64 hi (IntKind.u64.wrap s) (hi * 2 ^ s) (by omega) (by rw [cond_false, ws, ms, wrap_u64_of hib hiB]) (by kernel_rfl) <|
      R.shiftIs mixed 3 true .u64 lo (IntKind.u64.wrap (64 - IntKind.u64.wrap s)) (lo / 2 ^ (64 - s)) (by omega) (by rw [cond_true, ws2, ms2, Int.fdiv_eq_ediv_of_nonneg _ (Int.le_of_lt (Int.pow_pos (by omega)))]) (by kernel_rfl) <|
      R.shiftIs mixed 7 false .u64 lo (IntKind.u64.wrap s) (L % 18446744073709551616) (by omega) (by rw [cond_false, ws, ms, hLd, wrap_u64]) (by kernel_rfl) <|
      R.divIs mixed 18 false .u64 (IntKind.u64.wrap ↑(BitVec.ofInt 64 (hi * 2 ^ s) ||| BitVec.ofInt 64 (lo / 2 ^ (64 - s))).toNat) (hi' Y) (u / (Y / 4294967296)) (by omega)
        (by rw [cond_false, hu, eY1, tdiv_pos su0, wrap_u64_of q1a (by omega)]) (by kernel_rfl) <|
      R.at mixed 14 [2, 8, 9, 10, 11, 13, 14, 15, 16] (st := L1 Tryz.prog Tryz.f113 Y (IntKind.u64.wrap s) (hi' Y) (lo' Y) (IntKind.u64.wrap ↑(BitVec.ofInt 64 (hi * 2 ^ s) ||| BitVec.ofInt 64 (lo / 2 ^ (64 - s))).toNat) (hi' (L % 18446744073709551616)) (lo' (L % 18446744073709551616))
        (u / (Y / 4294967296)) (IntKind.u64.wrap (IntKind.u64.wrap ↑(BitVec.ofInt 64 (hi * 2 ^ s) ||| BitVec.ofInt 64 (lo / 2 ^ (64 - s))).toNat - IntKind.u64.wrap (u / (Y / 4294967296) * hi' Y)))) (by kernel_rfl) ?_
    have pa := Int.mul_nonneg q1a (show 0 ≤ Y / 4294967296 by omega)
    have hr : IntKind.u64.wrap (u - IntKind.u64.wrap (u / (Y / 4294967296) * (Y / 4294967296))) = u - u / (Y / 4294967296) * (Y / 4294967296) := by
      rw [wrap_u64_of (n := u / (Y / 4294967296) * (Y / 4294967296)) (by omega) (by omega), wrap_u64_of (by omega) (by omega)]
    rw [hu, eY1, eY0, eL1, eL0, hr]
    refine trial1 (Q := (u * 4294967296 + D1) / Y) (by omega) (by omega) (by omega) (by omega) (by omega) su0 su1 sd1.1 sd1.2 rfl rfl rfl ?_
    refine R.at mixed 12 [2, 8, 9, 10, 14, 15, 17] (st := K1 Tryz.prog Tryz.f113 Y (IntKind.u64.wrap s) (Y / 4294967296) (Y % 4294967296) D0 ((u * 4294967296 + D1) / Y)
      (IntKind.u64.wrap (IntKind.u64.wrap (IntKind.u64.wrap (u * 4294967296) + D1) - IntKind.u64.wrap ((u * 4294967296 + D1) / Y * Y)))) (by kernel_rfl) ?_
    rw [sub_rest (by omega) (by omega) rfl]
    have m0 := Int.emod_nonneg (u * 4294967296 + D1) (b := Y) (by omega)
    have m1 := Int.emod_lt_of_pos (u * 4294967296 + D1) (b := Y) (by omega)
    have q0 : 0 ≤ (u * 4294967296 + D1) / Y := Int.ediv_nonneg (by omega) (by omega)
    have q0' : (u * 4294967296 + D1) / Y < 4294967296 := Int.ediv_lt_of_lt_mul (by omega) (by omega)
    generalize (u * 4294967296 + D1) % Y = M at *
    generalize (u * 4294967296 + D1) / Y = Q1 at *
    have n1 := Int.mul_ediv_add_emod M (Y / 4294967296)
    have n2 := Int.emod_lt_of_pos M (b := Y / 4294967296) (by omega)
    have n3 := Int.emod_nonneg M (b := Y / 4294967296) (by omega)
    rw [Int.mul_comm (Y / 4294967296)] at n1
    have p1a : 0 ≤ M / (Y / 4294967296) := Int.ediv_nonneg m0 (by omega)
    have p1b : M / (Y / 4294967296) ≤ M := Int.ediv_le_self _ m0
    refine R.divIs mixed 3 false .u64 M (Y / 4294967296) (M / (Y / 4294967296)) (by omega) (by rw [cond_false, tdiv_pos m0, wrap_u64_of p1a (by omega)]) (by kernel_rfl) <|
      R.at mixed 14 [2, 8, 9, 10, 14, 15, 16, 17, 18] (st := L2 Tryz.prog Tryz.f113 Y (IntKind.u64.wrap s) (Y / 4294967296) (Y % 4294967296) D0 Q1 M (M / (Y / 4294967296)) (IntKind.u64.wrap (M - IntKind.u64.wrap (M / (Y / 4294967296) * (Y / 4294967296))))) (by kernel_rfl) ?_
    have pb := Int.mul_nonneg p1a (show 0 ≤ Y / 4294967296 by omega)
    have hr2 : IntKind.u64.wrap (M - IntKind.u64.wrap (M / (Y / 4294967296) * (Y / 4294967296))) = M - M / (Y / 4294967296) * (Y / 4294967296) := by
      rw [wrap_u64_of (n := M / (Y / 4294967296) * (Y / 4294967296)) (by omega) (by omega), wrap_u64_of (by omega) (by omega)]
    rw [hr2]
    refine trial2 (Q := (M * 4294967296 + D0) / Y) (by omega) (by omega) (by omega) (by omega) (by omega) m0 m1 sd0.1 sd0.2 rfl rfl rfl ?_
    have t0 : 0 ≤ (M * 4294967296 + D0) / Y := Int.ediv_nonneg (by omega) (by omega)
    have t0' : (M * 4294967296 + D0) / Y < 4294967296 := Int.ediv_lt_of_lt_mul (by omega) (by omega)
    have z := sub_rest (u := M) (d := D0) (Y := Y) (Q := (M * 4294967296 + D0) / Y) (by omega) (by omega) rfl
    rw [td1] at sq
    rw [td2] at sr
    rw [← sq, ← sr]
    have w : Q1 * 4294967296 + (M * 4294967296 + D0) / Y = IntKind.u64.wrap (IntKind.u64.wrap (Q1 * 4294967296) + (M * 4294967296 + D0) / Y) := by
      rw [wrap_u64_of (n := Q1 * 4294967296) (by omega) (by omega), wrap_u64_of (by omega) (by omega)]
    rw [w]
    exact R.shiftIs mixed 14 true .u64 (IntKind.u64.wrap (IntKind.u64.wrap (IntKind.u64.wrap (M * 4294967296) + D0) - IntKind.u64.wrap ((M * 4294967296 + D0) / Y * Y))) (IntKind.u64.wrap s) ((M * 4294967296 + D0) % Y / 2 ^ s) (by omega)
        (by rw [cond_true, z, ws, ms, Int.fdiv_eq_ediv_of_nonneg _ (by omega)]) (by kernel_rfl) <| R.fin mixed Tryz.func113 (by kernel_rfl)

end

section
open Go Go.Dt Go.Proofs

end

end Go.Proofs.YtfkmhhbpomkakaaGreat.Wide
