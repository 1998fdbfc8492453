/- bits.Len64, bits.LeadingZeros64. -/
import Derived.Test.YtfkmhhbpomkakaaWJ2
namespace Go.Proofs.Ytfkmhhbpomkakaa.Wide
open Go Go.Dt Go.Proofs

def tabOf (P : Program) (fn : Func) : ByteArray := match strAt (vadv P 33 (entry fn [.int .u64 1] [])) with
  | some (_, b, _, _) => b
  | none => .empty
def tabTy (P : Program) (fn : Func) : TypeId := match strAt (vadv P 33 (entry fn [.int .u64 1] [])) with
  | some (t, _, _, _) => t
  | none => 0
def chkT (b : ByteArray) : Nat → Bool
  | 0 => true
  | n + 1 => chkT b n && (match b[n]? with
    | some u => Nat.ble u.toNat 8 && (Nat.beq n 0 || (Nat.ble 1 u.toNat && Nat.ble (2 ^ (u.toNat - 1)) n && Nat.blt n (2 ^ u.toNat)))
    | none => false)
theorem chkT_get {b : ByteArray} : ∀ {n : Nat}, chkT b n = true → ∀ i, i < n → 1 ≤ i → ∃ u : UInt8, b[i]? = some u ∧ u.toNat ≤ 8 ∧ 1 ≤ u.toNat ∧ 2 ^ (u.toNat - 1) ≤ i ∧ i < 2 ^ u.toNat
  | 0, _, i, h, _ => by omega
  | n + 1, h, i, hi, h1 => by
    simp only [chkT, Bool.and_eq_true] at h
    rcases Nat.lt_or_ge i n with hlt | hge
    · exact chkT_get h.1 i hlt h1
    · have e : i = n := by omega
      subst e
      have h2 := h.2
      split at h2
      · rename_i u hu
        simp only [Bool.and_eq_true, Bool.or_eq_true] at h2
        refine ⟨u, hu, Nat.le_of_ble_eq_true h2.1, ?_⟩
        rcases h2.2 with h3 | h3
        · have := Nat.eq_of_beq_eq_true h3; omega
        · exact ⟨Nat.le_of_ble_eq_true h3.1.1, Nat.le_of_ble_eq_true h3.1.2, Nat.le_of_ble_eq_true h3.2⟩
      · cases h2
theorem tab_ok : chkT (tabOf Try.prog Try.f166) 256 = true := by kernel_rfl
theorem tab_str : Try.prog.underlying (tabTy Try.prog Try.f166) = some .string := by kernel_rfl

theorem leaf_bits {X k u i : Nat} (hi : X / 2 ^ k = i) (hu : 1 ≤ u) (h1 : 2 ^ (u - 1) ≤ i) (h2 : i < 2 ^ u) : 2 ^ (k + u - 1) ≤ X ∧ X < 2 ^ (k + u) := by
  have hp : 0 < 2 ^ k := Nat.two_pow_pos k
  subst hi
  constructor
  · rw [show k + u - 1 = u - 1 + k by omega, Nat.pow_add]
    exact (Nat.le_div_iff_mul_le hp).1 h1
  · rw [Nat.add_comm, Nat.pow_add]
    exact (Nat.div_lt_iff_lt_mul hp).1 h2

/-- A number's length in bits. -/
def Bits (X n : Nat) : Prop := 1 ≤ n ∧ n ≤ 64 ∧ 2 ^ (n - 1) ≤ X ∧ X < 2 ^ n

theorem u8_of {x : Int} (h : 0 ≤ x) (h2 : x < 256) : IntKind.u8.wrap x = x := by
  unfold IntKind.wrap
  simp [IntKind.signed, IntKind.bits]
  omega

theorem len64_ (x : Int) (h1 : 1 ≤ x) (h2 : x ≤ 18446744073709551615) : ∃ n : Nat, Bits x.toNat n ∧ Con Try.prog 166 [.int .u64 x] (.int .i64 n) := by
  have e1 : x.fdiv 4294967296 = x / 4294967296 := Int.fdiv_eq_ediv_of_nonneg _ (by omega)
  have e2 : ∀ z : Int, z.fdiv 65536 = z / 65536 := fun z => Int.fdiv_eq_ediv_of_nonneg _ (by omega)
  have e3 : ∀ z : Int, z.fdiv 256 = z / 256 := fun z => Int.fdiv_eq_ediv_of_nonneg _ (by omega)
  have e21 := e2 x
  have e22 := e2 (x.fdiv 4294967296)
  have e31 := e3 x
  have e32 := e3 (x.fdiv 4294967296)
  have e33 := e3 (x.fdiv 65536)
  have e34 := e3 ((x.fdiv 4294967296).fdiv 65536)
  rcases Decidable.em (x ≥ 4294967296) with ha | ha
  · rcases Decidable.em ((x.fdiv 4294967296) ≥ 65536) with hb | hb
    · rcases Decidable.em (((x.fdiv 4294967296).fdiv 65536) ≥ 256) with hc | hc
      · obtain ⟨u, hu, hu8, hu1, hu2, hu3⟩ := chkT_get tab_ok (IntKind.u8.wrap (((x.fdiv 4294967296).fdiv 65536).fdiv 256)).toNat (by rw [u8_of (by omega) (by omega)]; omega) (by rw [u8_of (by omega) (by omega)]; omega)
        have hl := leaf_bits (X := x.toNat) (k := 56) (u := u.toNat) (i := (IntKind.u8.wrap (((x.fdiv 4294967296).fdiv 65536).fdiv 256)).toNat) (by rw [u8_of (by omega) (by omega)]; omega) hu1 hu2 hu3
        refine ⟨56 + u.toNat, ⟨by omega, by omega, hl.1, hl.2⟩, ?_⟩
        refine (Con.run (v := .int .i64 (IntKind.i64.wrap (56 + IntKind.i64.wrap u.toNat))) Try.func166 (by kernel_rfl) rfl <|
          R.cond mixed 10 (decide (x ≥ 4294967296)) true (decide_eq_true ha) (by kernel_rfl) <|
          R.cond mixed 15 (decide ((x.fdiv 4294967296) ≥ 65536)) true (decide_eq_true hb) (by kernel_rfl) <|
          R.cond mixed 17 (decide (((x.fdiv 4294967296).fdiv 65536) ≥ 256)) true (decide_eq_true hc) (by kernel_rfl) <|
          R.strIndex mixed 16 (tabTy Try.prog Try.f166) (tabOf Try.prog Try.f166) .u8 (IntKind.u8.wrap (((x.fdiv 4294967296).fdiv 65536).fdiv 256)) u (by kernel_rfl) tab_str (by rw [u8_of (by omega) (by omega)]; omega) hu <|
          R.fin mixed Try.func166 (by kernel_rfl)).val rfl ?_
        rw [wrap_i64_of (n := (u.toNat : Int)) (by omega) (by omega), wrap_i64_of (by omega) (by omega)]
        simp
      · obtain ⟨u, hu, hu8, hu1, hu2, hu3⟩ := chkT_get tab_ok (IntKind.u8.wrap ((x.fdiv 4294967296).fdiv 65536)).toNat (by rw [u8_of (by omega) (by omega)]; omega) (by rw [u8_of (by omega) (by omega)]; omega)
        have hl := leaf_bits (X := x.toNat) (k := 48) (u := u.toNat) (i := (IntKind.u8.wrap ((x.fdiv 4294967296).fdiv 65536)).toNat) (by rw [u8_of (by omega) (by omega)]; omega) hu1 hu2 hu3
        refine ⟨48 + u.toNat, ⟨by omega, by omega, hl.1, hl.2⟩, ?_⟩
        refine (Con.run (v := .int .i64 (IntKind.i64.wrap (48 + IntKind.i64.wrap u.toNat))) Try.func166 (by kernel_rfl) rfl <|
          R.cond mixed 10 (decide (x ≥ 4294967296)) true (decide_eq_true ha) (by kernel_rfl) <|
          R.cond mixed 15 (decide ((x.fdiv 4294967296) ≥ 65536)) true (decide_eq_true hb) (by kernel_rfl) <|
          R.cond mixed 17 (decide (((x.fdiv 4294967296).fdiv 65536) ≥ 256)) false (decide_eq_false hc) (by kernel_rfl) <|
          R.strIndex mixed 6 (tabTy Try.prog Try.f166) (tabOf Try.prog Try.f166) .u8 (IntKind.u8.wrap ((x.fdiv 4294967296).fdiv 65536)) u (by kernel_rfl) tab_str (by rw [u8_of (by omega) (by omega)]; omega) hu <|
          R.fin mixed Try.func166 (by kernel_rfl)).val rfl ?_
        rw [wrap_i64_of (n := (u.toNat : Int)) (by omega) (by omega), wrap_i64_of (by omega) (by omega)]
        simp
    · rcases Decidable.em ((x.fdiv 4294967296) ≥ 256) with hc | hc
      · obtain ⟨u, hu, hu8, hu1, hu2, hu3⟩ := chkT_get tab_ok (IntKind.u8.wrap ((x.fdiv 4294967296).fdiv 256)).toNat (by rw [u8_of (by omega) (by omega)]; omega) (by rw [u8_of (by omega) (by omega)]; omega)
        have hl := leaf_bits (X := x.toNat) (k := 40) (u := u.toNat) (i := (IntKind.u8.wrap ((x.fdiv 4294967296).fdiv 256)).toNat) (by rw [u8_of (by omega) (by omega)]; omega) hu1 hu2 hu3
        refine ⟨40 + u.toNat, ⟨by omega, by omega, hl.1, hl.2⟩, ?_⟩
        refine (Con.run (v := .int .i64 (IntKind.i64.wrap (40 + IntKind.i64.wrap u.toNat))) Try.func166 (by kernel_rfl) rfl <|
          R.cond mixed 10 (decide (x ≥ 4294967296)) true (decide_eq_true ha) (by kernel_rfl) <|
          R.cond mixed 15 (decide ((x.fdiv 4294967296) ≥ 65536)) false (decide_eq_false hb) (by kernel_rfl) <|
          R.cond mixed 7 (decide ((x.fdiv 4294967296) ≥ 256)) true (decide_eq_true hc) (by kernel_rfl) <|
          R.strIndex mixed 16 (tabTy Try.prog Try.f166) (tabOf Try.prog Try.f166) .u8 (IntKind.u8.wrap ((x.fdiv 4294967296).fdiv 256)) u (by kernel_rfl) tab_str (by rw [u8_of (by omega) (by omega)]; omega) hu <|
          R.fin mixed Try.func166 (by kernel_rfl)).val rfl ?_
        rw [wrap_i64_of (n := (u.toNat : Int)) (by omega) (by omega), wrap_i64_of (by omega) (by omega)]
        simp
      · obtain ⟨u, hu, hu8, hu1, hu2, hu3⟩ := chkT_get tab_ok (IntKind.u8.wrap (x.fdiv 4294967296)).toNat (by rw [u8_of (by omega) (by omega)]; omega) (by rw [u8_of (by omega) (by omega)]; omega)
        have hl := leaf_bits (X := x.toNat) (k := 32) (u := u.toNat) (i := (IntKind.u8.wrap (x.fdiv 4294967296)).toNat) (by rw [u8_of (by omega) (by omega)]; omega) hu1 hu2 hu3
        refine ⟨32 + u.toNat, ⟨by omega, by omega, hl.1, hl.2⟩, ?_⟩
        refine (Con.run (v := .int .i64 (IntKind.i64.wrap (32 + IntKind.i64.wrap u.toNat))) Try.func166 (by kernel_rfl) rfl <|
          R.cond mixed 10 (decide (x ≥ 4294967296)) true (decide_eq_true ha) (by kernel_rfl) <|
          R.cond mixed 15 (decide ((x.fdiv 4294967296) ≥ 65536)) false (decide_eq_false hb) (by kernel_rfl) <|
          R.cond mixed 7 (decide ((x.fdiv 4294967296) ≥ 256)) false (decide_eq_false hc) (by kernel_rfl) <|
          R.strIndex mixed 6 (tabTy Try.prog Try.f166) (tabOf Try.prog Try.f166) .u8 (IntKind.u8.wrap (x.fdiv 4294967296)) u (by kernel_rfl) tab_str (by rw [u8_of (by omega) (by omega)]; omega) hu <|
          R.fin mixed Try.func166 (by kernel_rfl)).val rfl ?_
        rw [wrap_i64_of (n := (u.toNat : Int)) (by omega) (by omega), wrap_i64_of (by omega) (by omega)]
        simp
  · rcases Decidable.em (x ≥ 65536) with hb | hb
    · rcases Decidable.em ((x.fdiv 65536) ≥ 256) with hc | hc
      · obtain ⟨u, hu, hu8, hu1, hu2, hu3⟩ := chkT_get tab_ok (IntKind.u8.wrap ((x.fdiv 65536).fdiv 256)).toNat (by rw [u8_of (by omega) (by omega)]; omega) (by rw [u8_of (by omega) (by omega)]; omega)
        have hl := leaf_bits (X := x.toNat) (k := 24) (u := u.toNat) (i := (IntKind.u8.wrap ((x.fdiv 65536).fdiv 256)).toNat) (by rw [u8_of (by omega) (by omega)]; omega) hu1 hu2 hu3
        refine ⟨24 + u.toNat, ⟨by omega, by omega, hl.1, hl.2⟩, ?_⟩
        refine (Con.run (v := .int .i64 (IntKind.i64.wrap (24 + IntKind.i64.wrap u.toNat))) Try.func166 (by kernel_rfl) rfl <|
          R.cond mixed 10 (decide (x ≥ 4294967296)) false (decide_eq_false ha) (by kernel_rfl) <|
          R.cond mixed 7 (decide (x ≥ 65536)) true (decide_eq_true hb) (by kernel_rfl) <|
          R.cond mixed 17 (decide ((x.fdiv 65536) ≥ 256)) true (decide_eq_true hc) (by kernel_rfl) <|
          R.strIndex mixed 16 (tabTy Try.prog Try.f166) (tabOf Try.prog Try.f166) .u8 (IntKind.u8.wrap ((x.fdiv 65536).fdiv 256)) u (by kernel_rfl) tab_str (by rw [u8_of (by omega) (by omega)]; omega) hu <|
          R.fin mixed Try.func166 (by kernel_rfl)).val rfl ?_
        rw [wrap_i64_of (n := (u.toNat : Int)) (by omega) (by omega), wrap_i64_of (by omega) (by omega)]
        simp
      · obtain ⟨u, hu, hu8, hu1, hu2, hu3⟩ := chkT_get tab_ok (IntKind.u8.wrap (x.fdiv 65536)).toNat (by rw [u8_of (by omega) (by omega)]; omega) (by rw [u8_of (by omega) (by omega)]; omega)
        have hl := leaf_bits (X := x.toNat) (k := 16) (u := u.toNat) (i := (IntKind.u8.wrap (x.fdiv 65536)).toNat) (by rw [u8_of (by omega) (by omega)]; omega) hu1 hu2 hu3
        refine ⟨16 + u.toNat, ⟨by omega, by omega, hl.1, hl.2⟩, ?_⟩
        refine (Con.run (v := .int .i64 (IntKind.i64.wrap (16 + IntKind.i64.wrap u.toNat))) Try.func166 (by kernel_rfl) rfl <|
          R.cond mixed 10 (decide (x ≥ 4294967296)) false (decide_eq_false ha) (by kernel_rfl) <|
          R.cond mixed 7 (decide (x ≥ 65536)) true (decide_eq_true hb) (by kernel_rfl) <|
          R.cond mixed 17 (decide ((x.fdiv 65536) ≥ 256)) false (decide_eq_false hc) (by kernel_rfl) <|
          R.strIndex mixed 6 (tabTy Try.prog Try.f166) (tabOf Try.prog Try.f166) .u8 (IntKind.u8.wrap (x.fdiv 65536)) u (by kernel_rfl) tab_str (by rw [u8_of (by omega) (by omega)]; omega) hu <|
          R.fin mixed Try.func166 (by kernel_rfl)).val rfl ?_
        rw [wrap_i64_of (n := (u.toNat : Int)) (by omega) (by omega), wrap_i64_of (by omega) (by omega)]
        simp
    · rcases Decidable.em (x ≥ 256) with hc | hc
      · obtain ⟨u, hu, hu8, hu1, hu2, hu3⟩ := chkT_get tab_ok (IntKind.u8.wrap (x.fdiv 256)).toNat (by rw [u8_of (by omega) (by omega)]; omega) (by rw [u8_of (by omega) (by omega)]; omega)
        have hl := leaf_bits (X := x.toNat) (k := 8) (u := u.toNat) (i := (IntKind.u8.wrap (x.fdiv 256)).toNat) (by rw [u8_of (by omega) (by omega)]; omega) hu1 hu2 hu3
        refine ⟨8 + u.toNat, ⟨by omega, by omega, hl.1, hl.2⟩, ?_⟩
        refine (Con.run (v := .int .i64 (IntKind.i64.wrap (8 + IntKind.i64.wrap u.toNat))) Try.func166 (by kernel_rfl) rfl <|
          R.cond mixed 10 (decide (x ≥ 4294967296)) false (decide_eq_false ha) (by kernel_rfl) <|
          R.cond mixed 7 (decide (x ≥ 65536)) false (decide_eq_false hb) (by kernel_rfl) <|
          R.cond mixed 7 (decide (x ≥ 256)) true (decide_eq_true hc) (by kernel_rfl) <|
          R.strIndex mixed 16 (tabTy Try.prog Try.f166) (tabOf Try.prog Try.f166) .u8 (IntKind.u8.wrap (x.fdiv 256)) u (by kernel_rfl) tab_str (by rw [u8_of (by omega) (by omega)]; omega) hu <|
          R.fin mixed Try.func166 (by kernel_rfl)).val rfl ?_
        rw [wrap_i64_of (n := (u.toNat : Int)) (by omega) (by omega), wrap_i64_of (by omega) (by omega)]
        simp
      · obtain ⟨u, hu, hu8, hu1, hu2, hu3⟩ := chkT_get tab_ok (IntKind.u8.wrap x).toNat (by rw [u8_of (by omega) (by omega)]; omega) (by rw [u8_of (by omega) (by omega)]; omega)
        have hl := leaf_bits (X := x.toNat) (k := 0) (u := u.toNat) (i := (IntKind.u8.wrap x).toNat) (by rw [u8_of (by omega) (by omega)]; omega) hu1 hu2 hu3
        refine ⟨0 + u.toNat, ⟨by omega, by omega, hl.1, hl.2⟩, ?_⟩
        refine (Con.run (v := .int .i64 (IntKind.i64.wrap (0 + IntKind.i64.wrap u.toNat))) Try.func166 (by kernel_rfl) rfl <|
          R.cond mixed 10 (decide (x ≥ 4294967296)) false (decide_eq_false ha) (by kernel_rfl) <|
          R.cond mixed 7 (decide (x ≥ 65536)) false (decide_eq_false hb) (by kernel_rfl) <|
          R.cond mixed 7 (decide (x ≥ 256)) false (decide_eq_false hc) (by kernel_rfl) <|
          R.strIndex mixed 6 (tabTy Try.prog Try.f166) (tabOf Try.prog Try.f166) .u8 (IntKind.u8.wrap x) u (by kernel_rfl) tab_str (by rw [u8_of (by omega) (by omega)]; omega) hu <|
          R.fin mixed Try.func166 (by kernel_rfl)).val rfl ?_
        rw [wrap_i64_of (n := (u.toNat : Int)) (by omega) (by omega), wrap_i64_of (by omega) (by omega)]
        simp

theorem zeros64_ (x : Int) (h1 : 1 ≤ x) (h2 : x ≤ 18446744073709551615) : ∃ s : Nat, s ≤ 63 ∧ 2 ^ 63 ≤ x.toNat * 2 ^ s ∧ x.toNat * 2 ^ s < 2 ^ 64 ∧ Con Try.prog 162 [.int .u64 x] (.int .i64 s) := by
  obtain ⟨n, ⟨n1, n2, n3, n4⟩, hc⟩ := len64_ x h1 h2
  have p1 : 2 ^ (n - 1) * 2 ^ (64 - n) = 2 ^ 63 := by rw [← Nat.pow_add]; congr 1; omega
  have p2 : 2 ^ n * 2 ^ (64 - n) = 2 ^ 64 := by rw [← Nat.pow_add]; congr 1; omega
  refine ⟨64 - n, by omega, ?_, ?_, ?_⟩
  · rw [← p1]; exact Nat.mul_le_mul_right _ n3
  · rw [← p2]; exact Nat.mul_lt_mul_of_pos_right n4 (Nat.two_pow_pos _)
  · refine (Con.run (v := .int .i64 (IntKind.i64.wrap (64 - n))) Try.func162 (by kernel_rfl) rfl <| R.call mixed hc (by kernel_rfl) <| R.fin mixed Try.func162 (by kernel_rfl)).val rfl ?_
    rw [wrap_i64_of (by omega) (by omega)]
    congr 1
    omega

end Go.Proofs.Ytfkmhhbpomkakaa.Wide
