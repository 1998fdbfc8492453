/- Several texts in one: H2y, H3y. -/
import Derived.Test.YtfkmhhbpomkakaaGreatQF28
namespace Go.Proofs.YtfkmhhbpomkakaaGreat.Lf

section
open Go Go.Dt Go.Proofs Go.Proofs.YtfkmhhbpomkakaaGreat.Wide
set_option linter.unusedVariables false
set_option linter.unusedSimpArgs false

theorem FR01_Sat_eq (K : Nat) (n lo hi : Int) : FR01_Sat K n lo hi = some (Fsat n lo hi) := by
  unfold FR01_Sat Fsat Frag.sat
  rcases Decidable.em (n < lo) with h | h
  · rw [decide_eq_true h, if_pos h]; rfl
  · rw [decide_eq_false h, if_neg h]
    rcases Decidable.em (n > hi) with h2 | h2
    · rw [decide_eq_true h2, if_pos h2]; rfl
    · rw [decide_eq_false h2, if_neg h2]; rfl
theorem sat_b {n lo hi : Int} (h : lo ≤ hi) : lo ≤ Fsat n lo hi ∧ Fsat n lo hi ≤ hi := by
  unfold Fsat Frag.sat
  split
  · omega
  · split <;> omega

/-! ### Wrapped places -/
def wrapV (k n s : Int) : Int := if k = 1 then n % s else if k = 2 then (if n % (2 * s) < s then n % (2 * s) else 2 * s - 1 - n % (2 * s)) else Fsat n 0 (s - 1)
theorem Ffix_Rem_eq {n s : Int} (h1 : 1 ≤ s) (h2 : s ≤ 128) (h3 : -1048576 ≤ n) (h4 : n ≤ 1048576) (K : Nat) : Ffix_Rem K n s = some (n % s, 0) := by
  obtain ⟨e, p1, p2⟩ := Bary.tdiv_parts (a := n) (b := s) (by omega)
  have r := rem_eq (n := n) (s := s) (by omega)
  have e1 : decide (s < 1) = false := decide_eq_false (by omega)
  have e2 : (s != 0) = true := bne_iff_ne.2 (by omega)
  unfold Ffix_Rem
  simp only [e1, e2, cond_false, cond_true]
  rcases Int.lt_or_le (n.tmod s) 0 with h | h
  · rw [if_pos h] at r
    have hn : n < 0 := by
      rcases Int.lt_or_le n 0 with g | g
      · exact g
      · have := p1 g; omega
    have := p2 hn
    rw [decide_eq_true h, cond_true, wrap_i64_of (by omega) (by omega), r]
  · rw [if_neg (by omega)] at r
    rw [decide_eq_false (by omega), cond_false, r]
section
variable {k n s : Int} (hk : 0 ≤ k ∧ k ≤ 2) (hs : 1 ≤ s ∧ s ≤ 64) (hn : -1048576 ≤ n ∧ n ≤ 1048576)
include hk hs hn
omit hk hn in
theorem wrapV_b : 0 ≤ wrapV k n s ∧ wrapV k n s < s := by
  unfold wrapV
  have m1 := Int.emod_nonneg n (b := s) (by omega)
  have m2 := Int.emod_lt_of_pos n (b := s) (by omega)
  have m3 := Int.emod_nonneg n (b := 2 * s) (by omega)
  have m4 := Int.emod_lt_of_pos n (b := 2 * s) (by omega)
  split
  · omega
  · split
    · split <;> omega
    · have := sat_b (n := n) (lo := 0) (hi := s - 1) (by omega)
      omega
theorem Ftexel_Wrap_eq (K : Nat) : Ftexel_Wrap K k n s = some (wrapV k n s, 0) := by
  have e1 : decide (k < 0) = false := decide_eq_false (by omega)
  have e2 : decide (k > 2) = false := decide_eq_false (by omega)
  have e3 : decide (s < 1) = false := decide_eq_false (by omega)
  have e4 : decide (s > 64) = false := decide_eq_false (by omega)
  have e5 : Ftexel_within K n 1048576 = some true := by
    unfold Ftexel_within
    rw [wrap_i64_of (by omega) (by omega), decide_eq_true (show n ≥ 0 - 1048576 by omega), decide_eq_true hn.2]; rfl
  have w1 : IntKind.i64.wrap (2 * s) = 2 * s := wrap_i64_of (by omega) (by omega)
  have w2 : IntKind.i64.wrap (2 * s - 1) = 2 * s - 1 := wrap_i64_of (by omega) (by omega)
  have w3 : IntKind.i64.wrap (s - 1) = s - 1 := wrap_i64_of (by omega) (by omega)
  have m3 := Int.emod_nonneg n (b := 2 * s) (by omega)
  have m4 := Int.emod_lt_of_pos n (b := 2 * s) (by omega)
  have r1 := Ffix_Rem_eq (n := n) (s := s) (by omega) (by omega) (by omega) (by omega) K
  have r2 := Ffix_Rem_eq (n := n) (s := 2 * s) (by omega) (by omega) (by omega) (by omega) K
  unfold Ftexel_Wrap wrapV
  simp only [e1, e2, e3, e4, e5, cond_false, cond_true, Option.bind_some, Bool.not_true, w1, w2, w3, r1, r2]
  by_cases k1 : k = 1
  · rw [if_pos k1, beq_iff_eq.2 k1]; rfl
  · rw [if_neg k1, beq_eq_false_iff_ne.2 k1]
    by_cases k2 : k = 2
    · rw [if_pos k2, beq_iff_eq.2 k2]
      generalize n % (2 * s) = m at *
      have w4 : IntKind.i64.wrap (2 * s - 1 - m) = 2 * s - 1 - m := wrap_i64_of (by omega) (by omega)
      rw [w4]
      simp only [cond_true, cond_false]
      congr 2
      split <;> split <;> omega
    · rw [if_neg k2, beq_eq_false_iff_ne.2 k2]; rfl
theorem FR14_Wrap_eq (K : Nat) : FR14_Wrap K k n s = some (wrapV k n s) := by
  have w1 : IntKind.i64.wrap (2 * s) = 2 * s := wrap_i64_of (by omega) (by omega)
  have w2 : IntKind.i64.wrap (2 * s - 1) = 2 * s - 1 := wrap_i64_of (by omega) (by omega)
  have w3 : IntKind.i64.wrap (s - 1) = s - 1 := wrap_i64_of (by omega) (by omega)
  have fl : ∀ t : Int, 1 ≤ t → t ≤ 128 → FR01_Floor K n t = some (n / t) ∧ IntKind.i64.wrap (n - IntKind.i64.wrap (t * (n / t))) = n % t := fun t t1 t2 => by
    refine ⟨FR01_Floor_eq (by omega) (by omega) (by omega) K, ?_⟩
    have d := Int.emod_def n t
    have m1 := Int.emod_nonneg n (b := t) (by omega)
    have m2 := Int.emod_lt_of_pos n (b := t) (by omega)
    generalize t * (n / t) = q at *
    rw [wrap_i64_of (n := q) (by omega) (by omega), wrap_i64_of (by omega) (by omega)]
    omega
  obtain ⟨f1, f2⟩ := fl s (by omega) (by omega)
  obtain ⟨f3, f4⟩ := fl (2 * s) (by omega) (by omega)
  have m3 := Int.emod_nonneg n (b := 2 * s) (by omega)
  have m4 := Int.emod_lt_of_pos n (b := 2 * s) (by omega)
  unfold FR14_Wrap wrapV
  simp only [w1, w2, w3, f1, f2, f3, f4, Option.bind_some, FR01_Sat_eq]
  by_cases k0 : k = 0
  · rw [beq_iff_eq.2 k0, if_neg (by omega), if_neg (by omega)]; rfl
  · rw [beq_eq_false_iff_ne.2 k0]
    by_cases k1 : k = 1
    · rw [if_pos k1, beq_iff_eq.2 k1]; rfl
    · have k2 : k = 2 := by omega
      rw [if_neg k1, beq_eq_false_iff_ne.2 k1, if_pos k2]
      generalize n % (2 * s) = m at *
      have w4 : IntKind.i64.wrap (2 * s - 1 - m) = 2 * s - 1 - m := wrap_i64_of (by omega) (by omega)
      rw [w4]
      simp only [cond_false]
      rcases Decidable.em (m < s) with h | h
      · rw [decide_eq_true h, if_pos h]; rfl
      · rw [decide_eq_false h, if_neg h]; rfl
end

/-! ### Packed colours -/
def unpackV (n : Int) : TColor := ⟨n / 16777216, n / 65536 % 256, n / 256 % 256, n % 256⟩
section
variable {n : Int} (h0 : 0 ≤ n) (h1 : n ≤ 4294967295)
include h0 h1
theorem Ftint_Unpack_eq (K : Nat) : Ftint_Unpack K n = some (unpackV n, 0) := by
  have e1 : decide (n < 0) = false := decide_eq_false (by omega)
  have e2 : decide (n ≥ 4294967296) = false := decide_eq_false (by omega)
  unfold Ftint_Unpack unpackV
  simp only [e1, e2, cond_false, and255, Int.fdiv_eq_ediv_of_nonneg _ (show (0 : Int) ≤ 16777216 by decide), Int.fdiv_eq_ediv_of_nonneg _ (show (0 : Int) ≤ 65536 by decide), Int.fdiv_eq_ediv_of_nonneg _ (show (0 : Int) ≤ 256 by decide)]
theorem FR06_Unpack_eq (K : Nat) : FR06_Unpack K n = some (unpackV n, true) := by
  have e1 : decide (n < 0) = false := decide_eq_false (by omega)
  have e2 : decide (n > 4294967295) = false := decide_eq_false (by omega)
  have t1 : n.tdiv 16777216 = n / 16777216 := Int.tdiv_eq_ediv_of_nonneg h0
  have t2 : n.tdiv 65536 = n / 65536 := Int.tdiv_eq_ediv_of_nonneg h0
  have t3 : n.tdiv 256 = n / 256 := Int.tdiv_eq_ediv_of_nonneg h0
  have t4 : n.tmod 256 = n % 256 := Int.tmod_eq_emod_of_nonneg h0
  have w1 : IntKind.i64.wrap (n / 16777216) = n / 16777216 := wrap_i64_of (by omega) (by omega)
  have w2 : IntKind.i64.wrap (n / 65536) = n / 65536 := wrap_i64_of (by omega) (by omega)
  have w3 : IntKind.i64.wrap (n / 256) = n / 256 := wrap_i64_of (by omega) (by omega)
  unfold FR06_Unpack unpackV
  simp only [e1, e2, cond_false, t1, t2, t3, t4, w1, w2, w3, Int.tmod_eq_emod_of_nonneg (show 0 ≤ n / 65536 by omega), Int.tmod_eq_emod_of_nonneg (show 0 ≤ n / 256 by omega)]
end
theorem is8_mk {n : Int} (h0 : 0 ≤ n) (h1 : n ≤ 255) : Frag.is8 n = true := by
  unfold Frag.is8
  rw [Bool.and_eq_true, decide_eq_true_iff, decide_eq_true_iff]
  exact ⟨h0, h1⟩
def byteC (c : TColor) : Prop := (0 ≤ c.R ∧ c.R ≤ 255) ∧ (0 ≤ c.G ∧ c.G ≤ 255) ∧ (0 ≤ c.B ∧ c.B ≤ 255) ∧ 0 ≤ c.A ∧ c.A ≤ 255
theorem tint_mk {c : TColor} (h : byteC c) : Ftint c = true := by
  unfold Ftint Frag.rightC
  rw [is8_mk h.1.1 h.1.2, is8_mk h.2.1.1 h.2.1.2, is8_mk h.2.2.1.1 h.2.2.1.2, is8_mk h.2.2.2.1 h.2.2.2.2]
  rfl
theorem unpack_byte {n : Int} (h0 : 0 ≤ n) (h1 : n ≤ 4294967295) : byteC (unpackV n) := by
  unfold byteC unpackV
  simp only
  omega

/-! ### Textures that may be -/
def texOk (t : TTex) : Prop := (1 ≤ t.W ∧ t.W ≤ 64) ∧ (1 ≤ t.H ∧ t.H ≤ 64) ∧ (t.L.length : Int) = t.W * t.H ∧ ∀ i, i < t.L.length → 0 ≤ getR t.L i ∧ getR t.L i ≤ 4294967295
theorem wrap_nx {i : Nat} (h : i ≤ 1000000) : IntKind.i64.wrap ((i : Int) + 1) = ((i + 1 : Nat) : Int) := by
  rw [wrap_i64_of (by omega) (by omega)]; omega
theorem inR_mk {i n : Nat} (h : i < n) : inR (i : Int) n = true := by
  simp only [inR, Bool.and_eq_true, decide_eq_true_eq]
  omega
theorem check_same (t : TTex) : ∀ (K : Nat) (i : Int), Ftexel_Check_6 t K i = FR14_Check_6 t K i
  | 0, i => by rw [Ftexel_Check_6, FR14_Check_6]
  | K + 1, i => by
    rw [Ftexel_Check_6, FR14_Check_6, check_same t K]
    unfold Ftint_Unpack
    cases inR i t.L.length with
    | false => rfl
    | true =>
      simp only [cond_true]
      generalize getR t.L i.toNat = n
      rcases Decidable.em (n < 0) with h | h
      · rw [decide_eq_true h]; rfl
      · rw [decide_eq_false h]
        rcases Decidable.em (n > 4294967295) with h2 | h2
        · rw [decide_eq_true h2, decide_eq_true (show n ≥ 4294967296 by omega)]; rfl
        · rw [decide_eq_false h2, decide_eq_false (show ¬ n ≥ 4294967296 by omega)]; rfl
theorem Check_same (K : Nat) (t : TTex) : Ftexel_Check K t = FR14_Check K t := by
  unfold Ftexel_Check FR14_Check
  rw [check_same]
theorem check_loop {t : TTex} (hn : t.L.length ≤ 5000) : ∀ (d i K : Nat), i + d = t.L.length → d < K → FR14_Check_6 t K (i : Int) = some 3 ∨ (FR14_Check_6 t K (i : Int) = some 0 ∧ ∀ j, i ≤ j → j < t.L.length → 0 ≤ getR t.L j ∧ getR t.L j ≤ 4294967295)
  | 0, i, K + 1, h, hK => by
    have e1 : decide ((i : Int) < (t.L.length : Int)) = false := decide_eq_false (by omega)
    rw [FR14_Check_6]
    simp only [e1, cond_false]
    exact .inr ⟨trivial, fun j h1 h2 => by omega⟩
  | d + 1, i, K + 1, h, hK => by
    have e1 : decide ((i : Int) < (t.L.length : Int)) = true := decide_eq_true (by omega)
    have e2 := inR_mk (show i < t.L.length by omega)
    rw [FR14_Check_6]
    simp only [e1, e2, cond_true, Int.toNat_natCast, wrap_nx (show i ≤ 1000000 by omega)]
    rcases Decidable.em (getR t.L i < 0) with g | g
    · rw [decide_eq_true g]; exact .inl rfl
    · rw [decide_eq_false g]
      rcases Decidable.em (getR t.L i > 4294967295) with g2 | g2
      · rw [decide_eq_true g2]; exact .inl rfl
      · rw [decide_eq_false g2]
        simp only [cond_false]
        rcases check_loop hn d (i + 1) K (by omega) (by omega) with h1 | ⟨h1, h2⟩
        · exact .inl h1
        · refine .inr ⟨h1, fun j h3 h4 => ?_⟩
          rcases Nat.eq_or_lt_of_le h3 with e | e
          · subst e; exact ⟨by omega, by omega⟩
          · exact h2 j e h4
  | _, _, 0, _, hK => absurd hK (Nat.not_lt_zero _)
theorem FR14_Check_cases {t : TTex} (hn : t.L.length ≤ 5000) {K : Nat} (hK : 5000 < K) : (∃ e, FR14_Check K t = some e ∧ (e == 0) = false) ∨ (FR14_Check K t = some 0 ∧ texOk t) := by
  unfold FR14_Check
  rcases Decidable.em (t.W < 1) with h1 | h1
  · rw [decide_eq_true h1]; exact .inl ⟨3, rfl, rfl⟩
  rw [decide_eq_false h1]
  rcases Decidable.em (t.W > 64) with h2 | h2
  · rw [decide_eq_true h2]; exact .inl ⟨3, rfl, rfl⟩
  rw [decide_eq_false h2]
  rcases Decidable.em (t.H < 1) with h3 | h3
  · rw [decide_eq_true h3]; exact .inl ⟨3, rfl, rfl⟩
  rw [decide_eq_false h3]
  rcases Decidable.em (t.H > 64) with h4 | h4
  · rw [decide_eq_true h4]; exact .inl ⟨3, rfl, rfl⟩
  rw [decide_eq_false h4]
  have m := mulB (m := t.W) (x := t.H) (M := 64) (X := 64) (by omega) (by omega) (by omega) (by omega)
  rw [wrap_i64_of (n := t.W * t.H) (by omega) (by omega)]
  simp only [cond_false]
  rcases Decidable.em ((t.L.length : Int) = t.W * t.H) with h5 | h5
  · rw [show ((t.L.length : Int) != t.W * t.H) = false by simp [h5]]
    simp only [cond_false]
    rcases check_loop hn t.L.length 0 K (by omega) (by omega) with h | ⟨h, h6⟩
    · exact .inl ⟨3, h, rfl⟩
    · exact .inr ⟨h, ⟨by omega, by omega⟩, ⟨by omega, by omega⟩, h5, fun i hi => h6 i (Nat.zero_le _) hi⟩
  · rw [show ((t.L.length : Int) != t.W * t.H) = true from bne_iff_ne.2 h5]
    exact .inl ⟨6, rfl, rfl⟩

/-! ### Texels and samples -/
def txV (t : TTex) (x y k : Int) : TColor := unpackV (getR t.L (wrapV k y t.H * t.W + wrapV k x t.W).toNat)
section
variable {t : TTex} {k x y : Int} (ht : texOk t) (hk : 0 ≤ k ∧ k ≤ 2) (hx : -1048576 ≤ x ∧ x ≤ 1048576) (hy : -1048576 ≤ y ∧ y ≤ 1048576)
include ht hk hx hy
omit hk hx hy in
theorem tx_place : IntKind.i64.wrap (wrapV k y t.H * t.W) = wrapV k y t.H * t.W ∧ IntKind.i64.wrap (wrapV k y t.H * t.W + wrapV k x t.W) = wrapV k y t.H * t.W + wrapV k x t.W ∧ 0 ≤ wrapV k y t.H * t.W + wrapV k x t.W ∧ wrapV k y t.H * t.W + wrapV k x t.W < t.L.length := by
  obtain ⟨hw, hh, hl, -⟩ := ht
  have b1 := wrapV_b (k := k) (n := y) hh
  have b2 := wrapV_b (k := k) (n := x) hw
  have m1 := Int.mul_le_mul_of_nonneg_right (show wrapV k y t.H ≤ t.H - 1 by omega) (show 0 ≤ t.W by omega)
  have m2 := Int.mul_nonneg b1.1 (show 0 ≤ t.W by omega)
  have m3 := mulB (m := t.W) (x := t.H) (M := 64) (X := 64) (by omega) (by omega) (by omega) (by omega)
  rw [Int.sub_mul, Int.one_mul, Int.mul_comm t.H] at m1
  generalize wrapV k y t.H * t.W = p at *
  generalize t.W * t.H = q at *
  exact ⟨wrap_i64_of (by omega) (by omega), wrap_i64_of (by omega) (by omega), by omega, by omega⟩
omit hk hx hy in
theorem tx_get : 0 ≤ getR t.L (wrapV k y t.H * t.W + wrapV k x t.W).toNat ∧ getR t.L (wrapV k y t.H * t.W + wrapV k x t.W).toNat ≤ 4294967295 := by
  obtain ⟨-, -, p1, p2⟩ := tx_place (k := k) (x := x) (y := y) ht
  exact ht.2.2.2 _ (by omega)
theorem Ftexel_texel_eq (K : Nat) : Ftexel_texel K t x y k = some (txV t x y k) := by
  obtain ⟨w1, w2, p1, p2⟩ := tx_place (k := k) (x := x) (y := y) ht
  obtain ⟨g1, g2⟩ := tx_get (k := k) (x := x) (y := y) ht
  have e : inR (wrapV k y t.H * t.W + wrapV k x t.W) t.L.length = true := by
    simp only [inR, Bool.and_eq_true, decide_eq_true_eq]
    exact ⟨p1, p2⟩
  unfold Ftexel_texel
  simp only [Ftexel_Wrap_eq hk ht.1 hx, Ftexel_Wrap_eq hk ht.2.1 hy, Option.bind_some, w1, w2, e, cond_true, Ftint_Unpack_eq g1 g2]
  rfl
theorem FR14_At_eq (K : Nat) : FR14_At K t x y k = some (txV t x y k) := by
  obtain ⟨w1, w2, p1, p2⟩ := tx_place (k := k) (x := x) (y := y) ht
  obtain ⟨g1, g2⟩ := tx_get (k := k) (x := x) (y := y) ht
  have e : inR (wrapV k y t.H * t.W + wrapV k x t.W) t.L.length = true := by
    simp only [inR, Bool.and_eq_true, decide_eq_true_eq]
    exact ⟨p1, p2⟩
  unfold FR14_At
  simp only [FR14_Wrap_eq hk ht.1 hx, FR14_Wrap_eq hk ht.2.1 hy, Option.bind_some, w1, w2, e, cond_true, FR06_Unpack_eq g1 g2]
  rfl
omit hk hx hy in
theorem tx_byte : byteC (txV t x y k) := by
  obtain ⟨g1, g2⟩ := tx_get (k := k) (x := x) (y := y) ht
  exact unpack_byte g1 g2
end
def sumV (a b c d r s : Int) : Int := a * ((256 - r) * (256 - s)) + b * (r * (256 - s)) + c * ((256 - r) * s) + d * (r * s)
def mixV (a b c d r s : Int) : Int := (sumV a b c d r s + 32768) / 65536
section
variable {a b c d r s : Int} (ha : 0 ≤ a ∧ a ≤ 255) (hb : 0 ≤ b ∧ b ≤ 255) (hc : 0 ≤ c ∧ c ≤ 255) (hd : 0 ≤ d ∧ d ≤ 255) (hr : 0 ≤ r ∧ r ≤ 255) (hs : 0 ≤ s ∧ s ≤ 255)
include ha hb hc hd hr hs
omit ha hb hc hd in
theorem w_b : (0 ≤ (256 - r) * (256 - s) ∧ 0 ≤ r * (256 - s) ∧ 0 ≤ (256 - r) * s ∧ 0 ≤ r * s) ∧ (256 - r) * (256 - s) + r * (256 - s) + (256 - r) * s + r * s = 65536 := by
  refine ⟨⟨Int.mul_nonneg (by omega) (by omega), Int.mul_nonneg (by omega) (by omega), Int.mul_nonneg (by omega) (by omega), Int.mul_nonneg (by omega) (by omega)⟩, ?_⟩
  simp only [Int.sub_mul, Int.mul_sub]
  omega
omit hr hs in
theorem wsum {w0 w1 w2 w3 : Int} (h0 : 0 ≤ w0) (h1 : 0 ≤ w1) (h2 : 0 ≤ w2) (h3 : 0 ≤ w3) (h : w0 + w1 + w2 + w3 = 65536) :
    (0 ≤ a * w0 ∧ 0 ≤ b * w1 ∧ 0 ≤ c * w2 ∧ 0 ≤ d * w3) ∧ a * w0 + b * w1 + c * w2 + d * w3 ≤ 16711680 := by
  have a0 := Int.mul_nonneg ha.1 h0
  have a1 := Int.mul_nonneg hb.1 h1
  have a2 := Int.mul_nonneg hc.1 h2
  have a3 := Int.mul_nonneg hd.1 h3
  have b0 := Int.mul_le_mul_of_nonneg_right ha.2 h0
  have b1 := Int.mul_le_mul_of_nonneg_right hb.2 h1
  have b2 := Int.mul_le_mul_of_nonneg_right hc.2 h2
  have b3 := Int.mul_le_mul_of_nonneg_right hd.2 h3
  exact ⟨⟨a0, a1, a2, a3⟩, by omega⟩
theorem sumV_b : 0 ≤ sumV a b c d r s ∧ sumV a b c d r s ≤ 16711680 := by
  obtain ⟨⟨p0, p1, p2, p3⟩, e⟩ := w_b hr hs
  obtain ⟨⟨q0, q1, q2, q3⟩, l⟩ := wsum ha hb hc hd p0 p1 p2 p3 e
  unfold sumV
  omega
theorem mixV_b : 0 ≤ mixV a b c d r s ∧ mixV a b c d r s ≤ 255 := by
  have := sumV_b ha hb hc hd hr hs
  unfold mixV
  omega
theorem chan_eq : IntKind.i64.wrap (IntKind.i64.wrap (IntKind.i64.wrap (IntKind.i64.wrap (0 + IntKind.i64.wrap (a * IntKind.i64.wrap (IntKind.i64.wrap (256 - r) * IntKind.i64.wrap (256 - s)))) + IntKind.i64.wrap (b * IntKind.i64.wrap (r * IntKind.i64.wrap (256 - s)))) + IntKind.i64.wrap (c * IntKind.i64.wrap (IntKind.i64.wrap (256 - r) * s))) + IntKind.i64.wrap (d * IntKind.i64.wrap (r * s))) = sumV a b c d r s := by
  obtain ⟨⟨p0, p1, p2, p3⟩, e⟩ := w_b hr hs
  obtain ⟨⟨q0, q1, q2, q3⟩, l⟩ := wsum ha hb hc hd p0 p1 p2 p3 e
  rw [wrap_i64_of (n := 256 - r) (by omega) (by omega), wrap_i64_of (n := 256 - s) (by omega) (by omega)]
  unfold sumV
  rw [wrap_i64_of (n := (256 - r) * (256 - s)) (by omega) (by omega), wrap_i64_of (n := r * (256 - s)) (by omega) (by omega), wrap_i64_of (n := (256 - r) * s) (by omega) (by omega), wrap_i64_of (n := r * s) (by omega) (by omega)]
  generalize a * ((256 - r) * (256 - s)) = A at *
  generalize b * (r * (256 - s)) = B at *
  generalize c * ((256 - r) * s) = C at *
  generalize d * (r * s) = D at *
  rw [wrap_i64_of (n := A) (by omega) (by omega), wrap_i64_of (n := B) (by omega) (by omega), wrap_i64_of (n := C) (by omega) (by omega), wrap_i64_of (n := D) (by omega) (by omega),
    wrap_i64_of (n := 0 + A) (by omega) (by omega), wrap_i64_of (n := 0 + A + B) (by omega) (by omega), wrap_i64_of (n := 0 + A + B + C) (by omega) (by omega), wrap_i64_of (by omega) (by omega)]
  omega
theorem FR14_mixed_eq (K : Nat) : FR14_mixed K a b c d r s = some (mixV a b c d r s) := by
  obtain ⟨⟨p0, p1, p2, p3⟩, e⟩ := w_b hr hs
  obtain ⟨⟨q0, q1, q2, q3⟩, l⟩ := wsum ha hb hc hd p0 p1 p2 p3 e
  have m1 := mulB (m := a) (x := 256 - r) (M := 256) (X := 256) (by omega) (by omega) (by omega) (by omega)
  have m2 := mulB (m := b) (x := r) (M := 256) (X := 256) (by omega) (by omega) (by omega) (by omega)
  have m3 := mulB (m := c) (x := 256 - r) (M := 256) (X := 256) (by omega) (by omega) (by omega) (by omega)
  have m4 := mulB (m := d) (x := r) (M := 256) (X := 256) (by omega) (by omega) (by omega) (by omega)
  unfold FR14_mixed mixV sumV
  rw [wrap_i64_of (n := 256 - r) (by omega) (by omega), wrap_i64_of (n := 256 - s) (by omega) (by omega), wrap_i64_of (n := a * (256 - r)) (by omega) (by omega), wrap_i64_of (n := b * r) (by omega) (by omega), wrap_i64_of (n := c * (256 - r)) (by omega) (by omega), wrap_i64_of (n := d * r) (by omega) (by omega),
    Int.mul_assoc, Int.mul_assoc, Int.mul_assoc, Int.mul_assoc]
  generalize a * ((256 - r) * (256 - s)) = A at *
  generalize b * (r * (256 - s)) = B at *
  generalize c * ((256 - r) * s) = C at *
  generalize d * (r * s) = D at *
  rw [wrap_i64_of (n := A) (by omega) (by omega), wrap_i64_of (n := B) (by omega) (by omega), wrap_i64_of (n := C) (by omega) (by omega), wrap_i64_of (n := D) (by omega) (by omega),
    wrap_i64_of (n := A + B) (by omega) (by omega), wrap_i64_of (n := A + B + C) (by omega) (by omega), wrap_i64_of (n := A + B + C + D) (by omega) (by omega), wrap_i64_of (n := A + B + C + D + 32768) (by omega) (by omega), Int.tdiv_eq_ediv_of_nonneg (by omega), wrap_i64_of (by omega) (by omega)]
end
theorem cut_eq {n : Int} (h0 : 0 ≤ n) (h1 : n ≤ 16711680) : (IntKind.i64.wrap (n + 32768)).fdiv 65536 = (n + 32768) / 65536 := by
  rw [wrap_i64_of (by omega) (by omega), Int.fdiv_eq_ediv_of_nonneg _ (by decide)]
def quadV (a b c d : TColor) (r s : Int) : TColor := ⟨mixV a.R b.R c.R d.R r s, mixV a.G b.G c.G d.G r s, mixV a.B b.B c.B d.B r s, mixV a.A b.A c.A d.A r s⟩
theorem quad_byte {a b c d : TColor} {r s : Int} (ha : byteC a) (hb : byteC b) (hc : byteC c) (hd : byteC d) (hr : 0 ≤ r ∧ r ≤ 255) (hs : 0 ≤ s ∧ s ≤ 255) : byteC (quadV a b c d r s) :=
  ⟨mixV_b ha.1 hb.1 hc.1 hd.1 hr hs, mixV_b ha.2.1 hb.2.1 hc.2.1 hd.2.1 hr hs, mixV_b ha.2.2.1 hb.2.2.1 hc.2.2.1 hd.2.2.1 hr hs, mixV_b ha.2.2.2 hb.2.2.2 hc.2.2.2 hd.2.2.2 hr hs⟩
def sampV (t : TTex) (u v k : Int) (soft : Bool) : TColor :=
  bif !soft then txV t (u / 256) (v / 256) k
  else quadV (txV t ((u - 128) / 256) ((v - 128) / 256) k) (txV t ((u - 128) / 256 + 1) ((v - 128) / 256) k) (txV t ((u - 128) / 256) ((v - 128) / 256 + 1) k) (txV t ((u - 128) / 256 + 1) ((v - 128) / 256 + 1) k) ((u - 128) % 256) ((v - 128) % 256)
section
variable {t : TTex} {k u v : Int} (ht : texOk t) (hk : 0 ≤ k ∧ k ≤ 2) (hu : -65536 ≤ u ∧ u ≤ 65536) (hv : -65536 ≤ v ∧ v ≤ 65536) (soft : Bool)
include ht hk hu hv
theorem Ftexel_Sample_eq (K : Nat) (hc : Ftexel_check K t k = some 0) : Ftexel_Sample K t u v k soft = some (sampV t u v k soft, 0) := by
  have z0 : ((0 : Int) != 0) = false := rfl
  have e5 : ∀ n : Int, -65536 ≤ n ∧ n ≤ 65536 → Ftexel_within K n 65536 = some true := fun n h => by
    unfold Ftexel_within
    rw [wrap_i64_of (by omega) (by omega), decide_eq_true (show n ≥ 0 - 65536 by omega), decide_eq_true h.2]; rfl
  unfold Ftexel_Sample sampV
  simp only [hc, e5 u hu, e5 v hv, Option.bind_some, z0, cond_false, Bool.not_true]
  cases soft with
  | false =>
    unfold Ftexel_split
    simp only [Bool.not_false, cond_true, Option.bind_some, Int.fdiv_eq_ediv_of_nonneg _ (show (0 : Int) ≤ 256 by decide), Ftexel_texel_eq ht hk (x := u / 256) (y := v / 256) (by omega) (by omega)]
  | true =>
    have w1 : IntKind.i64.wrap (u - 128) = u - 128 := wrap_i64_of (by omega) (by omega)
    have w2 : IntKind.i64.wrap (v - 128) = v - 128 := wrap_i64_of (by omega) (by omega)
    have w3 : IntKind.i64.wrap ((u - 128) / 256 + 1) = (u - 128) / 256 + 1 := wrap_i64_of (by omega) (by omega)
    have w4 : IntKind.i64.wrap ((v - 128) / 256 + 1) = (v - 128) / 256 + 1 := wrap_i64_of (by omega) (by omega)
    have hr : 0 ≤ (u - 128) % 256 ∧ (u - 128) % 256 ≤ 255 := by omega
    have hs : 0 ≤ (v - 128) % 256 ∧ (v - 128) % 256 ≤ 255 := by omega
    have t0 := Ftexel_texel_eq ht hk (x := (u - 128) / 256) (y := (v - 128) / 256) (by omega) (by omega) K
    have t1 := Ftexel_texel_eq ht hk (x := (u - 128) / 256 + 1) (y := (v - 128) / 256) (by omega) (by omega) K
    have t2 := Ftexel_texel_eq ht hk (x := (u - 128) / 256) (y := (v - 128) / 256 + 1) (by omega) (by omega) K
    have t3 := Ftexel_texel_eq ht hk (x := (u - 128) / 256 + 1) (y := (v - 128) / 256 + 1) (by omega) (by omega) K
    have b0 := tx_byte (k := k) ht (x := (u - 128) / 256) (y := (v - 128) / 256)
    have b1 := tx_byte (k := k) ht (x := (u - 128) / 256 + 1) (y := (v - 128) / 256)
    have b2 := tx_byte (k := k) ht (x := (u - 128) / 256) (y := (v - 128) / 256 + 1)
    have b3 := tx_byte (k := k) ht (x := (u - 128) / 256 + 1) (y := (v - 128) / 256 + 1)
    unfold Ftexel_split Ftexel_Sample_2
    simp only [Bool.not_true, cond_false, Option.bind_some, w1, w2, Int.fdiv_eq_ediv_of_nonneg _ (show (0 : Int) ≤ 256 by decide), and255, w3, w4, t0, t1, t2, t3]
    generalize (u - 128) % 256 = r at *
    generalize (v - 128) % 256 = q at *
    generalize txV t ((u - 128) / 256) ((v - 128) / 256) k = c0 at *
    generalize txV t ((u - 128) / 256 + 1) ((v - 128) / 256) k = c1 at *
    generalize txV t ((u - 128) / 256) ((v - 128) / 256 + 1) k = c2 at *
    generalize txV t ((u - 128) / 256 + 1) ((v - 128) / 256 + 1) k = c3 at *
    simp only [Fadd, chan_eq b0.1 b1.1 b2.1 b3.1 hr hs, chan_eq b0.2.1 b1.2.1 b2.2.1 b3.2.1 hr hs, chan_eq b0.2.2.1 b1.2.2.1 b2.2.2.1 b3.2.2.1 hr hs, chan_eq b0.2.2.2 b1.2.2.2 b2.2.2.2 b3.2.2.2 hr hs]
    have s0 := sumV_b b0.1 b1.1 b2.1 b3.1 hr hs
    have s1 := sumV_b b0.2.1 b1.2.1 b2.2.1 b3.2.1 hr hs
    have s2 := sumV_b b0.2.2.1 b1.2.2.1 b2.2.2.1 b3.2.2.1 hr hs
    have s3 := sumV_b b0.2.2.2 b1.2.2.2 b2.2.2.2 b3.2.2.2 hr hs
    rw [cut_eq s0.1 s0.2, cut_eq s1.1 s1.2, cut_eq s2.1 s2.2, cut_eq s3.1 s3.2]
    rfl
theorem FR14_Sample_eq (K : Nat) : FR14_Sample K t u v k soft = some (sampV t u v k soft) := by
  unfold FR14_Sample sampV
  cases soft with
  | false =>
    simp only [Bool.not_false, cond_true, FR01_Floor_eq (a := u) (b := 256) (by omega) (by omega) (by decide), FR01_Floor_eq (a := v) (b := 256) (by omega) (by omega) (by decide), Option.bind_some, FR14_At_eq ht hk (x := u / 256) (y := v / 256) (by omega) (by omega)]
  | true =>
    have w1 : IntKind.i64.wrap (u - 128) = u - 128 := wrap_i64_of (by omega) (by omega)
    have w2 : IntKind.i64.wrap (v - 128) = v - 128 := wrap_i64_of (by omega) (by omega)
    have w3 : IntKind.i64.wrap ((u - 128) / 256 + 1) = (u - 128) / 256 + 1 := wrap_i64_of (by omega) (by omega)
    have w4 : IntKind.i64.wrap ((v - 128) / 256 + 1) = (v - 128) / 256 + 1 := wrap_i64_of (by omega) (by omega)
    have w5 : IntKind.i64.wrap ((u - 128) - IntKind.i64.wrap (256 * ((u - 128) / 256))) = (u - 128) % 256 := by
      rw [wrap_i64_of (n := 256 * ((u - 128) / 256)) (by omega) (by omega), wrap_i64_of (by omega) (by omega)]; omega
    have w6 : IntKind.i64.wrap ((v - 128) - IntKind.i64.wrap (256 * ((v - 128) / 256))) = (v - 128) % 256 := by
      rw [wrap_i64_of (n := 256 * ((v - 128) / 256)) (by omega) (by omega), wrap_i64_of (by omega) (by omega)]; omega
    have hr : 0 ≤ (u - 128) % 256 ∧ (u - 128) % 256 ≤ 255 := by omega
    have hs : 0 ≤ (v - 128) % 256 ∧ (v - 128) % 256 ≤ 255 := by omega
    have t0 := FR14_At_eq ht hk (x := (u - 128) / 256) (y := (v - 128) / 256) (by omega) (by omega) K
    have t1 := FR14_At_eq ht hk (x := (u - 128) / 256 + 1) (y := (v - 128) / 256) (by omega) (by omega) K
    have t2 := FR14_At_eq ht hk (x := (u - 128) / 256) (y := (v - 128) / 256 + 1) (by omega) (by omega) K
    have t3 := FR14_At_eq ht hk (x := (u - 128) / 256 + 1) (y := (v - 128) / 256 + 1) (by omega) (by omega) K
    have b0 := tx_byte (k := k) ht (x := (u - 128) / 256) (y := (v - 128) / 256)
    have b1 := tx_byte (k := k) ht (x := (u - 128) / 256 + 1) (y := (v - 128) / 256)
    have b2 := tx_byte (k := k) ht (x := (u - 128) / 256) (y := (v - 128) / 256 + 1)
    have b3 := tx_byte (k := k) ht (x := (u - 128) / 256 + 1) (y := (v - 128) / 256 + 1)
    simp only [Bool.not_true, cond_false, w1, w2, FR01_Floor_eq (a := u - 128) (b := 256) (by omega) (by omega) (by decide), FR01_Floor_eq (a := v - 128) (b := 256) (by omega) (by omega) (by decide), Option.bind_some, w3, w4, w5, w6, t0, t1, t2, t3,
      FR14_mixed_eq b0.1 b1.1 b2.1 b3.1 hr hs, FR14_mixed_eq b0.2.1 b1.2.1 b2.2.1 b3.2.1 hr hs, FR14_mixed_eq b0.2.2.1 b1.2.2.1 b2.2.2.1 b3.2.2.1 hr hs, FR14_mixed_eq b0.2.2.2 b1.2.2.2 b2.2.2.2 b3.2.2.2 hr hs]
    rfl
omit hk hu hv in
theorem samp_byte : byteC (sampV t u v k soft) := by
  unfold sampV
  cases soft with
  | false => exact tx_byte ht
  | true => exact quad_byte (tx_byte ht) (tx_byte ht) (tx_byte ht) (tx_byte ht) (by omega) (by omega)
end

end

section
open Go Go.Dt Go.Proofs Go.Proofs.YtfkmhhbpomkakaaGreat.Wide Go.Proofs.YtfkmhhbpomkakaaGreat.Bary Go.Proofs.YtfkmhhbpomkakaaGreat.Tri
set_option linter.unusedVariables false
set_option linter.unusedSimpArgs false

/-! ### Colours -/
def ofV (a : A6I) : TColor := ⟨Fsat a.e0 0 255, Fsat a.e1 0 255, Fsat a.e2 0 255, Fsat a.e3 0 255⟩
theorem of_byte (a : A6I) : byteC (ofV a) := ⟨sat_b (by decide), sat_b (by decide), sat_b (by decide), sat_b (by decide)⟩
theorem Ftint_Of_eq (K : Nat) (a : A6I) : Ftint_Of K a = some (ofV a) := rfl
theorem FR06_Of_eq (K : Nat) (a : A6I) : FR06_Of K a = some (ofV a) := by
  unfold FR06_Of
  simp only [FR01_Sat_eq, Option.bind_some]
  rfl
def tmV (a b : Int) : Int := IntKind.i64.wrap ((IntKind.i64.wrap (IntKind.i64.wrap (a * b) + 127)).tdiv 255)
theorem tmV_b {a b : Int} (ha : 0 ≤ a ∧ a ≤ 255) (hb : 0 ≤ b ∧ b ≤ 255) : 0 ≤ tmV a b ∧ tmV a b ≤ 255 := by
  have m := mulB (m := a) (x := b) (M := 255) (X := 255) (by omega) (by omega) (by omega) (by omega)
  have n := Int.mul_nonneg ha.1 hb.1
  unfold tmV
  generalize a * b = p at *
  rw [wrap_i64_of (n := p) (by omega) (by omega), wrap_i64_of (n := p + 127) (by omega) (by omega), Int.tdiv_eq_ediv_of_nonneg (by omega), wrap_i64_of (by omega) (by omega)]
  omega
def tintedV (a b : TColor) : TColor := ⟨tmV a.R b.R, tmV a.G b.G, tmV a.B b.B, tmV a.A b.A⟩
theorem tinted_byte {a b : TColor} (ha : byteC a) (hb : byteC b) : byteC (tintedV a b) := ⟨tmV_b ha.1 hb.1, tmV_b ha.2.1 hb.2.1, tmV_b ha.2.2.1 hb.2.2.1, tmV_b ha.2.2.2 hb.2.2.2⟩
theorem Ftint_Times_eq (K : Nat) {a b : TColor} (ha : byteC a) (hb : byteC b) : Ftint_Times K a b = some (tintedV a b, 0) := by
  unfold Ftint_Times
  rw [tint_mk ha, tint_mk hb]
  rfl
theorem FR06_Tinted_eq (K : Nat) (a b : TColor) : FR06_Tinted K a b = some (tintedV a b) := rfl

/-! ### What a triangle has -/
theorem maysQ_B {q : A3TSpot} (h : maysQ q) : maysB q = true := by
  unfold maysB
  rw [h.1, h.2.1, h.2.2]
  rfl
theorem fits_eq (K : Nat) (x y : Int) : FR12_Fits K x y = some (decide (fitsP x y)) := by
  unfold FR12_Fits
  rcases Decidable.em (x ≥ -32768) with h1 | h1
  · rw [decide_eq_true h1]
    rcases Decidable.em (x ≤ 32767) with h2 | h2
    · rw [decide_eq_true h2]
      rcases Decidable.em (y ≥ -32768) with h3 | h3
      · rw [decide_eq_true h3]
        rcases Decidable.em (y ≤ 32767) with h4 | h4
        · rw [decide_eq_true h4, decide_eq_true (show fitsP x y from ⟨⟨h1, h2⟩, h3, h4⟩)]; rfl
        · rw [decide_eq_false h4, decide_eq_false (show ¬ fitsP x y from fun h => h4 h.2.2)]; rfl
      · rw [decide_eq_false h3, decide_eq_false (show ¬ fitsP x y from fun h => h3 h.2.1)]; rfl
    · rw [decide_eq_false h2, decide_eq_false (show ¬ fitsP x y from fun h => h2 h.1.2)]; rfl
  · rw [decide_eq_false h1, decide_eq_false (show ¬ fitsP x y from fun h => h1 h.1.1)]; rfl
section
variable {t : TTri} (hq : maysQ t.S) (hp : 0 < sideT t.S) (x y : Int)
include hq hp
theorem FtAt_eq (K : Nat) : FtAt K t x y = some (VtAt t.S x y) := by
  unfold FtAt
  rw [maysQ_B hq, decide_eq_true hp]
  rfl
theorem FR17_Has_eq (K : Nat) : FR17_Has K t x y = some (hasT t.S x y) := by
  have o0 := mays_okP hq.1
  have o1 := mays_okP hq.2.1
  have o2 := mays_okP hq.2.2
  unfold FR17_Has
  rw [fits_eq]
  rcases Decidable.em (fitsP x y) with h | h
  · have e : FrHas K t.S.e0.P t.S.e1.P t.S.e2.P x y = some (hasT t.S x y) := by
      unfold FrHas
      rw [o0, o1, o2, decide_eq_true h, decide_eq_true (show 0 < sideI t.S.e0.P.X t.S.e0.P.Y t.S.e1.P.X t.S.e1.P.Y t.S.e2.P.X t.S.e2.P.Y from hp)]
      rfl
    rw [decide_eq_true h]
    simp only [Option.bind_some, cond_true, e]
  · have e : hasT t.S x y = false := by
      unfold hasT hasB
      rw [decide_eq_false h, Bool.false_and]
    rw [decide_eq_false h, e]
    rfl
theorem FR17_At_eq (hh : hasT t.S x y = true) (K : Nat) : FR17_At K t x y = some (atZ t.S x y, atA t.S x y) := by
  have o0 := mays_okP hq.1
  have o1 := mays_okP hq.2.1
  have o2 := mays_okP hq.2.2
  obtain ⟨m0, m1, m2⟩ := maysB_ok (maysQ_B hq)
  obtain ⟨hf, q2, q0, q1⟩ := has_parts hh
  have hm := mid_ok hf
  have b0 := side_bounds o1 o2 hm
  have b1 := side_bounds o2 o0 hm
  have b2 := side_bounds o0 o1 hm
  have hs := side_sum t.S.e0.P.X t.S.e0.P.Y t.S.e1.P.X t.S.e1.P.Y t.S.e2.P.X t.S.e2.P.Y (16 * x + 8) (16 * y + 8)
  have hp' : 0 < sideI t.S.e0.P.X t.S.e0.P.Y t.S.e1.P.X t.S.e1.P.Y t.S.e2.P.X t.S.e2.P.Y := hp
  have hmid : FR12_Middle K x y = some ⟨16 * x + 8, 16 * y + 8⟩ := by
    unfold FR12_Middle
    unfold fitsP at hf
    rw [wrap_i64_of (n := 16 * x) (by omega) (by omega), wrap_i64_of (n := 16 * x + 8) (by omega) (by omega), wrap_i64_of (n := 16 * y) (by omega) (by omega), wrap_i64_of (n := 16 * y + 8) (by omega) (by omega)]
  have hw : FrWts t.S.e0.P t.S.e1.P t.S.e2.P ⟨16 * x + 8, 16 * y + 8⟩ = ⟨wt0 t.S x y, wt1 t.S x y, wt2 t.S x y⟩ := by
    unfold FrWts
    rw [sideR_ o1 o2 hm, sideR_ o2 o0 hm, sideR_ o0 o1 hm]
    rfl
  have mx : ∀ a b c : Int, (-1073741824 ≤ a ∧ a ≤ 1073741824) → (-1073741824 ≤ b ∧ b ≤ 1073741824) → (-1073741824 ≤ c ∧ c ≤ 1073741824) → FrMix K ⟨wt0 t.S x y, wt1 t.S x y, wt2 t.S x y⟩ ⟨a, b, c⟩ = some (mixT t.S x y a b c) := fun a b c ha hb hc => by
    have hmm : mayM (wt0 t.S x y) (wt1 t.S x y) (wt2 t.S x y) a b c := by
      unfold Bary.mayM Bary.okM wt0 wt1 wt2
      omega
    unfold FrMix
    rw [decide_eq_true hmm]
    rfl
  have r : ∀ {n : Int}, Tri.ok20 n → -1073741824 ≤ n ∧ n ≤ 1073741824 := fun {n} h => by unfold Tri.ok20 at h; omega
  have z : ∀ {n : Int}, 0 ≤ n ∧ n ≤ 65535 → -1073741824 ≤ n ∧ n ≤ 1073741824 := fun {n} h => by omega
  obtain ⟨-, z0, a0, b0', c0, d0, e0, f0⟩ := m0
  obtain ⟨-, z1, a1, b1', c1, d1, e1, f1⟩ := m1
  obtain ⟨-, z2, a2, b2', c2, d2, e2, f2⟩ := m2
  unfold FR17_At
  simp only [hmid, Option.bind_some, hw, mx _ _ _ (r a0) (r a1) (r a2), mx _ _ _ (r b0') (r b1') (r b2'), mx _ _ _ (r c0) (r c1) (r c2), mx _ _ _ (r d0) (r d1) (r d2), mx _ _ _ (r e0) (r e1) (r e2), mx _ _ _ (r f0) (r f1) (r f2), mx _ _ _ (z z0) (z z1) (z z2)]
  rfl
theorem atZ_b (hh : hasT t.S x y = true) : 0 ≤ atZ t.S x y ∧ atZ t.S x y ≤ 65535 := by
  obtain ⟨m0, m1, m2⟩ := maysB_ok (maysQ_B hq)
  obtain ⟨hf, q2, q0, q1⟩ := has_parts hh
  have hs := side_sum t.S.e0.P.X t.S.e0.P.Y t.S.e1.P.X t.S.e1.P.Y t.S.e2.P.X t.S.e2.P.Y (16 * x + 8) (16 * y + 8)
  have hp' : 0 < sideI t.S.e0.P.X t.S.e0.P.Y t.S.e1.P.X t.S.e1.P.Y t.S.e2.P.X t.S.e2.P.Y := hp
  obtain ⟨-, z0, -⟩ := m0
  obtain ⟨-, z1, -⟩ := m1
  obtain ⟨-, z2, -⟩ := m2
  unfold atZ mixT mixed_
  exact mixed_range (w0 := wt0 t.S x y) (w1 := wt1 t.S x y) (w2 := wt2 t.S x y) (lo := 0) (hi := 65535) q0 q1 q2 (by unfold wt0 wt1 wt2; omega) (fun _ => z0) (fun _ => z1) (fun _ => z2)

/-! ### Fragments -/
theorem frag_both (s : TState) (img : TTex) (hn : img.L.length ≤ 5000) {K : Nat} (hK : 5000 < K) (hh : hasT t.S x y = true) :
    ∃ f : TFrag, Ffrag_Of K t s img x y = some (f, true) ∧ FR19_Of K t s img x y = some (f, true) ∧ byteC f.C ∧ f.Z = atZ t.S x y := by
  have hV : VtAt t.S x y = (atZ t.S x y, atA t.S x y, true) := by unfold VtAt; rw [hh]; rfl
  have s4 := sat_b (n := (atA t.S x y).e4) (lo := -65536) (hi := 65536) (by decide)
  have s5 := sat_b (n := (atA t.S x y).e5) (lo := -65536) (hi := 65536) (by decide)
  have ob := of_byte (atA t.S x y)
  unfold Ffrag_Of FR19_Of
  rw [FtAt_eq hq hp, FR17_Has_eq hq hp, hV, hh]
  simp only [Option.bind_some, Bool.not_true, cond_false, FR17_At_eq hq hp x y hh, Ftint_Of_eq, FR06_Of_eq]
  rcases Decidable.em (s.Tex ≤ 0) with h1 | h1
  · rw [decide_eq_true h1, decide_eq_false (show ¬ s.Tex > 0 by omega)]
    exact ⟨_, rfl, rfl, ob, rfl⟩
  · rw [decide_eq_false h1, decide_eq_true (show s.Tex > 0 by omega)]
    simp only [cond_false, cond_true]
    rcases FR14_Check_cases hn hK with ⟨e, c1, c2⟩ | ⟨c1, ht⟩
    · have c3 : (e != 0) = true := by rw [bne, c2]; rfl
      have sm : ∀ u v k (b : Bool), Ftexel_Sample K img u v k b = some (⟨0, 0, 0, 0⟩, e) := fun u v k b => by
        unfold Ftexel_Sample Ftexel_check
        rw [Check_same, c1]
        simp only [Option.bind_some, c3, cond_true]
      rw [sm, c1]
      simp only [Option.bind_some, c2, cond_false]
      exact ⟨_, rfl, rfl, ob, rfl⟩
    · have z0 : ((0 : Int) != 0) = false := rfl
      have z1 : ((0 : Int) == 0) = true := rfl
      have ck : Ftexel_check K img s.Wrap = bif decide (s.Wrap < 0) then some 9 else bif decide (s.Wrap > 2) then some 9 else some 0 := by
        unfold Ftexel_check
        rw [Check_same, c1]
        rfl
      rw [c1]
      simp only [Option.bind_some, z1, cond_true]
      have bad : ∀ u v (b : Bool), Ftexel_check K img s.Wrap = some 9 → Ftexel_Sample K img u v s.Wrap b = some (⟨0, 0, 0, 0⟩, 9) := fun u v b h => by
        unfold Ftexel_Sample
        rw [h]
        rfl
      rcases Decidable.em (s.Wrap < 0) with h2 | h2
      · rw [decide_eq_true h2] at ck
        rw [bad _ _ _ ck, decide_eq_false (show ¬ s.Wrap ≥ 0 by omega)]
        exact ⟨_, rfl, rfl, ob, rfl⟩
      · rw [decide_eq_false h2] at ck
        rw [decide_eq_true (show s.Wrap ≥ 0 by omega)]
        rcases Decidable.em (s.Wrap > 2) with h3 | h3
        · rw [decide_eq_true h3] at ck
          rw [bad _ _ _ ck, decide_eq_false (show ¬ s.Wrap ≤ 2 by omega)]
          exact ⟨_, rfl, rfl, ob, rfl⟩
        · rw [decide_eq_false h3] at ck
          have hk : 0 ≤ s.Wrap ∧ s.Wrap ≤ 2 := by omega
          have sb := samp_byte (k := s.Wrap) (u := Fsat (atA t.S x y).e4 (-65536) 65536) (v := Fsat (atA t.S x y).e5 (-65536) 65536) ht s.Soft
          rw [Ftexel_Sample_eq ht hk s4 s5 s.Soft K ck, decide_eq_true (show s.Wrap ≤ 2 by omega)]
          simp only [Option.bind_some, z1, cond_true, FR01_Sat_eq, FR14_Sample_eq ht hk s4 s5, Ftint_Times_eq K ob sb, FR06_Tinted_eq]
          exact ⟨_, rfl, rfl, tinted_byte ob sb, rfl⟩
theorem frag_none (s : TState) (img : TTex) (K : Nat) (hh : hasT t.S x y = false) : Ffrag_Of K t s img x y = some (⟨⟨0, 0, 0, 0⟩, 0⟩, false) ∧ FR19_Of K t s img x y = some (⟨⟨0, 0, 0, 0⟩, 0⟩, false) := by
  have hV : VtAt t.S x y = (0, ⟨0, 0, 0, 0, 0, 0⟩, false) := by unfold VtAt; rw [hh]; rfl
  unfold Ffrag_Of FR19_Of
  rw [FtAt_eq hq hp, FR17_Has_eq hq hp, hV, hh]
  exact ⟨rfl, rfl⟩
end
theorem may_ok {f : TFrag} (h : byteC f.C) (hz : 0 ≤ f.Z ∧ f.Z ≤ 65535) (K : Nat) : FR19_May K f = some true := by
  unfold FR19_May FR19_Deep
  rw [tint_mk h, decide_eq_true (show f.Z ≥ 0 from hz.1), decide_eq_true hz.2]
  rfl
theorem set_pos {q : A3TSpot} (hq : maysQ q) (h : (setV q 0).2 = true) : maysQ (setV q 0).1.S ∧ 0 < sideT (setV q 0).1.S := by
  obtain ⟨a, b⟩ := set_again hq h
  refine ⟨a, ?_⟩
  have e : sideT (setV q 0).1.S = sideQ (setV q 0).1.S := (sideQ_eq a).symm
  rw [e]
  obtain ⟨s1, s2⟩ := sideQ_swp hq
  unfold setV at h ⊢
  split at h
  · cases h
  · rename_i h0
    rw [if_neg h0]
    split at h
    · rename_i h1
      rw [if_pos h1, if_neg (by decide)]
      show 0 < sideQ (swp q)
      omega
    · rename_i h1
      rw [if_neg h1, if_neg (by decide)]
      show 0 < sideQ q
      omega
theorem FL19_FragOf_eq (q : A3TSpot) (k : TTemperalaw19Look) {K : Nat} (hK : 5000 < K) : FL19_FragOf K q k = some true := by
  have z0 : ((0 : Int) != 0) = false := rfl
  have z1 : ((0 : Int) == 0) = true := rfl
  unfold FL19_FragOf
  cases h0 : Fmays q.e0 with
  | false => rfl
  | true =>
    cases h1 : Fmays q.e1 with
    | false => rfl
    | true =>
      cases h2 : Fmays q.e2 with
      | false => rfl
      | true =>
        rcases Decidable.em ((k.Img.L.length : Int) > 5000) with h3 | h3
        · rw [decide_eq_true h3]; rfl
        · have hq : maysQ q := ⟨h0, h1, h2⟩
          rw [decide_eq_false h3, Ftri_Setup_eq hq (cu := 0) (by decide) (by decide)]
          simp only [Bool.not_true, cond_false, cond_true, Option.bind_some, z0, z1]
          cases hc : (setV q 0).2 with
          | false => rfl
          | true =>
            obtain ⟨hm, hp⟩ := set_pos hq hc
            simp only [Bool.not_true, cond_false]
            generalize (setV q 0).1 = t at *
            cases hh : hasT t.S k.X k.Y with
            | false =>
              obtain ⟨e1, e2⟩ := frag_none hm hp k.X k.Y ⟨⟨0, 0, 0, 0, 0, 0, 0, 0, 0, 0, 0, 0, 0, 0, 0, 0⟩, ⟨0, 0, 0, 0⟩, ⟨0, 0, 0, 0⟩, 0, false, ⟨0, 0, 0, 0, 0, 0, 0⟩, ⟨0, 0, 0, 0⟩, 0, k.Tex, k.Wrap, k.Soft⟩ k.Img K hh
              rw [e1, e2]
              simp only [Option.bind_some]
              rw [may_ok (f := ⟨⟨0, 0, 0, 0⟩, 0⟩) (by unfold byteC; decide) (by decide)]
              rfl
            | true =>
              obtain ⟨f, e1, e2, hb, hz⟩ := frag_both hm hp k.X k.Y ⟨⟨0, 0, 0, 0, 0, 0, 0, 0, 0, 0, 0, 0, 0, 0, 0, 0⟩, ⟨0, 0, 0, 0⟩, ⟨0, 0, 0, 0⟩, 0, false, ⟨0, 0, 0, 0, 0, 0, 0⟩, ⟨0, 0, 0, 0⟩, 0, k.Tex, k.Wrap, k.Soft⟩ k.Img (by omega) hK hh
              rw [e1, e2]
              simp only [Option.bind_some]
              rw [may_ok hb (by rw [hz]; exact atZ_b hm hp k.X k.Y hh)]
              simp only [beq_self_eq_true, Bool.and_self, cond_true, cond_false, Option.bind_some]
              rfl
theorem fragOf_walk (q : A3TSpot) (k : TTemperalaw19Look) : Con Tryz.prog 3 [.agg ⟨flA3TSpot.cells q⟩, .agg ⟨flTTemperalaw19Look.cells k⟩] (.bool true) := cL19_FragOf 10000 q k true (FL19_FragOf_eq q k (by decide))

end

end Go.Proofs.YtfkmhhbpomkakaaGreat.Lf
