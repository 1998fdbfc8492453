/- Stencils and depths: bits. -/
import Derived.Test.YtfkmhhbpomkakaaFC
namespace Go.Proofs.Ytfkmhhbpomkakaa.Frag
open Go Go.Dt Go.Proofs
set_option linter.unusedVariables false
set_option linter.unusedSimpArgs false

def bitA (p a : Int) : Bool := (IntKind.i64.wrap (a.tdiv p)).tmod 2 == 1
def stepA (p a b n : Int) : Int := bif bitA p a && bitA p b then IntKind.i64.wrap (n + p) else n
def andA (a b : Int) : Int := (stepA 128 a b (stepA 64 a b (stepA 32 a b (stepA 16 a b (stepA 8 a b (stepA 4 a b (stepA 2 a b (stepA 1 a b 0))))))))
def deedV (k o r : Int) : Int := if k = 1 then 0 else if k = 2 then r else if k = 3 then (if o = 255 then 255 else o + 1) else if k = 4 then (if o = 0 then 0 else o - 1) else if k = 5 then 255 - o else if k = 6 then (o + 1) % 256 else if k = 7 then (o + 255) % 256 else o
def rpass (k a b : Int) : Bool := if k = 1 then decide (a < b) else if k = 2 then decide (a = b) else if k = 3 then decide (a ≤ b) else if k = 4 then decide (a > b) else if k = 5 then decide (a ≠ b) else if k = 6 then decide (a ≥ b) else if k = 7 then true else false
def putS (k r w o : Int) : Int := IntKind.i64.wrap (andA (deedV k o r) w + andA o (IntKind.i64.wrap (255 - w)))

def LA (P : Program) (fn : Func) (a b n p i : Int) : VS := puts [(0, .int .i64 a), (1, .int .i64 b), (5, .int .i64 n), (6, .int .i64 p), (7, .int .i64 i)] (keepS [] (vadv P 21 (entry fn [.int .i64 1, .int .i64 1] [])))

theorem and_0 {a b n : Int} {v : Value} (h : RunsE Try.prog 130 0 (LA Try.prog Try.f130 a b (stepA 1 a b n) 2 1) v) : RunsE Try.prog 130 0 (LA Try.prog Try.f130 a b n 1 0) v := by
  unfold stepA bitA at h
  refine R.guard mixed 17 ((IntKind.i64.wrap (a.tdiv 1)).tmod 2 == 1) (by kernel_rfl) (fun h0 => ?_) (fun h0 => ?_)
  · refine R.branch mixed 7 (bif true then ((IntKind.i64.wrap (b.tdiv 1)).tmod 2 == 1) else false) (by kernel_rfl) (fun h1 => ?_) (fun h1 => ?_)
    · rw [cond_true] at h1
      rw [h0, h1] at h
      exact R.at mixed 20 [0, 1, 5, 6, 7] (st := LA Try.prog Try.f130 a b (IntKind.i64.wrap (n + 1)) 2 1) (by kernel_rfl) h
    · rw [cond_true] at h1
      rw [h0, h1] at h
      exact R.at mixed 15 [0, 1, 5, 6, 7] (st := LA Try.prog Try.f130 a b n 2 1) (by kernel_rfl) h
  · rw [h0] at h
    exact R.at mixed 23 [0, 1, 5, 6, 7] (st := LA Try.prog Try.f130 a b n 2 1) (by kernel_rfl) h

theorem and_1 {a b n : Int} {v : Value} (h : RunsE Try.prog 130 0 (LA Try.prog Try.f130 a b (stepA 2 a b n) 4 2) v) : RunsE Try.prog 130 0 (LA Try.prog Try.f130 a b n 2 1) v := by
  unfold stepA bitA at h
  refine R.guard mixed 17 ((IntKind.i64.wrap (a.tdiv 2)).tmod 2 == 1) (by kernel_rfl) (fun h0 => ?_) (fun h0 => ?_)
  · refine R.branch mixed 7 (bif true then ((IntKind.i64.wrap (b.tdiv 2)).tmod 2 == 1) else false) (by kernel_rfl) (fun h1 => ?_) (fun h1 => ?_)
    · rw [cond_true] at h1
      rw [h0, h1] at h
      exact R.at mixed 20 [0, 1, 5, 6, 7] (st := LA Try.prog Try.f130 a b (IntKind.i64.wrap (n + 2)) 4 2) (by kernel_rfl) h
    · rw [cond_true] at h1
      rw [h0, h1] at h
      exact R.at mixed 15 [0, 1, 5, 6, 7] (st := LA Try.prog Try.f130 a b n 4 2) (by kernel_rfl) h
  · rw [h0] at h
    exact R.at mixed 23 [0, 1, 5, 6, 7] (st := LA Try.prog Try.f130 a b n 4 2) (by kernel_rfl) h

theorem and_2 {a b n : Int} {v : Value} (h : RunsE Try.prog 130 0 (LA Try.prog Try.f130 a b (stepA 4 a b n) 8 3) v) : RunsE Try.prog 130 0 (LA Try.prog Try.f130 a b n 4 2) v := by
  unfold stepA bitA at h
  refine R.guard mixed 17 ((IntKind.i64.wrap (a.tdiv 4)).tmod 2 == 1) (by kernel_rfl) (fun h0 => ?_) (fun h0 => ?_)
  · refine R.branch mixed 7 (bif true then ((IntKind.i64.wrap (b.tdiv 4)).tmod 2 == 1) else false) (by kernel_rfl) (fun h1 => ?_) (fun h1 => ?_)
    · rw [cond_true] at h1
      rw [h0, h1] at h
      exact R.at mixed 20 [0, 1, 5, 6, 7] (st := LA Try.prog Try.f130 a b (IntKind.i64.wrap (n + 4)) 8 3) (by kernel_rfl) h
    · rw [cond_true] at h1
      rw [h0, h1] at h
      exact R.at mixed 15 [0, 1, 5, 6, 7] (st := LA Try.prog Try.f130 a b n 8 3) (by kernel_rfl) h
  · rw [h0] at h
    exact R.at mixed 23 [0, 1, 5, 6, 7] (st := LA Try.prog Try.f130 a b n 8 3) (by kernel_rfl) h

theorem and_3 {a b n : Int} {v : Value} (h : RunsE Try.prog 130 0 (LA Try.prog Try.f130 a b (stepA 8 a b n) 16 4) v) : RunsE Try.prog 130 0 (LA Try.prog Try.f130 a b n 8 3) v := by
  unfold stepA bitA at h
  refine R.guard mixed 17 ((IntKind.i64.wrap (a.tdiv 8)).tmod 2 == 1) (by kernel_rfl) (fun h0 => ?_) (fun h0 => ?_)
  · refine R.branch mixed 7 (bif true then ((IntKind.i64.wrap (b.tdiv 8)).tmod 2 == 1) else false) (by kernel_rfl) (fun h1 => ?_) (fun h1 => ?_)
    · rw [cond_true] at h1
      rw [h0, h1] at h
      exact R.at mixed 20 [0, 1, 5, 6, 7] (st := LA Try.prog Try.f130 a b (IntKind.i64.wrap (n + 8)) 16 4) (by kernel_rfl) h
    · rw [cond_true] at h1
      rw [h0, h1] at h
      exact R.at mixed 15 [0, 1, 5, 6, 7] (st := LA Try.prog Try.f130 a b n 16 4) (by kernel_rfl) h
  · rw [h0] at h
    exact R.at mixed 23 [0, 1, 5, 6, 7] (st := LA Try.prog Try.f130 a b n 16 4) (by kernel_rfl) h

theorem and_4 {a b n : Int} {v : Value} (h : RunsE Try.prog 130 0 (LA Try.prog Try.f130 a b (stepA 16 a b n) 32 5) v) : RunsE Try.prog 130 0 (LA Try.prog Try.f130 a b n 16 4) v := by
  unfold stepA bitA at h
  refine R.guard mixed 17 ((IntKind.i64.wrap (a.tdiv 16)).tmod 2 == 1) (by kernel_rfl) (fun h0 => ?_) (fun h0 => ?_)
  · refine R.branch mixed 7 (bif true then ((IntKind.i64.wrap (b.tdiv 16)).tmod 2 == 1) else false) (by kernel_rfl) (fun h1 => ?_) (fun h1 => ?_)
    · rw [cond_true] at h1
      rw [h0, h1] at h
      exact R.at mixed 20 [0, 1, 5, 6, 7] (st := LA Try.prog Try.f130 a b (IntKind.i64.wrap (n + 16)) 32 5) (by kernel_rfl) h
    · rw [cond_true] at h1
      rw [h0, h1] at h
      exact R.at mixed 15 [0, 1, 5, 6, 7] (st := LA Try.prog Try.f130 a b n 32 5) (by kernel_rfl) h
  · rw [h0] at h
    exact R.at mixed 23 [0, 1, 5, 6, 7] (st := LA Try.prog Try.f130 a b n 32 5) (by kernel_rfl) h

theorem and_5 {a b n : Int} {v : Value} (h : RunsE Try.prog 130 0 (LA Try.prog Try.f130 a b (stepA 32 a b n) 64 6) v) : RunsE Try.prog 130 0 (LA Try.prog Try.f130 a b n 32 5) v := by
  unfold stepA bitA at h
  refine R.guard mixed 17 ((IntKind.i64.wrap (a.tdiv 32)).tmod 2 == 1) (by kernel_rfl) (fun h0 => ?_) (fun h0 => ?_)
  · refine R.branch mixed 7 (bif true then ((IntKind.i64.wrap (b.tdiv 32)).tmod 2 == 1) else false) (by kernel_rfl) (fun h1 => ?_) (fun h1 => ?_)
    · rw [cond_true] at h1
      rw [h0, h1] at h
      exact R.at mixed 20 [0, 1, 5, 6, 7] (st := LA Try.prog Try.f130 a b (IntKind.i64.wrap (n + 32)) 64 6) (by kernel_rfl) h
    · rw [cond_true] at h1
      rw [h0, h1] at h
      exact R.at mixed 15 [0, 1, 5, 6, 7] (st := LA Try.prog Try.f130 a b n 64 6) (by kernel_rfl) h
  · rw [h0] at h
    exact R.at mixed 23 [0, 1, 5, 6, 7] (st := LA Try.prog Try.f130 a b n 64 6) (by kernel_rfl) h

theorem and_6 {a b n : Int} {v : Value} (h : RunsE Try.prog 130 0 (LA Try.prog Try.f130 a b (stepA 64 a b n) 128 7) v) : RunsE Try.prog 130 0 (LA Try.prog Try.f130 a b n 64 6) v := by
  unfold stepA bitA at h
  refine R.guard mixed 17 ((IntKind.i64.wrap (a.tdiv 64)).tmod 2 == 1) (by kernel_rfl) (fun h0 => ?_) (fun h0 => ?_)
  · refine R.branch mixed 7 (bif true then ((IntKind.i64.wrap (b.tdiv 64)).tmod 2 == 1) else false) (by kernel_rfl) (fun h1 => ?_) (fun h1 => ?_)
    · rw [cond_true] at h1
      rw [h0, h1] at h
      exact R.at mixed 20 [0, 1, 5, 6, 7] (st := LA Try.prog Try.f130 a b (IntKind.i64.wrap (n + 64)) 128 7) (by kernel_rfl) h
    · rw [cond_true] at h1
      rw [h0, h1] at h
      exact R.at mixed 15 [0, 1, 5, 6, 7] (st := LA Try.prog Try.f130 a b n 128 7) (by kernel_rfl) h
  · rw [h0] at h
    exact R.at mixed 23 [0, 1, 5, 6, 7] (st := LA Try.prog Try.f130 a b n 128 7) (by kernel_rfl) h

theorem and_7 {a b n : Int} {v : Value} (h : RunsE Try.prog 130 0 (LA Try.prog Try.f130 a b (stepA 128 a b n) 256 8) v) : RunsE Try.prog 130 0 (LA Try.prog Try.f130 a b n 128 7) v := by
  unfold stepA bitA at h
  refine R.guard mixed 17 ((IntKind.i64.wrap (a.tdiv 128)).tmod 2 == 1) (by kernel_rfl) (fun h0 => ?_) (fun h0 => ?_)
  · refine R.branch mixed 7 (bif true then ((IntKind.i64.wrap (b.tdiv 128)).tmod 2 == 1) else false) (by kernel_rfl) (fun h1 => ?_) (fun h1 => ?_)
    · rw [cond_true] at h1
      rw [h0, h1] at h
      exact R.at mixed 20 [0, 1, 5, 6, 7] (st := LA Try.prog Try.f130 a b (IntKind.i64.wrap (n + 128)) 256 8) (by kernel_rfl) h
    · rw [cond_true] at h1
      rw [h0, h1] at h
      exact R.at mixed 15 [0, 1, 5, 6, 7] (st := LA Try.prog Try.f130 a b n 256 8) (by kernel_rfl) h
  · rw [h0] at h
    exact R.at mixed 23 [0, 1, 5, 6, 7] (st := LA Try.prog Try.f130 a b n 256 8) (by kernel_rfl) h

theorem c_and {a b : Int} : Con Try.prog 130 [.int .i64 a, .int .i64 b] (.int .i64 (andA a b)) := by
  refine Con.run Try.func130 (by kernel_rfl) rfl ?_
  exact R.at mixed 21 [0, 1, 5, 6, 7] (st := LA Try.prog Try.f130 a b 0 1 0) (by kernel_rfl) <| and_0 <| and_1 <| and_2 <| and_3 <| and_4 <| and_5 <| and_6 <| and_7 <| R.fin mixed Try.func130 (by kernel_rfl)

/-! ### Bits -/
theorem is8_iff {n : Int} : is8 n = true ↔ 0 ≤ n ∧ n ≤ 255 := by simp [is8]
theorem is7_iff {n : Int} : is7 n = true ↔ 0 ≤ n ∧ n ≤ 7 := by simp [is7]
theorem wr_id {n : Int} (h0 : -1000 ≤ n) (h1 : n ≤ 1000) : IntKind.i64.wrap n = n := wrap_i64_of (by omega) (by omega)
theorem bit_mul (x y : Nat) : (x &&& y) % 2 = (x % 2) * (y % 2) := by
  have h := Nat.and_mod_two_eq_one (a := x) (b := y)
  rcases Nat.mod_two_eq_zero_or_one (x &&& y) with hz | hz
  · rcases Nat.mod_two_eq_zero_or_one x with hx | hx
    · rw [hz, hx, Nat.zero_mul]
    · rcases Nat.mod_two_eq_zero_or_one y with hy | hy
      · rw [hz, hy, Nat.mul_zero]
      · have := h.2 ⟨hx, hy⟩
        omega
  · have := h.1 hz
    rw [hz, this.1, this.2]
theorem land_half (x y : Nat) : x &&& y = 2 * (x / 2 &&& y / 2) + (x % 2) * (y % 2) := by
  have h := Nat.and_div_two (a := x) (b := y)
  have h2 := bit_mul x y
  omega
theorem bitA_nat {p x : Nat} (hx : x < 256) : bitA p x = decide (x / p % 2 = 1) := by
  unfold bitA
  have h := Nat.div_le_self x p
  rw [← Int.ofNat_tdiv]
  generalize x / p = q at *
  rw [wrap_i64_of (by omega) (by omega), show (2 : Int) = ((2 : Nat) : Int) from rfl, ← Int.ofNat_tmod]
  rw [Bool.eq_iff_iff]
  simp
  omega
theorem stepA_nat {p x y n : Nat} (hx : x < 256) (hy : y < 256) (hp : p ≤ 128) (hn : n ≤ 1024) : stepA p x y n = ((n + p * ((x / p % 2) * (y / p % 2)) : Nat) : Int) := by
  unfold stepA
  rw [bitA_nat hx, bitA_nat hy]
  rcases Nat.mod_two_eq_zero_or_one (x / p) with h | h <;> rcases Nat.mod_two_eq_zero_or_one (y / p) with h' | h' <;> rw [h, h'] <;> simp
  exact wrap_i64_of (by omega) (by omega)
theorem andA_nat {x y : Nat} (hx : x < 256) (hy : y < 256) : andA x y = ((x &&& y : Nat) : Int) := by
  have b : ∀ p : Nat, (x / p % 2) * (y / p % 2) ≤ 1 := fun p => by
    rcases Nat.mod_two_eq_zero_or_one (x / p) with h | h <;> rcases Nat.mod_two_eq_zero_or_one (y / p) with h' | h' <;> rw [h, h'] <;> decide
  have b1 := b 1
  have b2 := b 2
  have b4 := b 4
  have b8 := b 8
  have b16 := b 16
  have b32 := b 32
  have b64 := b 64
  have b128 := b 128
  have l1 := land_half x y
  have l2 := land_half (x / 2) (y / 2)
  have l4 := land_half (x / 4) (y / 4)
  have l8 := land_half (x / 8) (y / 8)
  have l16 := land_half (x / 16) (y / 16)
  have l32 := land_half (x / 32) (y / 32)
  have l64 := land_half (x / 64) (y / 64)
  have l128 := land_half (x / 128) (y / 128)
  rw [Nat.div_div_eq_div_mul, Nat.div_div_eq_div_mul] at l2 l4 l8 l16 l32 l64 l128
  have z : x / (128 * 2) &&& y / (128 * 2) = 0 := by rw [Nat.div_eq_of_lt (by omega)]; simp
  rw [Nat.div_one, Nat.div_one] at b1
  simp only [show 2 * 2 = 4 from rfl, show 4 * 2 = 8 from rfl, show 8 * 2 = 16 from rfl, show 16 * 2 = 32 from rfl, show 32 * 2 = 64 from rfl, show 64 * 2 = 128 from rfl] at *
  have s1 := stepA_nat (p := 1) (n := 0) hx hy (by omega) (by omega)
  have s2 := stepA_nat (p := 2) (n := 0 + 1 * ((x / 1 % 2) * (y / 1 % 2))) hx hy (by omega) (by rw [Nat.div_one, Nat.div_one]; omega)
  unfold andA
  rw [Nat.div_one, Nat.div_one] at s1 s2
  generalize x % 2 * (y % 2) = c1 at *
  generalize x / 2 % 2 * (y / 2 % 2) = c2 at *
  have s4 := stepA_nat (p := 4) (n := 0 + 1 * c1 + 2 * c2) hx hy (by omega) (by omega)
  generalize x / 4 % 2 * (y / 4 % 2) = c4 at *
  have s8 := stepA_nat (p := 8) (n := 0 + 1 * c1 + 2 * c2 + 4 * c4) hx hy (by omega) (by omega)
  generalize x / 8 % 2 * (y / 8 % 2) = c8 at *
  have s16 := stepA_nat (p := 16) (n := 0 + 1 * c1 + 2 * c2 + 4 * c4 + 8 * c8) hx hy (by omega) (by omega)
  generalize x / 16 % 2 * (y / 16 % 2) = c16 at *
  have s32 := stepA_nat (p := 32) (n := 0 + 1 * c1 + 2 * c2 + 4 * c4 + 8 * c8 + 16 * c16) hx hy (by omega) (by omega)
  generalize x / 32 % 2 * (y / 32 % 2) = c32 at *
  have s64 := stepA_nat (p := 64) (n := 0 + 1 * c1 + 2 * c2 + 4 * c4 + 8 * c8 + 16 * c16 + 32 * c32) hx hy (by omega) (by omega)
  generalize x / 64 % 2 * (y / 64 % 2) = c64 at *
  have s128 := stepA_nat (p := 128) (n := 0 + 1 * c1 + 2 * c2 + 4 * c4 + 8 * c8 + 16 * c16 + 32 * c32 + 64 * c64) hx hy (by omega) (by omega)
  generalize x / 128 % 2 * (y / 128 % 2) = c128 at *
  erw [s1, s2, s4, s8, s16, s32, s64, s128]
  omega

end Go.Proofs.Ytfkmhhbpomkakaa.Frag
