/- What the state's check leaves, and that a pixel stays right. -/
import Derived.Test.YtfkmhhbpomkakaaFG
namespace Go.Proofs.Ytfkmhhbpomkakaa.Frag
open Go Go.Dt Go.Proofs
set_option linter.unusedVariables false
set_option linter.unusedSimpArgs false

theorem first9_zero {e0 e1 e2 e3 e4 e5 e6 e7 e8 : Int} (h : first9 e0 e1 e2 e3 e4 e5 e6 e7 e8 = 0) : e3 = 0 ∧ e4 = 0 ∧ e5 = 0 := by
  unfold first9 at h
  by_cases h0 : e0 = 0
  · by_cases h1 : e1 = 0
    · by_cases h2 : e2 = 0
      · by_cases h3 : e3 = 0
        · by_cases h4 : e4 = 0
          · by_cases h5 : e5 = 0
            · exact ⟨h3, h4, h5⟩
            · simp [h0, h1, h2, h3, h4, h5] at h
          · simp [h0, h1, h2, h3, h4] at h
        · simp [h0, h1, h2, h3] at h
      · simp [h0, h1, h2] at h
    · simp [h0, h1] at h
  · simp [h0] at h

theorem k7_is {k : Int} (h : k7 k = 0) : is7 k = true := by
  unfold k7 at h
  cases hk : is7 k with
  | true => rfl
  | false => rw [hk] at h; exact absurd h (by decide)

theorem blendE_zero {a b c d : Int} (h : blendE a b c d = 0) : (0 ≤ a ∧ a ≤ 9) ∧ (0 ≤ b ∧ b ≤ 9) ∧ (0 ≤ c ∧ c ≤ 4) ∧ (0 ≤ d ∧ d ≤ 15) := by
  unfold blendE at h
  split at h
  · rename_i h1
    split at h
    · rename_i h2; exact ⟨h1.1, h1.2.1, h1.2.2, h2⟩
    · exact absurd h (by decide)
  · exact absurd h (by decide)

theorem stE_zero {m0 m1 m2 m3 m4 m5 m6 m7 m8 m9 m10 m11 m12 m13 m14 m15 v0 v1 v2 v3 t0 t1 t2 t3 df s0 s1 s2 s3 s4 s5 s6 b0 b1 b2 b3 cu tx wr : Int} (h : (stE m0 m1 m2 m3 m4 m5 m6 m7 m8 m9 m10 m11 m12 m13 m14 m15 v0 v1 v2 v3 t0 t1 t2 t3 df s0 s1 s2 s3 s4 s5 s6 b0 b1 b2 b3 cu tx wr) = 0) :
    is7 df = true ∧ stenE s0 s1 s2 s3 s4 s5 s6 = 0 ∧ (0 ≤ b0 ∧ b0 ≤ 9) ∧ (0 ≤ b1 ∧ b1 ≤ 9) ∧ (0 ≤ b2 ∧ b2 ≤ 4) ∧ (0 ≤ b3 ∧ b3 ≤ 15) := by
  obtain ⟨h1, h2, h3⟩ := first9_zero h
  exact ⟨k7_is h1, h2, blendE_zero h3⟩

theorem sat_in (n : Int) : is8 (sat n 0 255) = true := by
  rw [is8_iff]; unfold sat; split
  · omega
  · split <;> omega
theorem cut_in (n : Int) : is8 (cutN n) = true := sat_in _
theorem eqOf_in {k a fa b fb : Int} (ha : is8 a = true) (hb : is8 b = true) : is8 (eqOf k a fa b fb) = true := by
  unfold eqOf
  split
  · exact cut_in _
  · split
    · exact cut_in _
    · split
      · split <;> assumption
      · split
        · split <;> assumption
        · exact cut_in _
theorem chan_in {b0 b1 b2 x y e f : Int} (hx : is8 x = true) (hy : is8 y = true) : is8 (chan b0 b1 b2 x y e f) = true := eqOf_in hx hy
theorem qC_in {ir so dk bit : Bool} {n o : Int} (hn : is8 n = true) (ho : is8 o = true) : is8 (qC ir so dk bit n o) = true := by
  unfold qC; cases (ir && (so && (dk && bit))) <;> assumption
theorem qZ_in {ir so dk bit : Bool} {n o : Int} (hn : is16 n = true) (ho : is16 o = true) : is16 (qZ ir so dk bit n o) = true := by
  unfold qZ; cases (ir && (so && (dk && bit))) <;> assumption
theorem qS_in {ir so dk : Bool} {a b d o : Int} (ha : is8 a = true) (hb : is8 b = true) (hd : is8 d = true) (ho : is8 o = true) : is8 (qS ir so dk a b d o) = true := by
  unfold qS; cases ir <;> cases so <;> cases dk <;> assumption
theorem putS_in {k r w o : Int} (ho : is8 o = true) (hr : is8 r = true) (hw : is8 w = true) : is8 (putS k r w o) = true := by
  unfold putS
  obtain ⟨x, hx, rfl⟩ := nat_of ho
  obtain ⟨y, hy, e⟩ := nat_of (deed_is8 k ho hr)
  obtain ⟨z, hz, rfl⟩ := nat_of hw
  rw [e, wr_id (n := 255 - (z : Int)) (by omega) (by omega), show (255 : Int) - (z : Int) = ((255 - z : Nat) : Int) by omega, andA_nat hy hz, andA_nat hx (by omega)]
  have l1 : x &&& (255 - z) ≤ 255 - z := Nat.and_le_right
  have l2 : y &&& z ≤ z := Nat.and_le_right
  rw [wr_id (by omega) (by omega), is8_iff]
  omega
theorem putS_zero {k r o : Int} (ho : is8 o = true) (hr : is8 r = true) : putS k r 0 o = o := by
  unfold putS
  obtain ⟨x, hx, rfl⟩ := nat_of ho
  obtain ⟨y, hy, e⟩ := nat_of (deed_is8 k ho hr)
  have e0 := andA_nat hy (show 0 < 256 by decide)
  have e1 := andA_nat hx (show 255 < 256 by decide)
  rw [e, wr_id (n := 255 - 0) (by omega) (by omega), show (0 : Int) = ((0 : Nat) : Int) by rfl, e0, show (255 : Int) - ((0 : Nat) : Int) = ((255 : Nat) : Int) by rfl, e1, Nat.and_zero, show x &&& 255 = x from by
    have := Nat.and_two_pow_sub_one_of_lt_two_pow (n := 8) hx
    exact this]
  rw [wr_id (by omega) (by omega)]
  omega

theorem okPx_iff {r g b a z s : Int} : okPx r g b a z s = true ↔ (is8 r = true ∧ is8 g = true ∧ is8 b = true ∧ is8 a = true) ∧ is16 z = true ∧ is8 s = true := by
  simp [okPx, rightC, and_assoc]
theorem may5_iff {r g b a z : Int} : may5 r g b a z = true ↔ (is8 r = true ∧ is8 g = true ∧ is8 b = true ∧ is8 a = true) ∧ is16 z = true := by
  simp [may5, rightC, and_assoc]

end Go.Proofs.Ytfkmhhbpomkakaa.Frag
