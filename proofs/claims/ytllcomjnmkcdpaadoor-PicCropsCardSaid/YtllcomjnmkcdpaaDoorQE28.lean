/- PicDiffs, in plain Lean. -/
import Derived.Test.YtllcomjnmkcdpaaDoorQE27
namespace Go.Proofs.YtllcomjnmkcdpaaDoor.Lf
open Go Go.Dt Go.Proofs
set_option linter.unusedVariables false
set_option linter.unusedSimpArgs false

theorem inR_nat {i n : Nat} (h : i < n) : inR (i : Int) n = true := by
  simp only [inR, Bool.and_eq_true, decide_eq_true_eq]; omega
theorem wrap_succ {i : Nat} (h : i ≤ 1000000) : IntKind.i64.wrap ((i : Int) + 1) = ((i + 1 : Nat) : Int) := by
  rw [wrap_i64_of (by omega) (by omega)]; omega
/-- Both ways of asking whether an image's numbers may be. -/
theorem nums_same (m : TImage) (hl : m.L.length ≤ 3000) : ∀ (d i K : Nat), i + d = m.L.length → d < K → ∃ b j, FR36_Right_4 m K (i : Int) = some b ∧ Fslices_IndexFunc_pic_Right_1_2 m.L () K (i : Int) = some j ∧ (b = !decide (j ≥ 0))
  | 0, i, K + 1, h, hK => by
    refine ⟨true, -1, ?_, ?_, rfl⟩
    · rw [FR36_Right_4, decide_eq_false (show ¬ (i : Int) < (m.L.length : Int) by omega)]; rfl
    · rw [Fslices_IndexFunc_pic_Right_1_2, decide_eq_false (show ¬ (i : Int) < (m.L.length : Int) by omega)]; rfl
  | d + 1, i, K + 1, h, hK => by
    obtain ⟨b, j, h1, h2, h3⟩ := nums_same m hl d (i + 1) K (by omega) (by omega)
    rw [FR36_Right_4, Fslices_IndexFunc_pic_Right_1_2, decide_eq_true (show (i : Int) < (m.L.length : Int) by omega), inR_nat (by omega), wrap_succ (by omega)]
    simp only [cond_true, cond_false]
    unfold Fpic_Right_1
    cases decide (getR m.L (i : Int).toNat < 0) with
    | true => exact ⟨false, i, rfl, rfl, by simp⟩
    | false =>
      cases decide (getR m.L (i : Int).toNat > 4294967295) with
      | true => exact ⟨false, i, rfl, rfl, by simp⟩
      | false => exact ⟨b, j, h1, h2, h3⟩
  | _, _, 0, _, hK => absurd hK (Nat.not_lt_zero _)
theorem right_same (m : TImage) (hl : m.L.length ≤ 3000) {K : Nat} (hK : 4000 ≤ K) : ∃ b, FR36_Right K m = some b ∧ Fpic_Right K m = some b ∧ (b = true → 0 ≤ m.W ∧ m.W ≤ 256 ∧ 0 ≤ m.H ∧ m.H ≤ 256 ∧ (m.L.length : Int) = m.W * m.H) := by
  obtain ⟨b, j, h1, h2, h3⟩ := nums_same m hl m.L.length 0 K (by omega) (by omega)
  have no : ∃ b, some false = some b ∧ some false = some b ∧ (b = true → 0 ≤ m.W ∧ m.W ≤ 256 ∧ 0 ≤ m.H ∧ m.H ≤ 256 ∧ (m.L.length : Int) = m.W * m.H) := ⟨false, rfl, rfl, fun h => by cases h⟩
  unfold FR36_Right Fpic_Right
  rcases Decidable.em (m.W < 0) with g1 | g1
  · rw [decide_eq_true g1]; exact no
  rw [decide_eq_false g1]
  rcases Decidable.em (m.W > 256) with g2 | g2
  · rw [decide_eq_true g2]; exact no
  rw [decide_eq_false g2]
  rcases Decidable.em (m.H < 0) with g3 | g3
  · rw [decide_eq_true g3]; exact no
  rw [decide_eq_false g3]
  rcases Decidable.em (m.H > 256) with g4 | g4
  · rw [decide_eq_true g4]; exact no
  rw [decide_eq_false g4]
  have hb : 0 ≤ m.W * m.H := Int.mul_nonneg (by omega) (by omega)
  have hb2 : m.W * m.H ≤ 256 * 256 := Int.mul_le_mul (by omega) (by omega) (by omega) (by omega)
  rw [wrap_i64_of (n := m.W * m.H) (by omega) (by omega)]
  rcases Decidable.em ((m.L.length : Int) = m.W * m.H) with g5 | g5
  · have e : ((m.L.length : Int) != m.W * m.H) = false := by simp [g5]
    rw [e]
    unfold Fslices_ContainsFunc_pic_Right_1 Fslices_IndexFunc_pic_Right_1
    have h2' : Fslices_IndexFunc_pic_Right_1_2 m.L () K 0 = some j := h2
    have h1' : FR36_Right_4 m K 0 = some b := h1
    rw [h2', h1']
    refine ⟨b, rfl, ?_, fun _ => ⟨by omega, by omega, by omega, by omega, g5⟩⟩
    rw [h3]
    simp
  · have e : ((m.L.length : Int) != m.W * m.H) = true := by simp [g5]
    rw [e]; exact no

end Go.Proofs.YtllcomjnmkcdpaaDoor.Lf
