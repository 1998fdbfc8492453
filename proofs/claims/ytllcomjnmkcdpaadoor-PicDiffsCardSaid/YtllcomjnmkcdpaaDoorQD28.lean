/- PicDiffs, in plain Lean. -/
import Derived.Test.YtllcomjnmkcdpaaDoorQD27
namespace Go.Proofs.YtllcomjnmkcdpaaDoor.Lf
open Go Go.Dt Go.Proofs
set_option linter.unusedVariables false
set_option linter.unusedSimpArgs false

theorem inR_nat {i n : Nat} (h : i < n) : inR (i : Int) n = true := by
  simp only [inR, Bool.and_eq_true, decide_eq_true_eq]; omega
theorem wrap_succ {i : Nat} (h : i ≤ 1000000) : IntKind.i64.wrap ((i : Int) + 1) = ((i + 1 : Nat) : Int) := by
  rw [wrap_i64_of (by omega) (by omega)]; omega
/-- Both ways of asking whether an image's numbers may be. -/
theorem nums_same (m : TImage) (hl : m.L.length ≤ 3000) : ∀ (d i K : Nat), i + d = m.L.length → d < K → ∃ b j, FR36_Right_4 m K (i : Int) = some b ∧ Fslices_IndexFunc_pic_Right_1_2 m.L () K (i : Int) = some j ∧ (b = !decide (j ≥ 0))
  | 0, i, K + 1, h, hK => by
    refine ⟨true, -1, ?_, ?_, rfl⟩
    · rw [FR36_Right_4, decide_eq_false (show ¬ (i : Int) < (m.L.length : Int) by omega)]; rfl
    · rw [Fslices_IndexFunc_pic_Right_1_2, decide_eq_false (show ¬ (i : Int) < (m.L.length : Int) by omega)]; rfl
  | d + 1, i, K + 1, h, hK => by
    obtain ⟨b, j, h1, h2, h3⟩ := nums_same m hl d (i + 1) K (by omega) (by omega)
    rw [FR36_Right_4, Fslices_IndexFunc_pic_Right_1_2, decide_eq_true (show (i : Int) < (m.L.length : Int) by omega), inR_nat (by omega), wrap_succ (by omega)]
    simp only [cond_true, cond_false]
    unfold Fpic_Right_1
    cases decide (getR m.L (i : Int).toNat < 0) with
    | true => exact ⟨false, i, rfl, rfl, by simp⟩
    | false =>
      cases decide (getR m.L (i : Int).toNat > 4294967295) with
      | true => exact ⟨false, i, rfl, rfl, by simp⟩
      | false => exact ⟨b, j, h1, h2, h3⟩
  | _, _, 0, _, hK => absurd hK (Nat.not_lt_zero _)
theorem right_same (m : TImage) (hl : m.L.length ≤ 3000) {K : Nat} (hK : 4000 ≤ K) : ∃ b, FR36_Right K m = some b ∧ Fpic_Right K m = some b ∧ (b = true → 0 ≤ m.W ∧ m.W ≤ 256 ∧ 0 ≤ m.H ∧ m.H ≤ 256 ∧ (m.L.length : Int) = m.W * m.H) := by
  obtain ⟨b, j, h1, h2, h3⟩ := nums_same m hl m.L.length 0 K (by omega) (by omega)
  have no : ∃ b, some false = some b ∧ some false = some b ∧ (b = true → 0 ≤ m.W ∧ m.W ≤ 256 ∧ 0 ≤ m.H ∧ m.H ≤ 256 ∧ (m.L.length : Int) = m.W * m.H) := ⟨false, rfl, rfl, fun h => by cases h⟩
  unfold FR36_Right Fpic_Right
  rcases Decidable.em (m.W < 0) with g1 | g1
  · rw [decide_eq_true g1]; exact no
  rw [decide_eq_false g1]
  rcases Decidable.em (m.W > 256) with g2 | g2
  · rw [decide_eq_true g2]; exact no
  rw [decide_eq_false g2]
  rcases Decidable.em (m.H < 0) with g3 | g3
  · rw [decide_eq_true g3]; exact no
  rw [decide_eq_false g3]
  rcases Decidable.em (m.H > 256) with g4 | g4
  · rw [decide_eq_true g4]; exact no
  rw [decide_eq_false g4]
  have hb : 0 ≤ m.W * m.H := Int.mul_nonneg (by omega) (by omega)
  have hb2 : m.W * m.H ≤ 256 * 256 := Int.mul_le_mul (by omega) (by omega) (by omega) (by omega)
  rw [wrap_i64_of (n := m.W * m.H) (by omega) (by omega)]
  rcases Decidable.em ((m.L.length : Int) = m.W * m.H) with g5 | g5
  · have e : ((m.L.length : Int) != m.W * m.H) = false := by simp [g5]
    rw [e]
    unfold Fslices_ContainsFunc_pic_Right_1 Fslices_IndexFunc_pic_Right_1
    have h2' : Fslices_IndexFunc_pic_Right_1_2 m.L () K 0 = some j := h2
    have h1' : FR36_Right_4 m K 0 = some b := h1
    rw [h2', h1']
    refine ⟨b, rfl, ?_, fun _ => ⟨by omega, by omega, by omega, by omega, g5⟩⟩
    rw [h3]
    simp
  · have e : ((m.L.length : Int) != m.W * m.H) = true := by simp [g5]
    rw [e]; exact no

/-- Where two images differ, from a place on. -/
def dl (a b : TImage) : Nat → Nat → List TPoint
  | 0, _ => []
  | d + 1, i => if (getR a.L i != getR b.L i) = true then ⟨(i : Int).tmod a.W, IntKind.i64.wrap ((i : Int).tdiv a.W)⟩ :: dl a b d (i + 1) else dl a b d (i + 1)
theorem diff_loop (a b : TImage) (hl : a.L.length ≤ 3000) (hb : b.L.length = a.L.length) (hW : a.L.length ≠ 0 → (a.W != 0) = true) : ∀ (d i K : Nat) (acc : List TPoint), i + d = a.L.length → d < K → acc.length ≤ i →
    Fpic_Diff_7 a b K acc (i : Int) = some (acc ++ dl a b d i, 0)
  | 0, i, K + 1, acc, h, hK, ha => by
    rw [Fpic_Diff_7, decide_eq_false (show ¬ (i : Int) < (a.L.length : Int) by omega), dl, List.append_nil]; rfl
  | d + 1, i, K + 1, acc, h, hK, ha => by
    have hr : ∀ p : TPoint, room (acc.length + ([p] : List TPoint).length) 16 = true := fun p => by
      simp only [room, Bool.and_eq_true, decide_eq_true_eq, List.length_singleton]; omega
    rw [Fpic_Diff_7, decide_eq_true (show (i : Int) < (a.L.length : Int) by omega), inR_nat (by omega), inR_nat (by omega), wrap_succ (by omega), hW (by omega), hr, dl]
    simp only [cond_true, Int.toNat_natCast]
    cases hc : getR a.L i != getR b.L i with
    | true =>
      rw [cond_true, if_pos rfl, diff_loop a b hl hb hW d (i + 1) K _ (by omega) (by omega) (by simp; omega)]
      simp
    | false =>
      rw [cond_false, if_neg (by decide), diff_loop a b hl hb hW d (i + 1) K acc (by omega) (by omega) (by omega)]
  | _, _, 0, _, _, hK, _ => absurd hK (Nat.not_lt_zero _)
theorem law_loop (a b : TImage) (hl : a.L.length ≤ 3000) (hb : b.L.length = a.L.length) (hW : a.L.length ≠ 0 → (a.W != 0) = true) : ∀ (d i K : Nat) (pre : List TPoint), i + d = a.L.length → d < K → pre.length ≤ i →
    FL36_PicDiffs_10 a b K (pre ++ dl a b d i) 0 (pre.length : Int) (i : Int) = some true
  | 0, i, K + 1, pre, h, hK, ha => by
    rw [FL36_PicDiffs_10, decide_eq_false (show ¬ (i : Int) < (a.L.length : Int) by omega), dl, List.append_nil]
    simp
  | d + 1, i, K + 1, pre, h, hK, ha => by
    have ih := fun pre => law_loop a b hl hb hW d (i + 1) K pre (by omega) (by omega)
    rw [FL36_PicDiffs_10, decide_eq_true (show (i : Int) < (a.L.length : Int) by omega), inR_nat (by omega), inR_nat (by omega), wrap_succ (i := i) (by omega), hW (by omega), wrap_succ (i := pre.length) (by omega), dl]
    simp only [cond_true, Int.toNat_natCast]
    cases hc : getR a.L i == getR b.L i with
    | true =>
      have e : (getR a.L i != getR b.L i) = false := by simp [bne, hc]
      rw [e, cond_true, if_neg (by decide)]
      exact ih pre (by omega)
    | false =>
      have e : (getR a.L i != getR b.L i) = true := by simp [bne, hc]
      rw [e, cond_false, if_pos rfl]
      have hlen : pre.length < (pre ++ ⟨(i : Int).tmod a.W, IntKind.i64.wrap ((i : Int).tdiv a.W)⟩ :: dl a b d (i + 1)).length := by simp
      have hg : getR (pre ++ (⟨(i : Int).tmod a.W, IntKind.i64.wrap ((i : Int).tdiv a.W)⟩ : TPoint) :: dl a b d (i + 1)) pre.length = ⟨(i : Int).tmod a.W, IntKind.i64.wrap ((i : Int).tdiv a.W)⟩ := by
        unfold getR
        rw [List.getD_eq_getElem?_getD]
        simp
      rw [decide_eq_false (by omega), inR_nat hlen, hg]
      have := ih (pre ++ [⟨(i : Int).tmod a.W, IntKind.i64.wrap ((i : Int).tdiv a.W)⟩]) (by simp; omega)
      simp only [cond_true, cond_false, beq_self_eq_true, Bool.and_self, Bool.not_true]
      simpa using this
  | _, _, 0, _, _, hK, _ => absurd hK (Nat.not_lt_zero _)
theorem FL_diffs (K : Nat) (hK : 5000 ≤ K) (a b : TImage) : FL36_PicDiffs K a b = some true := by
  unfold FL36_PicDiffs
  rcases Decidable.em ((a.L.length : Int) > 3000) with g1 | g1
  · rw [decide_eq_true g1]; rfl
  rw [decide_eq_false g1]
  rcases Decidable.em ((b.L.length : Int) > 3000) with g2 | g2
  · rw [decide_eq_true g2]; rfl
  rw [decide_eq_false g2]
  obtain ⟨x, hx1, hx2, hx3⟩ := right_same a (by omega) (K := K) (by omega)
  obtain ⟨y, hy1, hy2, hy3⟩ := right_same b (by omega) (K := K) (by omega)
  unfold Fpic_Diff
  rw [hx1, hx2, hy1, hy2]
  cases x with
  | false => rfl
  | true =>
    cases y with
    | false => rfl
    | true =>
      cases hW : a.W != b.W with
      | true => simp
      | false =>
        cases hH : a.H != b.H with
        | true => simp
        | false =>
          obtain ⟨a1, a2, a3, a4, a5⟩ := hx3 rfl
          obtain ⟨b1, b2, b3, b4, b5⟩ := hy3 rfl
          have eW : a.W = b.W := by simpa using hW
          have eH : a.H = b.H := by simpa using hH
          have hlen : b.L.length = a.L.length := by
            have : (b.L.length : Int) = a.L.length := by rw [a5, b5, eW, eH]
            omega
          have hW0 : a.L.length ≠ 0 → (a.W != 0) = true := fun h => by
            rw [bne_iff_ne]
            intro e
            rw [e, Int.zero_mul] at a5
            omega
          have hd := diff_loop a b (by omega) hlen hW0 a.L.length 0 K [] (by omega) (by omega) (by simp)
          have hl := law_loop a b (by omega) hlen hW0 a.L.length 0 K [] (by omega) (by omega) (by simp)
          have hd' : Fpic_Diff_7 a b K [] 0 = some ([] ++ dl a b a.L.length 0, 0) := hd
          simp only [Option.bind_some, Bool.not_true, cond_false, hd']
          exact hl
theorem picDiffs_walk (a b : TImage) : Con Tryd.prog 4 [.agg ⟨[.int .i64 a.W, .int .i64 a.H, lst a.L]⟩, .agg ⟨[.int .i64 b.W, .int .i64 b.H, lst b.L]⟩] (.bool true) :=
  cL36_PicDiffs 5000 a b true (FL_diffs 5000 (Nat.le_refl _) a b)
end Go.Proofs.YtllcomjnmkcdpaaDoor.Lf
