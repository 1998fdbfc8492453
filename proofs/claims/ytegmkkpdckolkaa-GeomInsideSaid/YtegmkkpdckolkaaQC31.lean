/- Several texts in one: G3z1, G4z1, G5z1. -/
import Derived.Test.YtegmkkpdckolkaaQC30
namespace Go.Proofs.Ytegmkkpdckolkaa.Lf

section
open Go Go.Dt Go.Proofs Go.Proofs.Ytegmkkpdckolkaa.Clip Go.Proofs.Ytegmkkpdckolkaa.Pol Go.Proofs.Ytegmkkpdckolkaa.Wide
set_option linter.unusedVariables false
set_option linter.unusedSimpArgs false

/-! ### Quotients and products -/
theorem mulB {m x M X : Int} (h1 : -M ≤ m) (h2 : m ≤ M) (h3 : -X ≤ x) (h4 : x ≤ X) : -(M * X) ≤ m * x ∧ m * x ≤ M * X := by
  have hM : 0 ≤ M := by omega
  have hX : 0 ≤ X := by omega
  have a : (m * x).natAbs ≤ (M * X).natAbs := by
    rw [Int.natAbs_mul, Int.natAbs_mul]; exact Nat.mul_le_mul (by omega) (by omega)
  have b : 0 ≤ M * X := Int.mul_nonneg hM hX
  generalize m * x = p at *
  generalize M * X = q at *
  omega
theorem divB {a b B : Int} (hb : 0 < b) (h1 : -B ≤ a) (h2 : a ≤ B) : -B ≤ a / b ∧ a / b ≤ B := by
  have hB : 0 ≤ B := by omega
  have h3 : B * 1 ≤ B * b := Int.mul_le_mul_of_nonneg_left (by omega) hB
  constructor
  · refine Int.le_ediv_of_mul_le hb ?_
    rw [Int.neg_mul]; omega
  · refine Int.ediv_le_of_le_mul hb ?_
    omega
section
variable {a b : Int} (a1 : -2305843009213693952 ≤ a) (a2 : a ≤ 2305843009213693952) (hb : 0 < b)
include a1 a2 hb
theorem fl_facts : IntKind.i64.wrap (a.tdiv b) = a.tdiv b ∧ IntKind.i64.wrap (a - IntKind.i64.wrap (IntKind.i64.wrap (a.tdiv b) * b)) = a.tmod b ∧ IntKind.i64.wrap (a.tdiv b - 1) = a.tdiv b - 1 := by
  obtain ⟨e, h1, h2⟩ := Bary.tdiv_parts (a := a) hb
  have ht := Int.natAbs_tdiv_le_natAbs a b
  have w1 : IntKind.i64.wrap (a.tdiv b) = a.tdiv b := wrap_i64_of (by omega) (by omega)
  have hq : -2305843009213693952 ≤ a.tdiv b * b ∧ a.tdiv b * b ≤ 2305843009213693952 := by
    rcases Int.lt_or_le a 0 with h | h
    · have := h2 h
      have h4 : 0 ≤ (-a).tdiv b := Int.tdiv_nonneg (by omega) (by omega)
      rw [Int.neg_tdiv] at h4
      have h5 := Int.mul_nonneg h4 (show 0 ≤ b by omega)
      rw [Int.neg_mul] at h5
      omega
    · have := h1 h
      have h4 : 0 ≤ a.tdiv b := Int.tdiv_nonneg h (by omega)
      have h5 := Int.mul_nonneg h4 (show 0 ≤ b by omega)
      omega
  refine ⟨w1, ?_, wrap_i64_of (by omega) (by omega)⟩
  rw [w1, wrap_i64_of (n := a.tdiv b * b) (by omega) (by omega), wrap_i64_of (by omega) (by omega)]
  omega
theorem Ffix_Floor_eq (K : Nat) : Ffix_Floor K a b = some (a / b, 0) := by
  obtain ⟨w1, w2, w3⟩ := fl_facts a1 a2 hb
  obtain ⟨e, h1, h2⟩ := Bary.tdiv_parts (a := a) hb
  have e1 : (b == 0) = false := beq_eq_false_iff_ne.2 (by omega)
  have e2 : (a == -9223372036854775808) = false := beq_eq_false_iff_ne.2 (by omega)
  have e3 : (b != 0) = true := bne_iff_ne.2 (by omega)
  have e4 : decide (b < 0) = false := decide_eq_false (by omega)
  unfold Ffix_Floor
  rw [Bary.floor_tdiv hb]
  simp only [e1, e2, e3, e4, cond_true, cond_false, w1, w3]
  rcases Int.lt_or_le a 0 with h | h
  · have e5 : decide (a < 0) = true := decide_eq_true h
    have h3 := h2 h
    by_cases hz : a.tmod b = 0
    · have e6 : (a.tmod b != 0) = false := by simp [hz]
      rw [if_neg (by omega)]
      simp only [e6, cond_false]
    · have e6 : (a.tmod b != 0) = true := bne_iff_ne.2 hz
      rw [if_pos (by omega)]
      simp only [e5, e6, cond_true]
      rfl
  · have e5 : decide (a < 0) = false := decide_eq_false (by omega)
    have h3 := h1 h
    rw [if_neg (by omega)]
    cases h6 : (a.tmod b != 0) with
    | false => simp only [cond_false]
    | true =>
      simp only [e5, cond_true]
      rfl
theorem FR01_Floor_eq (K : Nat) : FR01_Floor K a b = some (a / b) := by
  obtain ⟨w1, w2, w3⟩ := fl_facts a1 a2 hb
  have e2 : (a == -9223372036854775808) = false := beq_eq_false_iff_ne.2 (by omega)
  have e3 : (b != 0) = true := bne_iff_ne.2 (by omega)
  have e4 : decide (b > 0) = true := decide_eq_true hb
  have e5 : decide (b < 0) = false := decide_eq_false (by omega)
  unfold FR01_Floor
  rw [Bary.floor_tdiv hb]
  simp only [e2, e3, e4, e5, cond_true, cond_false, w2]
  simp only [w1, w3]
  rcases Int.lt_or_le (a.tmod b) 0 with h | h
  · rw [if_pos h, decide_eq_true h, cond_true]
  · rw [if_neg (by omega), decide_eq_false (show ¬ a.tmod b < 0 by omega), cond_false]
    cases decide (a.tmod b > 0) <;> rfl
end

/-! ### Spots -/
def viewOk (v : TRect) : Prop := Frag.viewP v.X0 v.Y0 v.X1 v.Y1
def snapV (v : TRect) (c : TCorner) : TSpot :=
  ⟨⟨Fsat (16 * v.X0 + ((c.P.X + c.P.W) * 8 * (v.X1 - v.X0)) / c.P.W) (-524288) 524288, Fsat (16 * v.Y0 + ((c.P.W - c.P.Y) * 8 * (v.Y1 - v.Y0)) / c.P.W) (-524288) 524288⟩, Fsat ((c.P.Z + c.P.W) * 65535 / (2 * c.P.W)) 0 65535, c.A⟩
section
variable {c : TCorner} {v : TRect} (hc : Fmay c = true) (hw : 1 ≤ c.P.W) (hv : viewOk v) (K : Nat)
include hc hw hv
theorem snap_b : (IntKind.i64.wrap (c.P.X + c.P.W) = c.P.X + c.P.W ∧ IntKind.i64.wrap (c.P.W - c.P.Y) = c.P.W - c.P.Y ∧ IntKind.i64.wrap (c.P.Z + c.P.W) = c.P.Z + c.P.W ∧ IntKind.i64.wrap (2 * c.P.W) = 2 * c.P.W) ∧
    (IntKind.i64.wrap (v.X1 - v.X0) = v.X1 - v.X0 ∧ IntKind.i64.wrap (v.Y1 - v.Y0) = v.Y1 - v.Y0 ∧ IntKind.i64.wrap (v.X0 * 16) = 16 * v.X0 ∧ IntKind.i64.wrap (v.Y0 * 16) = 16 * v.Y0 ∧ IntKind.i64.wrap (16 * v.X0) = 16 * v.X0 ∧ IntKind.i64.wrap (16 * v.Y0) = 16 * v.Y0) ∧
    (IntKind.i64.wrap ((c.P.X + c.P.W) * 8) = (c.P.X + c.P.W) * 8 ∧ IntKind.i64.wrap ((c.P.W - c.P.Y) * 8) = (c.P.W - c.P.Y) * 8 ∧ IntKind.i64.wrap ((c.P.Z + c.P.W) * 65535) = (c.P.Z + c.P.W) * 65535) := by
  obtain ⟨⟨h1, h2, h3, h4⟩, -⟩ := mayB_iff.1 hc
  obtain ⟨h5, h6, h7⟩ := hv
  simp only [ok30] at h1 h2 h3 h4
  refine ⟨⟨?_, ?_, ?_, ?_⟩, ⟨?_, ?_, ?_, ?_, ?_, ?_⟩, ?_, ?_, ?_⟩
  all_goals first | exact wrap_i64_of (by omega) (by omega) | (rw [wrap_i64_of (by omega) (by omega)]; omega)
theorem snap_x : (-140737488355328 ≤ (c.P.X + c.P.W) * 8 * (v.X1 - v.X0) ∧ (c.P.X + c.P.W) * 8 * (v.X1 - v.X0) ≤ 140737488355328) ∧ (-140737488355328 ≤ (c.P.W - c.P.Y) * 8 * (v.Y1 - v.Y0) ∧ (c.P.W - c.P.Y) * 8 * (v.Y1 - v.Y0) ≤ 140737488355328) := by
  obtain ⟨⟨h1, h2, h3, h4⟩, -⟩ := mayB_iff.1 hc
  obtain ⟨h5, h6, h7⟩ := hv
  simp only [ok30] at h1 h2 h3 h4
  have m1 := mulB (m := (c.P.X + c.P.W) * 8) (x := v.X1 - v.X0) (M := 34359738368) (X := 4096) (by omega) (by omega) (by omega) (by omega)
  have m2 := mulB (m := (c.P.W - c.P.Y) * 8) (x := v.Y1 - v.Y0) (M := 34359738368) (X := 4096) (by omega) (by omega) (by omega) (by omega)
  exact ⟨⟨by omega, by omega⟩, ⟨by omega, by omega⟩⟩
theorem Fview_Snap_eq : Fview_Snap K c v = some (snapV v c, 0) := by
  obtain ⟨⟨b1, b2, b3, b4⟩, ⟨b5, b6, b7, b8, b9, b10⟩, b11, b12, b13⟩ := snap_b hc hw hv
  obtain ⟨⟨x1, x2⟩, y1, y2⟩ := snap_x hc hw hv
  have hm := mayB_iff.1 hc
  have hv0 := hv
  obtain ⟨h5, h6, h7⟩ := hv
  have hz : -140737488355328 ≤ (c.P.Z + c.P.W) * 65535 ∧ (c.P.Z + c.P.W) * 65535 ≤ 140737488355328 := by
    obtain ⟨⟨h1, h2, h3, h4⟩, -⟩ := hm
    simp only [ok30] at h1 h2 h3 h4
    omega
  have dx := divB (a := (c.P.X + c.P.W) * 8 * (v.X1 - v.X0)) (b := c.P.W) (B := 140737488355328) (by omega) x1 x2
  have dy := divB (a := (c.P.W - c.P.Y) * 8 * (v.Y1 - v.Y0)) (b := c.P.W) (B := 140737488355328) (by omega) y1 y2
  have ev : (Fview v != 0) = false := by
    unfold Fview
    rw [if_pos (show Frag.viewP v.X0 v.Y0 v.X1 v.Y1 from hv0)]; rfl
  have ef : Ffar K 0 c.P = some (farC 0 (cr c)) := Ffar_eq (k := 0) (by decide) hm
  have eg : decide (farC 0 (cr c) < 0) = false := decide_eq_false (by
    show ¬ (c.P.W - 1 < 0)
    omega)
  have w1 : IntKind.i64.wrap ((c.P.X + c.P.W) * 8 * (v.X1 - v.X0)) = (c.P.X + c.P.W) * 8 * (v.X1 - v.X0) := wrap_i64_of (by omega) (by omega)
  have w2 : IntKind.i64.wrap ((c.P.W - c.P.Y) * 8 * (v.Y1 - v.Y0)) = (c.P.W - c.P.Y) * 8 * (v.Y1 - v.Y0) := wrap_i64_of (by omega) (by omega)
  have f1 := Ffix_Floor_eq (a := (c.P.X + c.P.W) * 8 * (v.X1 - v.X0)) (b := c.P.W) (by omega) (by omega) (by omega) K
  have f2 := Ffix_Floor_eq (a := (c.P.W - c.P.Y) * 8 * (v.Y1 - v.Y0)) (b := c.P.W) (by omega) (by omega) (by omega) K
  have f3 := Ffix_Floor_eq (a := (c.P.Z + c.P.W) * 65535) (b := 2 * c.P.W) (by omega) (by omega) (by omega) K
  have w3 : IntKind.i64.wrap (16 * v.X0 + (c.P.X + c.P.W) * 8 * (v.X1 - v.X0) / c.P.W) = 16 * v.X0 + (c.P.X + c.P.W) * 8 * (v.X1 - v.X0) / c.P.W := wrap_i64_of (by omega) (by omega)
  have w4 : IntKind.i64.wrap (16 * v.Y0 + (c.P.W - c.P.Y) * 8 * (v.Y1 - v.Y0) / c.P.W) = 16 * v.Y0 + (c.P.W - c.P.Y) * 8 * (v.Y1 - v.Y0) / c.P.W := wrap_i64_of (by omega) (by omega)
  have ec : Fclip_Far K 0 c = some (farC 0 (cr c), 0) := by
    unfold Fclip_Far
    rw [hc, ef]; rfl
  have z0 : ((0 : Int) != 0) = false := rfl
  unfold Fview_Snap Fview_Snap_1
  simp only [ev, ec, eg, z0, cond_false, cond_true, Option.bind_some, b1, b2, b3, b4, b5, b6, b7, b8, b11, b12, b13, w1, w2, f1, f2, f3, w3, w4]
  rfl
theorem FR16_Snap_eq : FR16_Snap K c v = some (snapV v c) := by
  obtain ⟨⟨b1, b2, b3, b4⟩, ⟨b5, b6, b7, b8, b9, b10⟩, b11, b12, b13⟩ := snap_b hc hw hv
  obtain ⟨⟨x1, x2⟩, y1, y2⟩ := snap_x hc hw hv
  have hm := mayB_iff.1 hc
  obtain ⟨h5, h6, h7⟩ := hv
  have hz : -140737488355328 ≤ (c.P.Z + c.P.W) * 65535 ∧ (c.P.Z + c.P.W) * 65535 ≤ 140737488355328 := by
    obtain ⟨⟨h1, h2, h3, h4⟩, -⟩ := hm
    simp only [ok30] at h1 h2 h3 h4
    omega
  have dx := divB (a := (c.P.X + c.P.W) * 8 * (v.X1 - v.X0)) (b := c.P.W) (B := 140737488355328) (by omega) x1 x2
  have dy := divB (a := (c.P.W - c.P.Y) * 8 * (v.Y1 - v.Y0)) (b := c.P.W) (B := 140737488355328) (by omega) y1 y2
  have w1 : IntKind.i64.wrap ((c.P.X + c.P.W) * 8 * (v.X1 - v.X0)) = (c.P.X + c.P.W) * 8 * (v.X1 - v.X0) := wrap_i64_of (by omega) (by omega)
  have w2 : IntKind.i64.wrap ((c.P.W - c.P.Y) * 8 * (v.Y1 - v.Y0)) = (c.P.W - c.P.Y) * 8 * (v.Y1 - v.Y0) := wrap_i64_of (by omega) (by omega)
  have f1 := FR01_Floor_eq (a := (c.P.X + c.P.W) * 8 * (v.X1 - v.X0)) (b := c.P.W) (by omega) (by omega) (by omega) K
  have f2 := FR01_Floor_eq (a := (c.P.W - c.P.Y) * 8 * (v.Y1 - v.Y0)) (b := c.P.W) (by omega) (by omega) (by omega) K
  have f3 := FR01_Floor_eq (a := (c.P.Z + c.P.W) * 65535) (b := 2 * c.P.W) (by omega) (by omega) (by omega) K
  have w3 : IntKind.i64.wrap (16 * v.X0 + (c.P.X + c.P.W) * 8 * (v.X1 - v.X0) / c.P.W) = 16 * v.X0 + (c.P.X + c.P.W) * 8 * (v.X1 - v.X0) / c.P.W := wrap_i64_of (by omega) (by omega)
  have w4 : IntKind.i64.wrap (16 * v.Y0 + (c.P.W - c.P.Y) * 8 * (v.Y1 - v.Y0) / c.P.W) = 16 * v.Y0 + (c.P.W - c.P.Y) * 8 * (v.Y1 - v.Y0) / c.P.W := wrap_i64_of (by omega) (by omega)
  unfold FR16_Snap
  simp only [Option.bind_some, b1, b2, b3, b4, b5, b6, b9, b10, b11, b12, b13, w1, w2, f1, f2, f3, w3, w4]
  rfl
omit hw hv in
theorem mays_snap : Fmays (snapV v c) = true := by
  obtain ⟨-, h⟩ := mayB_iff.1 hc
  unfold Fmays
  refine decide_eq_true ⟨?_, ?_, ?_⟩
  · have s1 : ∀ n : Int, -524288 ≤ Fsat n (-524288) 524288 ∧ Fsat n (-524288) 524288 ≤ 524288 := fun n => by
      unfold Fsat Frag.sat
      split
      · omega
      · split <;> omega
    have h1 := s1 (16 * v.X0 + ((c.P.X + c.P.W) * 8 * (v.X1 - v.X0)) / c.P.W)
    have h2 := s1 (16 * v.Y0 + ((c.P.W - c.P.Y) * 8 * (v.Y1 - v.Y0)) / c.P.W)
    unfold Bary.okP
    simp only [Bool.and_eq_true, decide_eq_true_eq]
    exact ⟨h1.1, h1.2, h2.1, h2.2⟩
  · show 0 ≤ Fsat ((c.P.Z + c.P.W) * 65535 / (2 * c.P.W)) 0 65535 ∧ Fsat ((c.P.Z + c.P.W) * 65535 / (2 * c.P.W)) 0 65535 ≤ 65535
    unfold Fsat Frag.sat
    split
    · omega
    · split <;> omega
  · exact h
end

/-! ### Triangles set up -/
def swp (q : A3TSpot) : A3TSpot := ⟨q.e0, q.e2, q.e1⟩
def sideQ (q : A3TSpot) : Int := Fside q.e0.P q.e1.P q.e2.P
def zT : TTri := ⟨⟨⟨⟨0, 0⟩, 0, ⟨0, 0, 0, 0, 0, 0⟩⟩, ⟨⟨0, 0⟩, 0, ⟨0, 0, 0, 0, 0, 0⟩⟩, ⟨⟨0, 0⟩, 0, ⟨0, 0, 0, 0, 0, 0⟩⟩⟩, 0, ⟨0, 0, 0, 0⟩⟩
def setV (q : A3TSpot) (cu : Int) : TTri × Bool :=
  if sideQ q = 0 then (zT, false) else if sideQ q < 0 then (if cu = 1 then (zT, false) else (⟨swp q, IntKind.i64.wrap (0 - sideQ q), Vbox (swp q)⟩, true)) else (if cu = 2 then (zT, false) else (⟨q, sideQ q, Vbox q⟩, true))
def maysQ (q : A3TSpot) : Prop := Fmays q.e0 = true ∧ Fmays q.e1 = true ∧ Fmays q.e2 = true
theorem mays_okP {s : TSpot} (h : Fmays s = true) : Bary.okP s.P.X s.P.Y = true := (of_decide_eq_true h).1
section
variable {q : A3TSpot} (hq : maysQ q)
include hq
theorem okbox : Okbox q = true ∧ Okbox (swp q) = true := by
  have h0 := mays_okP hq.1
  have h1 := mays_okP hq.2.1
  have h2 := mays_okP hq.2.2
  unfold Okbox swp
  simp only [h0, h1, h2, Bool.and_self, and_self]
theorem fbox (K : Nat) : Fbox K q = some (Vbox q) ∧ Fbox K (swp q) = some (Vbox (swp q)) := by
  obtain ⟨h1, h2⟩ := okbox hq
  unfold Fbox
  rw [h1, h2]
  exact ⟨rfl, rfl⟩
theorem fedge : Fedge q.e0.P q.e1.P q.e2.P = (sideQ q, 0) := by
  have h0 := mays_okP hq.1
  have h1 := mays_okP hq.2.1
  have h2 := mays_okP hq.2.2
  have e : Bary.ok3 q.e0.P.X q.e0.P.Y q.e1.P.X q.e1.P.Y q.e2.P.X q.e2.P.Y = true := by
    unfold Bary.ok3
    rw [h0, h1, h2]; rfl
  unfold Fedge
  rw [e]; rfl
theorem Ftri_Setup_eq {cu : Int} (h1 : 0 ≤ cu) (h2 : cu ≤ 2) (K : Nat) : Ftri_Setup K q cu = some ((setV q cu).1, (setV q cu).2, 0) := by
  have e1 : decide (cu < 0) = false := decide_eq_false (by omega)
  have e2 : decide (cu > 2) = false := decide_eq_false (by omega)
  obtain ⟨b1, b2⟩ := fbox hq K
  have b3 : Fbox K (⟨q.e0, q.e2, q.e1⟩ : A3TSpot) = some (Vbox (swp q)) := b2
  have z0 : ((0 : Int) != 0) = false := rfl
  unfold Ftri_Setup setV
  rw [fedge hq]
  simp only [e1, e2, hq.1, hq.2.1, hq.2.2, cond_false, cond_true, Bool.not_true, z0]
  rcases Int.lt_trichotomy (sideQ q) 0 with h | h | h
  · have s1 : (sideQ q == 0) = false := beq_eq_false_iff_ne.2 (by omega)
    have s2 : decide (sideQ q < 0) = true := decide_eq_true h
    have s3 : decide (sideQ q > 0) = false := decide_eq_false (by omega)
    rw [if_neg (by omega), if_pos h]
    simp only [s1, s2, s3, cond_false, cond_true]
    by_cases hc : cu = 1
    · rw [if_pos hc, beq_iff_eq.2 hc]; rfl
    · rw [if_neg hc, beq_eq_false_iff_ne.2 hc]
      simp only [cond_false, b3, Option.bind_some]
      rfl
  · have s1 : (sideQ q == 0) = true := beq_iff_eq.2 h
    rw [if_pos h]
    simp only [s1, cond_true]
    rfl
  · have s1 : (sideQ q == 0) = false := beq_eq_false_iff_ne.2 (by omega)
    have s2 : decide (sideQ q < 0) = false := decide_eq_false (by omega)
    have s3 : decide (sideQ q > 0) = true := decide_eq_true h
    rw [if_neg (by omega), if_neg (by omega)]
    simp only [s1, s2, s3, cond_false, cond_true]
    by_cases hc : cu = 2
    · rw [if_pos hc, beq_iff_eq.2 hc]; rfl
    · rw [if_neg hc, beq_eq_false_iff_ne.2 hc]
      simp only [cond_false, b1, Option.bind_some]
theorem FR17_Setup_eq {cu : Int} (h1 : 0 ≤ cu) (h2 : cu ≤ 2) (K : Nat) : FR17_Setup K q cu = some (setV q cu) := by
  obtain ⟨b1, b2⟩ := fbox hq K
  have b3 : Fbox K (⟨q.e0, q.e2, q.e1⟩ : A3TSpot) = some (Vbox (swp q)) := b2
  have e0 : Fside q.e0.P q.e1.P q.e2.P = sideQ q := rfl
  unfold FR17_Setup setV
  rw [e0]
  rcases Int.lt_trichotomy (sideQ q) 0 with h | h | h
  · have s1 : (sideQ q == 0) = false := beq_eq_false_iff_ne.2 (by omega)
    have s2 : decide (sideQ q < 0) = true := decide_eq_true h
    have s3 : decide (sideQ q > 0) = false := decide_eq_false (by omega)
    rw [if_neg (by omega), if_pos h]
    simp only [s1, s2, s3, cond_false, cond_true]
    by_cases hc : cu = 1
    · rw [if_pos hc, beq_iff_eq.2 hc]; rfl
    · rw [if_neg hc, beq_eq_false_iff_ne.2 hc]
      simp only [cond_false, b3, Option.bind_some]
      rfl
  · have s1 : (sideQ q == 0) = true := beq_iff_eq.2 h
    rw [if_pos h]
    simp only [s1, cond_true]
    rfl
  · have s1 : (sideQ q == 0) = false := beq_eq_false_iff_ne.2 (by omega)
    have s2 : decide (sideQ q < 0) = false := decide_eq_false (by omega)
    have s3 : decide (sideQ q > 0) = true := decide_eq_true h
    rw [if_neg (by omega), if_neg (by omega)]
    simp only [s1, s2, s3, cond_false, cond_true]
    by_cases hc : cu = 2
    · rw [if_pos hc, beq_iff_eq.2 hc]; rfl
    · rw [if_neg hc, beq_eq_false_iff_ne.2 hc]
      simp only [cond_false, b1, Option.bind_some]
end

end

section
open Go Go.Dt Go.Proofs Go.Proofs.Ytegmkkpdckolkaa.Clip Go.Proofs.Ytegmkkpdckolkaa.Pol Go.Proofs.Ytegmkkpdckolkaa.Wide
set_option linter.unusedVariables false
set_option linter.unusedSimpArgs false

/-! ### Vertices that may be -/
def inB (m n : Int) : Bool := decide (-m ≤ n) && decide (n ≤ m)
theorem inB_iff {m n : Int} : inB m n = true ↔ -m ≤ n ∧ n ≤ m := by
  unfold inB
  rw [Bool.and_eq_true, decide_eq_true_iff, decide_eq_true_iff]
theorem within_t {m n : Int} (h0 : 0 ≤ m) (h1 : m ≤ 4611686018427387904) : IntKind.i64.wrap (0 - m) = -m := by rw [wrap_i64_of (by omega) (by omega)]; omega
theorem FR05_Within_eq {m n : Int} (h0 : 0 ≤ m) (h1 : m ≤ 4611686018427387904) (K : Nat) : FR05_Within K n m = some (inB m n) := by
  unfold FR05_Within inB
  rw [within_t (n := n) h0 h1]
  rcases Decidable.em (-m ≤ n) with h | h
  · rw [decide_eq_true h]; rfl
  · rw [decide_eq_false h]; rfl
theorem Fvec_within_eq {m n : Int} (h0 : 0 ≤ m) (h1 : m ≤ 4611686018427387904) (K : Nat) : Fvec_within K n m = some (inB m n) := FR05_Within_eq h0 h1 K
theorem within_loop {m : Int} (h0 : 0 ≤ m) (h1 : m ≤ 4611686018427387904) {l : List Int} (hn : l.length ≤ 1000) : ∀ (d i K : Nat), i + d = l.length → d < K → Fgeom_within_2 m l K (i : Int) = some ((l.drop i).all (inB m))
  | 0, i, K + 1, h, hK => by
    have e1 : decide ((i : Int) < (l.length : Int)) = false := decide_eq_false (by omega)
    rw [Fgeom_within_2, List.drop_of_length_le (by omega)]
    simp only [e1, cond_false]
    rfl
  | d + 1, i, K + 1, h, hK => by
    have e1 : decide ((i : Int) < (l.length : Int)) = true := decide_eq_true (by omega)
    have e2 := inR_ok (show i < l.length by omega)
    have e3 : getR l i = l[i]'(by omega) := by
      unfold getR
      rw [List.getD_eq_getElem?_getD, List.getElem?_eq_getElem (by omega)]; rfl
    rw [Fgeom_within_2, List.drop_eq_getElem_cons (by omega), List.all_cons]
    simp only [e1, e2, cond_true, Int.toNat_natCast, wrap_nxt (show i ≤ 1000000 by omega), within_t (n := 0) h0 h1, within_loop h0 h1 hn d (i + 1) K (by omega) (by omega), e3]
    generalize l[i]'(by omega) = n
    rcases Decidable.em (n < -m) with h2 | h2
    · rw [decide_eq_true h2]
      have : inB m n = false := by unfold inB; rw [decide_eq_false (by omega)]; rfl
      rw [this]; rfl
    · rw [decide_eq_false h2]
      rcases Decidable.em (n > m) with h3 | h3
      · rw [decide_eq_true h3]
        have : inB m n = false := by unfold inB; rw [decide_eq_false (show ¬ n ≤ m by omega), Bool.and_false]
        rw [this]; rfl
      · rw [decide_eq_false h3]
        have : inB m n = true := by unfold inB; rw [decide_eq_true (show -m ≤ n by omega), decide_eq_true (show n ≤ m by omega)]; rfl
        rw [this]; rfl
  | _, _, 0, _, hK => absurd hK (Nat.not_lt_zero _)
theorem Fgeom_within_eq {m : Int} (h0 : 0 ≤ m) (h1 : m ≤ 4611686018427387904) {l : List Int} (hn : l.length ≤ 1000) {K : Nat} (hK : l.length < K) : Fgeom_within K m l = some (l.all (inB m)) := by
  unfold Fgeom_within
  exact within_loop h0 h1 hn l.length 0 K (by omega) hK
def blkV (v : TVertex) (R : Option Int) : Option Int :=
  bif inB 1048576 v.X && (inB 1048576 v.Y && (inB 1048576 v.Z && (inB 65536 v.U && inB 65536 v.V))) then (bif Ftint v.C then R else some 3) else some 11
theorem blkA (x y z u v t : Bool) (R : Option Int) : (bif !(x && (y && (z && true))) then some 11 else bif !(u && (v && true)) then some 11 else bif !t then some 3 else R) = (bif x && (y && (z && (u && v))) then (bif t then R else some (3 : Int)) else some 11) := by
  cases x <;> cases y <;> cases z <;> cases u <;> cases v <;> cases t <;> rfl
theorem blkB (x y z u v t : Bool) (R : Option Int) : (bif !x then some 11 else bif (bif false then true else !y) then some 11 else bif (bif false then true else !z) then some 11 else bif (bif false then true else !u) then some 11 else bif (bif false then true else !v) then some 11 else bif !t then some 3 else R) = (bif x && (y && (z && (u && v))) then (bif t then R else some (3 : Int)) else some 11) := by
  cases x <;> cases y <;> cases z <;> cases u <;> cases v <;> cases t <;> rfl
section
variable {t : A3TVertex}
def chkV (t : A3TVertex) : Option Int := blkV t.e0 (blkV t.e1 (blkV t.e2 (some 0)))
theorem Fgeom_check_eq {K : Nat} (hK : 3 < K) : Fgeom_check K t = chkV t := by
  have w3 : ∀ a b c : Int, Fgeom_within K 1048576 [a, b, c] = some (inB 1048576 a && (inB 1048576 b && (inB 1048576 c && true))) := fun a b c => Fgeom_within_eq (by decide) (by decide) (by simp) hK
  have w2 : ∀ a b : Int, Fgeom_within K 65536 [a, b] = some (inB 65536 a && (inB 65536 b && true)) := fun a b => Fgeom_within_eq (by decide) (by decide) (by simp) (Nat.lt_of_succ_lt hK)
  unfold Fgeom_check
  simp only [w3, w2, Option.bind_some]
  rw [blkA, blkA, blkA]
  rfl
theorem FR25_Check_eq (K : Nat) : FR25_Check K t = chkV t := by
  have w3 : ∀ a : Int, FR05_Within K a 1048576 = some (inB 1048576 a) := fun a => FR05_Within_eq (by decide) (by decide) K
  have w2 : ∀ a : Int, FR05_Within K a 65536 = some (inB 65536 a) := fun a => FR05_Within_eq (by decide) (by decide) K
  unfold FR25_Check
  simp only [w3, w2, Option.bind_some]
  rw [blkB, blkB, blkB]
  rfl
def goodV (v : TVertex) : Prop := inB 1048576 v.X = true ∧ inB 1048576 v.Y = true ∧ inB 1048576 v.Z = true ∧ inB 65536 v.U = true ∧ inB 65536 v.V = true ∧ Ftint v.C = true
theorem blk_good {v : TVertex} {R : Option Int} : (blkV v R = R ∧ goodV v) ∨ (blkV v R = some 3) ∨ (blkV v R = some 11) := by
  unfold blkV goodV
  cases inB 1048576 v.X <;> cases inB 1048576 v.Y <;> cases inB 1048576 v.Z <;> cases inB 65536 v.U <;> cases inB 65536 v.V <;> cases Ftint v.C <;> simp
theorem chk_cases : (∃ e, chkV t = some e ∧ (e != 0) = true) ∨ (chkV t = some 0 ∧ goodV t.e0 ∧ goodV t.e1 ∧ goodV t.e2) := by
  unfold chkV
  rcases blk_good (v := t.e0) (R := blkV t.e1 (blkV t.e2 (some 0))) with ⟨h, g0⟩ | h | h
  · rw [h]
    rcases blk_good (v := t.e1) (R := blkV t.e2 (some 0)) with ⟨h, g1⟩ | h | h
    · rw [h]
      rcases blk_good (v := t.e2) (R := some 0) with ⟨h, g2⟩ | h | h
      · rw [h]; exact .inr ⟨rfl, g0, g1, g2⟩
      · exact .inl ⟨3, h, rfl⟩
      · exact .inl ⟨11, h, rfl⟩
    · exact .inl ⟨3, h, rfl⟩
    · exact .inl ⟨11, h, rfl⟩
  · exact .inl ⟨3, h, rfl⟩
  · exact .inl ⟨11, h, rfl⟩
end

/-! ### Corners -/
def rowV (a b c d x y z : Int) : Int := (a * x + b * y + c * z + d * 256) / 65536
def cornV (m : TMat) (v : TVertex) : TCorner :=
  ⟨⟨rowV m.e0 m.e1 m.e2 m.e3 v.X v.Y v.Z, rowV m.e4 m.e5 m.e6 m.e7 v.X v.Y v.Z, rowV m.e8 m.e9 m.e10 m.e11 v.X v.Y v.Z, rowV m.e12 m.e13 m.e14 m.e15 v.X v.Y v.Z⟩, ⟨v.C.R, v.C.G, v.C.B, v.C.A, v.U, v.V⟩⟩
def w24P (n : Int) : Prop := -16777216 ≤ n ∧ n ≤ 16777216
theorem w24_ok {n : Int} (h : Frag.w24 n = true) : w24P n := by
  unfold Frag.w24 at h
  rw [Bool.and_eq_true, decide_eq_true_iff, decide_eq_true_iff] at h
  exact h
section
variable {a b c d x y z : Int} (ha : w24P a) (hb : w24P b) (hc : w24P c) (hd : w24P d) (hx : -1048576 ≤ x ∧ x ≤ 1048576) (hy : -1048576 ≤ y ∧ y ≤ 1048576) (hz : -1048576 ≤ z ∧ z ≤ 1048576)
include ha hb hc hd hx hy hz
theorem row_b : (IntKind.i64.wrap (a * x) = a * x ∧ IntKind.i64.wrap (b * y) = b * y ∧ IntKind.i64.wrap (c * z) = c * z ∧ IntKind.i64.wrap (d * 256) = d * 256) ∧
    (IntKind.i64.wrap (0 + a * x) = a * x ∧ IntKind.i64.wrap (a * x + b * y) = a * x + b * y ∧ IntKind.i64.wrap (a * x + b * y + c * z) = a * x + b * y + c * z ∧ IntKind.i64.wrap (a * x + b * y + c * z + d * 256) = a * x + b * y + c * z + d * 256) ∧
    (-70368744177664 ≤ a * x + b * y + c * z + d * 256 ∧ a * x + b * y + c * z + d * 256 ≤ 70368744177664) := by
  unfold w24P at *
  have m1 := mulB ha.1 ha.2 hx.1 hx.2
  have m2 := mulB hb.1 hb.2 hy.1 hy.2
  have m3 := mulB hc.1 hc.2 hz.1 hz.2
  refine ⟨⟨wrap_i64_of (by omega) (by omega), wrap_i64_of (by omega) (by omega), wrap_i64_of (by omega) (by omega), wrap_i64_of (by omega) (by omega)⟩, ⟨?_, wrap_i64_of (by omega) (by omega), wrap_i64_of (by omega) (by omega), wrap_i64_of (by omega) (by omega)⟩, by omega, by omega⟩
  rw [wrap_i64_of (by omega) (by omega)]; omega
theorem row_eq : (IntKind.i64.wrap (IntKind.i64.wrap (IntKind.i64.wrap (IntKind.i64.wrap (0 + IntKind.i64.wrap (a * x)) + IntKind.i64.wrap (b * y)) + IntKind.i64.wrap (c * z)) + IntKind.i64.wrap (d * 256))).fdiv 65536 = rowV a b c d x y z := by
  obtain ⟨⟨b1, b2, b3, b4⟩, ⟨c1, c2, c3, c4⟩, -⟩ := row_b ha hb hc hd hx hy hz
  rw [b1, b2, b3, b4, c1, c2, c3, c4, Int.fdiv_eq_ediv_of_nonneg _ (by decide)]
  rfl
theorem rowR_eq (K : Nat) : FR01_Floor K (IntKind.i64.wrap (IntKind.i64.wrap (IntKind.i64.wrap (IntKind.i64.wrap (a * x) + IntKind.i64.wrap (b * y)) + IntKind.i64.wrap (c * z)) + IntKind.i64.wrap (d * 256))) 65536 = some (rowV a b c d x y z) := by
  obtain ⟨⟨b1, b2, b3, b4⟩, ⟨c1, c2, c3, c4⟩, h1, h2⟩ := row_b ha hb hc hd hx hy hz
  rw [b1, b2, b3, b4, c2, c3, c4, FR01_Floor_eq (by omega) (by omega) (by decide)]
  rfl
theorem row_ok : ok30 (rowV a b c d x y z) := by
  obtain ⟨-, -, h1, h2⟩ := row_b ha hb hc hd hx hy hz
  unfold ok30 rowV
  generalize a * x + b * y + c * z + d * 256 = n at *
  omega
end
section
variable {m : TMat} {v : TVertex} (hm : FmayM m = true) (hv : goodV v)
include hm hv
omit hv in
theorem mat_rows : (w24P m.e0 ∧ w24P m.e1 ∧ w24P m.e2 ∧ w24P m.e3) ∧ (w24P m.e4 ∧ w24P m.e5 ∧ w24P m.e6 ∧ w24P m.e7) ∧ (w24P m.e8 ∧ w24P m.e9 ∧ w24P m.e10 ∧ w24P m.e11) ∧ (w24P m.e12 ∧ w24P m.e13 ∧ w24P m.e14 ∧ w24P m.e15) := by
  unfold FmayM Frag.mayM at hm
  simp only [Bool.and_eq_true] at hm
  obtain ⟨h0, h1, h2, h3, h4, h5, h6, h7, h8, h9, h10, h11, h12, h13, h14, h15⟩ := hm
  exact ⟨⟨w24_ok h0, w24_ok h1, w24_ok h2, w24_ok h3⟩, ⟨w24_ok h4, w24_ok h5, w24_ok h6, w24_ok h7⟩, ⟨w24_ok h8, w24_ok h9, w24_ok h10, w24_ok h11⟩, ⟨w24_ok h12, w24_ok h13, w24_ok h14, w24_ok h15⟩⟩
theorem Ffetch_Corner_eq (K : Nat) : Ffetch_Corner K m v = some (cornV m v, 0) := by
  obtain ⟨⟨a0, a1, a2, a3⟩, ⟨a4, a5, a6, a7⟩, ⟨a8, a9, a10, a11⟩, a12, a13, a14, a15⟩ := mat_rows hm
  obtain ⟨g1, g2, g3, -⟩ := hv
  have x := inB_iff.1 g1
  have y := inB_iff.1 g2
  have z := inB_iff.1 g3
  have r0 := row_eq a0 a1 a2 a3 x y z
  have r1 := row_eq a4 a5 a6 a7 x y z
  have r2 := row_eq a8 a9 a10 a11 x y z
  have r3 := row_eq a12 a13 a14 a15 x y z
  have w : ∀ n : Int, -1048576 ≤ n ∧ n ≤ 1048576 → Fvec_within K n 1073741824 = some true := fun n h => by
    rw [Fvec_within_eq (by decide) (by decide), inB_iff.2 (by omega)]
  unfold Ffetch_Corner Fvec_Place
  simp only [Option.bind_some]
  unfold Fvec_Apply Fvec_list
  simp only [Option.bind_some, hm, w _ x, w _ y, w _ z, w 256 (by decide), Bool.not_true, cond_false, r0, r1, r2, r3]
  rfl
theorem FR24_Corner_eq (K : Nat) : FR24_Corner K m v = some (cornV m v) := by
  obtain ⟨⟨a0, a1, a2, a3⟩, ⟨a4, a5, a6, a7⟩, ⟨a8, a9, a10, a11⟩, a12, a13, a14, a15⟩ := mat_rows hm
  obtain ⟨g1, g2, g3, -⟩ := hv
  have x := inB_iff.1 g1
  have y := inB_iff.1 g2
  have z := inB_iff.1 g3
  have e : ∀ u : TVec, FR05_row K m 0 u = FR01_Floor K (IntKind.i64.wrap (IntKind.i64.wrap (IntKind.i64.wrap (IntKind.i64.wrap (m.e0 * u.X) + IntKind.i64.wrap (m.e1 * u.Y)) + IntKind.i64.wrap (m.e2 * u.Z)) + IntKind.i64.wrap (m.e3 * u.W))) 65536 ∧
      FR05_row K m 1 u = FR01_Floor K (IntKind.i64.wrap (IntKind.i64.wrap (IntKind.i64.wrap (IntKind.i64.wrap (m.e4 * u.X) + IntKind.i64.wrap (m.e5 * u.Y)) + IntKind.i64.wrap (m.e6 * u.Z)) + IntKind.i64.wrap (m.e7 * u.W))) 65536 ∧
      FR05_row K m 2 u = FR01_Floor K (IntKind.i64.wrap (IntKind.i64.wrap (IntKind.i64.wrap (IntKind.i64.wrap (m.e8 * u.X) + IntKind.i64.wrap (m.e9 * u.Y)) + IntKind.i64.wrap (m.e10 * u.Z)) + IntKind.i64.wrap (m.e11 * u.W))) 65536 ∧
      FR05_row K m 3 u = FR01_Floor K (IntKind.i64.wrap (IntKind.i64.wrap (IntKind.i64.wrap (IntKind.i64.wrap (m.e12 * u.X) + IntKind.i64.wrap (m.e13 * u.Y)) + IntKind.i64.wrap (m.e14 * u.Z)) + IntKind.i64.wrap (m.e15 * u.W))) 65536 := fun u => by
    have bs : ∀ o : Option Int, (o.bind fun u => some u) = o := fun o => by cases o <;> rfl
    refine ⟨bs _, bs _, bs _, bs _⟩
  unfold FR24_Corner FR24_Place
  simp only [Option.bind_some]
  unfold FR05_Apply
  rw [(e _).1, (e _).2.1, (e _).2.2.1, (e _).2.2.2]
  simp only [rowR_eq a0 a1 a2 a3 x y z, rowR_eq a4 a5 a6 a7 x y z, rowR_eq a8 a9 a10 a11 x y z, rowR_eq a12 a13 a14 a15 x y z, Option.bind_some]
  rfl
theorem cornV_may : Fmay (cornV m v) = true := by
  obtain ⟨⟨a0, a1, a2, a3⟩, ⟨a4, a5, a6, a7⟩, ⟨a8, a9, a10, a11⟩, a12, a13, a14, a15⟩ := mat_rows hm
  obtain ⟨g1, g2, g3, g4, g5, g6⟩ := hv
  have x := inB_iff.1 g1
  have y := inB_iff.1 g2
  have z := inB_iff.1 g3
  have uu := inB_iff.1 g4
  have vv := inB_iff.1 g5
  have c8 : ∀ n : Int, Frag.is8 n = true → Clip.ok20 n := fun n h => by
    unfold Frag.is8 at h
    rw [Bool.and_eq_true, decide_eq_true_iff, decide_eq_true_iff] at h
    unfold Clip.ok20; omega
  unfold Ftint Frag.rightC at g6
  simp only [Bool.and_eq_true] at g6
  refine mayB_iff.2 ⟨⟨row_ok a0 a1 a2 a3 x y z, row_ok a4 a5 a6 a7 x y z, row_ok a8 a9 a10 a11 x y z, row_ok a12 a13 a14 a15 x y z⟩, c8 _ g6.1, c8 _ g6.2.1, c8 _ g6.2.2.1, c8 _ g6.2.2.2, ?_, ?_⟩
  · show Clip.ok20 v.U
    unfold Clip.ok20; omega
  · show Clip.ok20 v.V
    unfold Clip.ok20; omega
end

end

section
open Go Go.Dt Go.Proofs Go.Proofs.Ytegmkkpdckolkaa.Clip Go.Proofs.Ytegmkkpdckolkaa.Pol Go.Proofs.Ytegmkkpdckolkaa.Wide
set_option linter.unusedVariables false
set_option linter.unusedSimpArgs false

/-! ### States -/
theorem first9_zero {e0 e1 e2 e3 e4 e5 e6 e7 e8 : Int} (h : Frag.first9 e0 e1 e2 e3 e4 e5 e6 e7 e8 = 0) : e0 = 0 ∧ e1 = 0 ∧ e6 = 0 := by
  unfold Frag.first9 at h
  refine ⟨?_, ?_, ?_⟩ <;> (repeat' split at h) <;> omega
theorem st_ok {s : TState} (h : (Fst s != 0) = false) : FmayM s.M = true ∧ viewOk s.View ∧ 0 ≤ s.Cull ∧ s.Cull ≤ 2 := by
  have h : Fst s = 0 := by simpa using h
  obtain ⟨h0, h1, h6⟩ := first9_zero h
  refine ⟨?_, ?_, ?_⟩
  · cases hm : FmayM s.M with
    | true => rfl
    | false =>
      unfold FmayM at hm
      rw [Frag.matE, hm] at h0
      exact absurd h0 (by decide)
  · exact Classical.byContradiction fun hv => by
      rw [show Frag.viewE s.View.X0 s.View.Y0 s.View.X1 s.View.Y1 = 12 from if_neg hv] at h1
      exact absurd h1 (by decide)
  · unfold Frag.kind2 at h6
    split at h6
    · exact absurd h6 (by decide)
    · split at h6
      · exact absurd h6 (by decide)
      · omega

/-! ### Rows of spots -/
theorem drop_getR {α : Type} [Flat α] (l : List α) {i : Nat} (hi : i < l.length) : l.drop i = getR l i :: l.drop (i + 1) := by
  rw [List.drop_eq_getElem_cons hi]
  congr 1
  unfold getR
  rw [List.getD_eq_getElem?_getD, List.getElem?_eq_getElem hi]
  rfl
theorem room72 {n : Nat} (h : n ≤ 1000000) : room n 72 = true := by
  simp only [room, Bool.and_eq_true, decide_eq_true_eq]
  omega
theorem room256 {n : Nat} (h : n ≤ 1000000) : room n 256 = true := by
  simp only [room, Bool.and_eq_true, decide_eq_true_eq]
  omega
section
variable {ps : List TCorner} {v : TRect} (hp : MayT ps) (hw : WT ps) (hv : viewOk v) (hn : ps.length ≤ 1000)
include hp hw hv hn
theorem poly_loop : ∀ (d i K : Nat) (o : List TSpot), i + d = ps.length → d < K → o.length + d ≤ 2000 → Fview_Poly_6 ps v K o (i : Int) = some (o ++ (ps.drop i).map (snapV v), 0)
  | 0, i, K + 1, o, h, hK, ho => by
    have e1 : decide ((i : Int) < (ps.length : Int)) = false := decide_eq_false (by omega)
    rw [Fview_Poly_6, List.drop_of_length_le (by omega)]
    simp only [e1, cond_false]
    rw [List.map_nil, List.append_nil]
  | d + 1, i, K + 1, o, h, hK, ho => by
    have e1 : decide ((i : Int) < (ps.length : Int)) = true := decide_eq_true (by omega)
    have hi : i < ps.length := by omega
    have e2 := inR_ok hi
    have e3 := Fview_Snap_eq (mayB_iff.2 (hp i hi)) (hw i hi) hv K
    have z0 : ((0 : Int) != 0) = false := rfl
    have r1 : ∀ x : TSpot, room (o.length + ([x] : List TSpot).length) 72 = true := fun x => room72 (by simp; omega)
    rw [Fview_Poly_6, drop_getR ps hi]
    simp only [e1, e2, cond_true, Int.toNat_natCast, e3, Option.bind_some, z0, cond_false, r1, wrap_nxt (show i ≤ 1000000 by omega)]
    rw [poly_loop d (i + 1) K _ (by omega) (by omega) (by rw [List.length_append]; simp; omega), List.append_assoc]
    rfl
  | _, _, 0, _, _, hK, _ => absurd hK (Nat.not_lt_zero _)
theorem Fview_Poly_eq {K : Nat} (hK : 1000 < K) : Fview_Poly K ps v = some (ps.map (snapV v), 0) := by
  have ev : (Fview v != 0) = false := by
    unfold Fview
    rw [if_pos (show Frag.viewP v.X0 v.Y0 v.X1 v.Y1 from hv)]; rfl
  unfold Fview_Poly
  rw [ev]
  have := poly_loop hp hw hv hn ps.length 0 K [] (by omega) (by omega) (by simp; omega)
  exact this
end

/-! ### The corners that are left -/
def cornL (s : TState) (t : A3TVertex) : List TCorner := [cornV s.M t.e0, cornV s.M t.e1, cornV s.M t.e2]
def leftL (s : TState) (t : A3TVertex) : List TCorner := plT 7 0 (cornL s t)
def spotL (s : TState) (t : A3TVertex) : List TSpot := (leftL s t).map (snapV s.View)
def goodT (t : A3TVertex) : Prop := goodV t.e0 ∧ goodV t.e1 ∧ goodV t.e2
section
variable {s : TState} {t : A3TVertex} (hs : (Fst s != 0) = false) (ht : goodT t)
include hs ht
theorem corn_may : MayT (cornL s t) := by
  obtain ⟨hm, -⟩ := st_ok hs
  intro i hi
  have hi : i < 3 := hi
  rcases i with _ | _ | _ | i
  · exact mayB_iff.1 (cornV_may hm ht.1)
  · exact mayB_iff.1 (cornV_may hm ht.2.1)
  · exact mayB_iff.1 (cornV_may hm ht.2.2)
  · omega
omit hs ht in
theorem plT_may : ∀ (d j : Nat) (ps : List TCorner), j + d ≤ 7 → MayT ps → MayT (plT d j ps)
  | 0, _, _, _, h => h
  | d + 1, j, ps, hj, h => plT_may d (j + 1) _ (by omega) (atT_may (by omega) h)
theorem left_may : MayT (leftL s t) := plT_may 7 0 _ (by omega) (corn_may hs ht)
theorem left_w : WT (leftL s t) := all_w (corn_may hs ht)
omit hs ht in
theorem left_len : (leftL s t).length ≤ 384 := by
  have h := plT_len 7 0 (cornL s t)
  rw [show (cornL s t).length = 3 from rfl] at h
  exact Nat.le_trans h (by decide)
omit hs ht in
theorem check_loop {ps : List TCorner} (hp : MayT ps) (hn : ps.length ≤ 1000) : ∀ (d i K : Nat), i + d = ps.length → d < K → Fclip_check_4 ps K (i : Int) = some 0
  | 0, i, K + 1, h, hK => by
    have e1 : decide ((i : Int) < (ps.length : Int)) = false := decide_eq_false (by omega)
    rw [Fclip_check_4]
    simp only [e1, cond_false]
  | d + 1, i, K + 1, h, hK => by
    have e1 : decide ((i : Int) < (ps.length : Int)) = true := decide_eq_true (by omega)
    have hi : i < ps.length := by omega
    have e2 := inR_ok hi
    have e3 : Fmay (getR ps i) = true := mayB_iff.2 (hp i hi)
    rw [Fclip_check_4]
    simp only [e1, e2, cond_true, Int.toNat_natCast, e3, Bool.not_true, cond_false, wrap_nxt (show i ≤ 1000000 by omega)]
    exact check_loop hp hn d (i + 1) K (by omega) (by omega)
  | _, _, 0, _, hK => absurd hK (Nat.not_lt_zero _)
theorem Fclip_All_eq {K : Nat} (hK : 5000 < K) : Fclip_All K (cornL s t) = some (leftL s t, 0) := by
  have hl : (cornL s t).length = 3 := rfl
  have c := check_loop (corn_may hs ht) (by omega) 3 0 K (by omega) (by omega)
  have z0 : ((0 : Int) != 0) = false := rfl
  have r : room (cornL s t).length 80 = true := room80 (by omega)
  have e1 : decide (((cornL s t).length : Int) > 16) = false := decide_eq_false (by omega)
  have e0 : ((0 : Nat) : Int) = 0 := rfl
  have a := loop24 (a0 := cornL s t) 7 0 K (cornL s t) rfl (corn_may hs ht) (by omega) (by omega)
  rw [e0] at a c
  unfold Fclip_All Fclip_check Fslices_Clone
  simp only [e1, cond_false, c, Option.bind_some, z0, r, cond_true]
  exact a
theorem Fgeom_spots_eq {K : Nat} (hK : 5000 < K) : Fgeom_spots K s t = some (spotL s t, 0) := by
  obtain ⟨hm, hv, -⟩ := st_ok hs
  have z0 : ((0 : Int) != 0) = false := rfl
  have e := Fclip_All_eq hs ht hK
  unfold cornL at e
  have l := left_len (s := s) (t := t)
  have p := Fview_Poly_eq (left_may hs ht) (left_w hs ht) hv (by omega) (show 1000 < K by omega)
  unfold Fgeom_spots Ffetch_Corners
  simp only [Ffetch_Corner_eq hm ht.1, Ffetch_Corner_eq hm ht.2.1, Ffetch_Corner_eq hm ht.2.2, Option.bind_some, z0, cond_false, e, p]
  rfl
theorem spot_mays : ∀ q, q ∈ spotL s t → Fmays q = true := by
  intro q hq
  obtain ⟨c, hc, rfl⟩ := List.mem_map.1 hq
  obtain ⟨i, hi, e⟩ := List.getElem_of_mem hc
  have := left_may hs ht i hi
  have g : getR (leftL s t) i = c := by
    unfold getR
    rw [List.getD_eq_getElem?_getD, List.getElem?_eq_getElem hi, e]; rfl
  rw [g] at this
  exact mays_snap (mayB_iff.2 this)
end

/-! ### Fans -/
def fan (cu : Int) (l : List TSpot) : Nat → Nat → List TTri
  | 0, _ => []
  | d + 1, i => (if (setV ⟨getR l 0, getR l (i - 1), getR l i⟩ cu).2 = true then [(setV ⟨getR l 0, getR l (i - 1), getR l i⟩ cu).1] else []) ++ fan cu l d (i + 1)
section
variable {l : List TSpot} (hl : ∀ q, q ∈ l → Fmays q = true) (hn : l.length ≤ 1000)
include hl hn
omit hn in
theorem getR_mays {i : Nat} (hi : i < l.length) : Fmays (getR l i) = true := by
  refine hl _ ?_
  unfold getR
  rw [List.getD_eq_getElem?_getD, List.getElem?_eq_getElem hi]
  exact List.getElem_mem hi
theorem tris_loop {s : TState} {t : A3TVertex} (h1 : 0 ≤ s.Cull) (h2 : s.Cull ≤ 2) : ∀ (d i K : Nat) (o : List TTri), d = l.length - i → 2 ≤ i → d < K → o.length + d ≤ 2000 → Fgeom_Tris_12 s t K l o (i : Int) = some (o ++ fan s.Cull l d i, 0)
  | 0, i, K + 1, o, h, hi, hK, ho => by
    have e1 : decide ((i : Int) < (l.length : Int)) = false := decide_eq_false (by omega)
    rw [Fgeom_Tris_12]
    simp only [e1, cond_false]
    show _ = some (o ++ [], 0)
    rw [List.append_nil]
  | d + 1, i, K + 1, o, h, hi, hK, ho => by
    have e1 : decide ((i : Int) < (l.length : Int)) = true := decide_eq_true (by omega)
    have e2 := inR_ok (show i < l.length by omega)
    have e3 := inR_ok (show 0 < l.length by omega)
    have e4 := inR_ok (show i - 1 < l.length by omega)
    have e5 : IntKind.i64.wrap ((i : Int) - 1) = ((i - 1 : Nat) : Int) := by rw [wrap_i64_of (by omega) (by omega)]; omega
    have hq : maysQ ⟨getR l 0, getR l (i - 1), getR l i⟩ := ⟨getR_mays hl (by omega), getR_mays hl (by omega), getR_mays hl (by omega)⟩
    have e6 := Ftri_Setup_eq hq h1 h2 K
    have r1 : ∀ x : TTri, room (o.length + ([x] : List TTri).length) 256 = true := fun x => room256 (by simp; omega)
    have e7 : ((0 : Nat) : Int) = 0 := rfl
    rw [e7] at e3
    rw [Fgeom_Tris_12, fan]
    simp only [e1, e2, e3, e4, e5, e6, cond_true, Int.toNat_natCast, Option.bind_some, r1, wrap_nxt (show i ≤ 1000000 by omega)]
    cases hc : (setV ⟨getR l 0, getR l (i - 1), getR l i⟩ s.Cull).2 with
    | false =>
      simp only [cond_false]
      rw [if_neg (by decide), tris_loop h1 h2 d (i + 1) K o (by omega) (by omega) (by omega) (by omega)]
      rfl
    | true =>
      simp only [cond_true]
      rw [if_pos trivial, tris_loop h1 h2 d (i + 1) K _ (by omega) (by omega) (by omega) (by rw [List.length_append]; simp; omega), List.append_assoc]
  | _, _, 0, _, _, _, hK, _ => absurd hK (Nat.not_lt_zero _)
omit hl hn in
theorem fan_len (cu : Int) : ∀ (d i : Nat), (fan cu l d i).length ≤ d
  | 0, i => Nat.le_refl _
  | d + 1, i => by
    have := fan_len cu d (i + 1)
    rw [fan, List.length_append]
    split
    · rw [List.length_singleton]; omega
    · rw [List.length_nil]; omega
end
def trisL (s : TState) (t : A3TVertex) : List TTri := fan s.Cull (spotL s t) ((spotL s t).length - 2) 2
section
variable {s : TState} {t : A3TVertex} (hs : (Fst s != 0) = false) (ht : goodT t)
theorem spot_len : (spotL s t).length ≤ 384 := by
  unfold spotL
  rw [List.length_map]
  exact left_len
include hs ht
theorem Fgeom_Tris_eq (hc : chkV t = some 0) {K : Nat} (hK : 5000 < K) : Fgeom_Tris K s t = some (trisL s t, 0) := by
  obtain ⟨hm, hv, h1, h2⟩ := st_ok hs
  have z0 : ((0 : Int) != 0) = false := rfl
  have l := spot_len (s := s) (t := t)
  have mm := spot_mays hs ht
  have sp := Fgeom_spots_eq hs ht hK
  have h : Fgeom_Tris_12 s t K (spotL s t) [] 2 = some (trisL s t, 0) := by
    unfold trisL
    generalize spotL s t = q0 at *
    exact tris_loop (s := s) (t := t) mm (by omega) h1 h2 (q0.length - 2) 2 K [] rfl (by decide) (by omega) (by simp; omega)
  unfold Fgeom_Tris
  simp only [hs, cond_false, Fgeom_check_eq (t := t) (show 3 < K by omega), hc, Option.bind_some, z0, sp]
  exact h
end
end

end Go.Proofs.Ytegmkkpdckolkaa.Lf
