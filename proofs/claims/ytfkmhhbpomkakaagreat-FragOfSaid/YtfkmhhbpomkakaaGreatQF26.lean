/- Several texts in one: TDy, TEy, TFy. -/
import Derived.Test.YtfkmhhbpomkakaaGreatQF25
namespace Go.Proofs.YtfkmhhbpomkakaaGreat.Tri

section
open Go Go.Dt Go.Proofs Go.Proofs.YtfkmhhbpomkakaaGreat.Wide Go.Proofs.YtfkmhhbpomkakaaGreat.Bary
set_option linter.unusedVariables false
set_option linter.unusedSimpArgs false

def fitsP (x y : Int) : Prop := (-32768 ≤ x ∧ x ≤ 32767) ∧ (-32768 ≤ y ∧ y ≤ 32767)
instance (x y : Int) : Decidable (fitsP x y) := by unfold fitsP; infer_instance
theorem mid_ok {x y : Int} (h : fitsP x y) : okP (16 * x + 8) (16 * y + 8) = true := by
  unfold fitsP at h
  rw [okP_iff]; omega
theorem c_middle {x y : Int} (h : fitsP x y) : Con Tryz.prog 46 [.int .i64 x, .int .i64 y] (.tuple ⟨[PT (16 * x + 8) (16 * y + 8), .int .i64 0]⟩) := by
  unfold fitsP at h
  have wx : IntKind.i64.wrap (IntKind.i64.wrap (x * 16) + 8) = 16 * x + 8 := by rw [wrap_i64_of (n := x * 16) (by omega) (by omega), wrap_i64_of (by omega) (by omega)]; omega
  have wy : IntKind.i64.wrap (IntKind.i64.wrap (y * 16) + 8) = 16 * y + 8 := by rw [wrap_i64_of (n := y * 16) (by omega) (by omega), wrap_i64_of (by omega) (by omega)]; omega
  rw [← wx, ← wy]
  exact Con.run Tryz.func46 (by kernel_rfl) rfl <| R.guardIs mixed 11 (decide (x < -32768)) false (decide_eq_false (by omega)) (by kernel_rfl) <| R.guardIs mixed 4 (bif false then true else decide (x ≥ 32768)) false (by simp; omega) (by kernel_rfl) <|
    R.guardIs mixed 4 (bif false then true else decide (y < -32768)) false (by simp; omega) (by kernel_rfl) <| R.cond mixed 4 (bif false then true else decide (y ≥ 32768)) false (by simp; omega) (by kernel_rfl) <| R.fin mixed Tryz.func46 (by kernel_rfl)
theorem c_middleNo {x y : Int} (h : ¬ fitsP x y) : Con Tryz.prog 46 [.int .i64 x, .int .i64 y] (.tuple ⟨[PT 0 0, .int .i64 3]⟩) := by
  unfold fitsP at h
  refine Con.run Tryz.func46 (by kernel_rfl) rfl ?_
  rcases Decidable.em (x < -32768) with h1 | h1
  · exact R.guardIs mixed 11 (decide (x < -32768)) true (decide_eq_true h1) (by kernel_rfl) <| R.fin mixed Tryz.func46 (by kernel_rfl)
  · refine R.guardIs mixed 11 (decide (x < -32768)) false (decide_eq_false h1) (by kernel_rfl) ?_
    rcases Decidable.em (x ≥ 32768) with h2 | h2
    · exact R.guardIs mixed 4 (bif false then true else decide (x ≥ 32768)) true (by simp; omega) (by kernel_rfl) <| R.fin mixed Tryz.func46 (by kernel_rfl)
    · refine R.guardIs mixed 4 (bif false then true else decide (x ≥ 32768)) false (by simp; omega) (by kernel_rfl) ?_
      rcases Decidable.em (y < -32768) with h3 | h3
      · exact R.guardIs mixed 4 (bif false then true else decide (y < -32768)) true (by simp; omega) (by kernel_rfl) <| R.fin mixed Tryz.func46 (by kernel_rfl)
      · exact R.guardIs mixed 4 (bif false then true else decide (y < -32768)) false (by simp; omega) (by kernel_rfl) <| R.cond mixed 4 (bif false then true else decide (y ≥ 32768)) true (by simp; omega) (by kernel_rfl) <| R.fin mixed Tryz.func46 (by kernel_rfl)

def ownsB (ax ay bx b_ : Int) : Bool := decide (b_ < ay) || ((b_ == ay) && decide (bx > ax))
theorem c_owns (ax ay bx b_ : Int) : Con Tryz.prog 108 [PT ax ay, PT bx b_] (.bool (ownsB ax ay bx b_)) := by
  refine Con.run Tryz.func108 (by kernel_rfl) rfl ?_
  rcases Decidable.em (b_ < ay) with h | h
  · exact R.guardIs mixed 14 (decide (b_ < ay)) true (decide_eq_true h) (by kernel_rfl) <| R.finIs mixed Tryz.func108 (.bool true) (by kernel_rfl) (by simp [ownsB, h])
  · refine R.guardIs mixed 14 (decide (b_ < ay)) false (decide_eq_false h) (by kernel_rfl) ?_
    rcases Decidable.em (b_ = ay) with h2 | h2
    · exact R.guardIs mixed 6 (b_ == ay) true (by simp [h2]) (by kernel_rfl) <| R.finIs mixed Tryz.func108 (.bool (bif false then true else bif true then decide (bx > ax) else false)) (by kernel_rfl) (by simp [ownsB, h2])
    · exact R.guardIs mixed 6 (b_ == ay) false (by simp [h2]) (by kernel_rfl) <| R.finIs mixed Tryz.func108 (.bool false) (by kernel_rfl) (by simp [ownsB, h, h2])
theorem owns' {ax ay bx b_ : Int} {o : Bool} (h : ownsB ax ay bx b_ = o) : Con Tryz.prog 108 [PT ax ay, PT bx b_] (.bool o) := h ▸ c_owns ax ay bx b_
def onB (n : Int) (o : Bool) : Bool := decide (0 < n) || ((n == 0) && o)
theorem onB_neg {n : Int} {o : Bool} (h : n < 0) : onB n o = false := by simp [onB]; omega
theorem onB_zero {n : Int} {o : Bool} (h : n = 0) : onB n o = o := by simp [onB, h]
theorem onB_pos {n : Int} {o : Bool} (h : 0 < n) : onB n o = true := by simp [onB, h]

/-- Which edges have a point. -/
theorem c_ehas {ax ay bx b_ cx cy px py N N0 N1 N2 : Int} {B : Bool} (ha : okP ax ay = true) (hb : okP bx b_ = true) (hc : okP cx cy = true) (hf : fitsP px py) (hN : sideR ax ay bx b_ cx cy = N) (hp : 0 < N)
    (h0 : sideR ax ay bx b_ (16 * px + 8) (16 * py + 8) = N0) (h1 : sideR bx b_ cx cy (16 * px + 8) (16 * py + 8) = N1) (h2 : sideR cx cy ax ay (16 * px + 8) (16 * py + 8) = N2)
    (hB : B = (onB N0 (ownsB ax ay bx b_) && (onB N1 (ownsB bx b_ cx cy) && onB N2 (ownsB cx cy ax ay)))) : Con Tryz.prog 86 [T6 ax ay bx b_ cx cy, .int .i64 px, .int .i64 py] (.tuple ⟨[.bool B, .int .i64 0]⟩) := by
  have m := Bary.c_may3 ax ay bx b_ cx cy
  rw [show ok3 ax ay bx b_ cx cy = true by simp [ok3, ha, hb, hc]] at m
  have sN := c_side ax ay bx b_ cx cy
  have s0 := c_side ax ay bx b_ (16 * px + 8) (16 * py + 8)
  have s1 := c_side bx b_ cx cy (16 * px + 8) (16 * py + 8)
  have s2 := c_side cx cy ax ay (16 * px + 8) (16 * py + 8)
  rw [hN] at sN
  rw [h0] at s0
  rw [h1] at s1
  rw [h2] at s2
  refine Con.run Tryz.func86 (by kernel_rfl) rfl <| R.call mixed (c_middle hf) (by kernel_rfl) <| R.callM mixed [.win 0 0 6 false] m (by kernel_rfl) (by kernel_rfl) rfl <| R.call mixed sN (by kernel_rfl) <| R.cond mixed 2 (decide (N ≤ 0)) false (decide_eq_false (by omega)) (by kernel_rfl) ?_
  rcases Int.lt_trichotomy N0 0 with k0 | k0 | k0
  · exact R.call mixed s0 (by kernel_rfl) <| R.guardIs mixed 7 (decide (N0 < 0)) true (decide_eq_true k0) (by kernel_rfl) <| R.finIs mixed Tryz.func86 (.tuple ⟨[.bool false, .int .i64 0]⟩) (by kernel_rfl) (by rw [hB, onB_neg k0]; simp)
  · cases o0 : ownsB ax ay bx b_ with
    | false => exact R.call mixed s0 (by kernel_rfl) <| R.guardIs mixed 7 (decide (N0 < 0)) false (decide_eq_false (by omega)) (by kernel_rfl) <| R.guardIs mixed 3 (N0 == 0) true (by simp [k0]) (by kernel_rfl) <| R.call mixed (owns' o0) (by kernel_rfl) <| R.finIs mixed Tryz.func86 (.tuple ⟨[.bool false, .int .i64 0]⟩) (by kernel_rfl) (by rw [hB, onB_zero k0, o0]; simp)
    | true =>
      refine R.call mixed s0 (by kernel_rfl) <| R.guardIs mixed 7 (decide (N0 < 0)) false (decide_eq_false (by omega)) (by kernel_rfl) <| R.guardIs mixed 3 (N0 == 0) true (by simp [k0]) (by kernel_rfl) <| R.call mixed (owns' o0) (by kernel_rfl) ?_
      rcases Int.lt_trichotomy N1 0 with k1 | k1 | k1
      · exact R.call mixed s1 (by kernel_rfl) <| R.guardIs mixed 7 (decide (N1 < 0)) true (decide_eq_true k1) (by kernel_rfl) <| R.finIs mixed Tryz.func86 (.tuple ⟨[.bool false, .int .i64 0]⟩) (by kernel_rfl) (by rw [hB, onB_zero k0, o0, onB_neg k1]; simp)
      · cases o1 : ownsB bx b_ cx cy with
        | false => exact R.call mixed s1 (by kernel_rfl) <| R.guardIs mixed 7 (decide (N1 < 0)) false (decide_eq_false (by omega)) (by kernel_rfl) <| R.guardIs mixed 3 (N1 == 0) true (by simp [k1]) (by kernel_rfl) <| R.call mixed (owns' o1) (by kernel_rfl) <| R.finIs mixed Tryz.func86 (.tuple ⟨[.bool false, .int .i64 0]⟩) (by kernel_rfl) (by rw [hB, onB_zero k0, o0, onB_zero k1, o1]; simp)
        | true =>
          refine R.call mixed s1 (by kernel_rfl) <| R.guardIs mixed 7 (decide (N1 < 0)) false (decide_eq_false (by omega)) (by kernel_rfl) <| R.guardIs mixed 3 (N1 == 0) true (by simp [k1]) (by kernel_rfl) <| R.call mixed (owns' o1) (by kernel_rfl) ?_
          rcases Int.lt_trichotomy N2 0 with k2 | k2 | k2
          · exact R.call mixed s2 (by kernel_rfl) <| R.guardIs mixed 7 (decide (N2 < 0)) true (decide_eq_true k2) (by kernel_rfl) <| R.finIs mixed Tryz.func86 (.tuple ⟨[.bool false, .int .i64 0]⟩) (by kernel_rfl) (by rw [hB, onB_zero k0, o0, onB_zero k1, o1, onB_neg k2]; simp)
          · cases o2 : ownsB cx cy ax ay with
            | false => exact R.call mixed s2 (by kernel_rfl) <| R.guardIs mixed 7 (decide (N2 < 0)) false (decide_eq_false (by omega)) (by kernel_rfl) <| R.guardIs mixed 3 (N2 == 0) true (by simp [k2]) (by kernel_rfl) <| R.call mixed (owns' o2) (by kernel_rfl) <| R.finIs mixed Tryz.func86 (.tuple ⟨[.bool false, .int .i64 0]⟩) (by kernel_rfl) (by rw [hB, onB_zero k0, o0, onB_zero k1, o1, onB_zero k2, o2]; simp)
            | true =>
              refine R.call mixed s2 (by kernel_rfl) <| R.guardIs mixed 7 (decide (N2 < 0)) false (decide_eq_false (by omega)) (by kernel_rfl) <| R.guardIs mixed 3 (N2 == 0) true (by simp [k2]) (by kernel_rfl) <| R.call mixed (owns' o2) (by kernel_rfl) ?_
              exact R.finIs mixed Tryz.func86 (.tuple ⟨[.bool true, .int .i64 0]⟩) (by kernel_rfl) (by rw [hB, onB_zero k0, o0, onB_zero k1, o1, onB_zero k2, o2]; rfl)
          · refine R.call mixed s2 (by kernel_rfl) <| R.guardIs mixed 7 (decide (N2 < 0)) false (decide_eq_false (by omega)) (by kernel_rfl) <| R.guardIs mixed 3 (N2 == 0) false (beq_eq_false_iff_ne.2 (by omega)) (by kernel_rfl) ?_
            exact R.finIs mixed Tryz.func86 (.tuple ⟨[.bool true, .int .i64 0]⟩) (by kernel_rfl) (by rw [hB, onB_zero k0, o0, onB_zero k1, o1, onB_pos k2]; rfl)
      · refine R.call mixed s1 (by kernel_rfl) <| R.guardIs mixed 7 (decide (N1 < 0)) false (decide_eq_false (by omega)) (by kernel_rfl) <| R.guardIs mixed 3 (N1 == 0) false (beq_eq_false_iff_ne.2 (by omega)) (by kernel_rfl) ?_
        rcases Int.lt_trichotomy N2 0 with k2 | k2 | k2
        · exact R.call mixed s2 (by kernel_rfl) <| R.guardIs mixed 7 (decide (N2 < 0)) true (decide_eq_true k2) (by kernel_rfl) <| R.finIs mixed Tryz.func86 (.tuple ⟨[.bool false, .int .i64 0]⟩) (by kernel_rfl) (by rw [hB, onB_zero k0, o0, onB_pos k1, onB_neg k2]; simp)
        · cases o2 : ownsB cx cy ax ay with
          | false => exact R.call mixed s2 (by kernel_rfl) <| R.guardIs mixed 7 (decide (N2 < 0)) false (decide_eq_false (by omega)) (by kernel_rfl) <| R.guardIs mixed 3 (N2 == 0) true (by simp [k2]) (by kernel_rfl) <| R.call mixed (owns' o2) (by kernel_rfl) <| R.finIs mixed Tryz.func86 (.tuple ⟨[.bool false, .int .i64 0]⟩) (by kernel_rfl) (by rw [hB, onB_zero k0, o0, onB_pos k1, onB_zero k2, o2]; simp)
          | true =>
            refine R.call mixed s2 (by kernel_rfl) <| R.guardIs mixed 7 (decide (N2 < 0)) false (decide_eq_false (by omega)) (by kernel_rfl) <| R.guardIs mixed 3 (N2 == 0) true (by simp [k2]) (by kernel_rfl) <| R.call mixed (owns' o2) (by kernel_rfl) ?_
            exact R.finIs mixed Tryz.func86 (.tuple ⟨[.bool true, .int .i64 0]⟩) (by kernel_rfl) (by rw [hB, onB_zero k0, o0, onB_pos k1, onB_zero k2, o2]; rfl)
        · refine R.call mixed s2 (by kernel_rfl) <| R.guardIs mixed 7 (decide (N2 < 0)) false (decide_eq_false (by omega)) (by kernel_rfl) <| R.guardIs mixed 3 (N2 == 0) false (beq_eq_false_iff_ne.2 (by omega)) (by kernel_rfl) ?_
          exact R.finIs mixed Tryz.func86 (.tuple ⟨[.bool true, .int .i64 0]⟩) (by kernel_rfl) (by rw [hB, onB_zero k0, o0, onB_pos k1, onB_pos k2]; rfl)
  · refine R.call mixed s0 (by kernel_rfl) <| R.guardIs mixed 7 (decide (N0 < 0)) false (decide_eq_false (by omega)) (by kernel_rfl) <| R.guardIs mixed 3 (N0 == 0) false (beq_eq_false_iff_ne.2 (by omega)) (by kernel_rfl) ?_
    rcases Int.lt_trichotomy N1 0 with k1 | k1 | k1
    · exact R.call mixed s1 (by kernel_rfl) <| R.guardIs mixed 7 (decide (N1 < 0)) true (decide_eq_true k1) (by kernel_rfl) <| R.finIs mixed Tryz.func86 (.tuple ⟨[.bool false, .int .i64 0]⟩) (by kernel_rfl) (by rw [hB, onB_pos k0, onB_neg k1]; simp)
    · cases o1 : ownsB bx b_ cx cy with
      | false => exact R.call mixed s1 (by kernel_rfl) <| R.guardIs mixed 7 (decide (N1 < 0)) false (decide_eq_false (by omega)) (by kernel_rfl) <| R.guardIs mixed 3 (N1 == 0) true (by simp [k1]) (by kernel_rfl) <| R.call mixed (owns' o1) (by kernel_rfl) <| R.finIs mixed Tryz.func86 (.tuple ⟨[.bool false, .int .i64 0]⟩) (by kernel_rfl) (by rw [hB, onB_pos k0, onB_zero k1, o1]; simp)
      | true =>
        refine R.call mixed s1 (by kernel_rfl) <| R.guardIs mixed 7 (decide (N1 < 0)) false (decide_eq_false (by omega)) (by kernel_rfl) <| R.guardIs mixed 3 (N1 == 0) true (by simp [k1]) (by kernel_rfl) <| R.call mixed (owns' o1) (by kernel_rfl) ?_
        rcases Int.lt_trichotomy N2 0 with k2 | k2 | k2
        · exact R.call mixed s2 (by kernel_rfl) <| R.guardIs mixed 7 (decide (N2 < 0)) true (decide_eq_true k2) (by kernel_rfl) <| R.finIs mixed Tryz.func86 (.tuple ⟨[.bool false, .int .i64 0]⟩) (by kernel_rfl) (by rw [hB, onB_pos k0, onB_zero k1, o1, onB_neg k2]; simp)
        · cases o2 : ownsB cx cy ax ay with
          | false => exact R.call mixed s2 (by kernel_rfl) <| R.guardIs mixed 7 (decide (N2 < 0)) false (decide_eq_false (by omega)) (by kernel_rfl) <| R.guardIs mixed 3 (N2 == 0) true (by simp [k2]) (by kernel_rfl) <| R.call mixed (owns' o2) (by kernel_rfl) <| R.finIs mixed Tryz.func86 (.tuple ⟨[.bool false, .int .i64 0]⟩) (by kernel_rfl) (by rw [hB, onB_pos k0, onB_zero k1, o1, onB_zero k2, o2]; simp)
          | true =>
            refine R.call mixed s2 (by kernel_rfl) <| R.guardIs mixed 7 (decide (N2 < 0)) false (decide_eq_false (by omega)) (by kernel_rfl) <| R.guardIs mixed 3 (N2 == 0) true (by simp [k2]) (by kernel_rfl) <| R.call mixed (owns' o2) (by kernel_rfl) ?_
            exact R.finIs mixed Tryz.func86 (.tuple ⟨[.bool true, .int .i64 0]⟩) (by kernel_rfl) (by rw [hB, onB_pos k0, onB_zero k1, o1, onB_zero k2, o2]; rfl)
        · refine R.call mixed s2 (by kernel_rfl) <| R.guardIs mixed 7 (decide (N2 < 0)) false (decide_eq_false (by omega)) (by kernel_rfl) <| R.guardIs mixed 3 (N2 == 0) false (beq_eq_false_iff_ne.2 (by omega)) (by kernel_rfl) ?_
          exact R.finIs mixed Tryz.func86 (.tuple ⟨[.bool true, .int .i64 0]⟩) (by kernel_rfl) (by rw [hB, onB_pos k0, onB_zero k1, o1, onB_pos k2]; rfl)
    · refine R.call mixed s1 (by kernel_rfl) <| R.guardIs mixed 7 (decide (N1 < 0)) false (decide_eq_false (by omega)) (by kernel_rfl) <| R.guardIs mixed 3 (N1 == 0) false (beq_eq_false_iff_ne.2 (by omega)) (by kernel_rfl) ?_
      rcases Int.lt_trichotomy N2 0 with k2 | k2 | k2
      · exact R.call mixed s2 (by kernel_rfl) <| R.guardIs mixed 7 (decide (N2 < 0)) true (decide_eq_true k2) (by kernel_rfl) <| R.finIs mixed Tryz.func86 (.tuple ⟨[.bool false, .int .i64 0]⟩) (by kernel_rfl) (by rw [hB, onB_pos k0, onB_pos k1, onB_neg k2]; simp)
      · cases o2 : ownsB cx cy ax ay with
        | false => exact R.call mixed s2 (by kernel_rfl) <| R.guardIs mixed 7 (decide (N2 < 0)) false (decide_eq_false (by omega)) (by kernel_rfl) <| R.guardIs mixed 3 (N2 == 0) true (by simp [k2]) (by kernel_rfl) <| R.call mixed (owns' o2) (by kernel_rfl) <| R.finIs mixed Tryz.func86 (.tuple ⟨[.bool false, .int .i64 0]⟩) (by kernel_rfl) (by rw [hB, onB_pos k0, onB_pos k1, onB_zero k2, o2]; simp)
        | true =>
          refine R.call mixed s2 (by kernel_rfl) <| R.guardIs mixed 7 (decide (N2 < 0)) false (decide_eq_false (by omega)) (by kernel_rfl) <| R.guardIs mixed 3 (N2 == 0) true (by simp [k2]) (by kernel_rfl) <| R.call mixed (owns' o2) (by kernel_rfl) ?_
          exact R.finIs mixed Tryz.func86 (.tuple ⟨[.bool true, .int .i64 0]⟩) (by kernel_rfl) (by rw [hB, onB_pos k0, onB_pos k1, onB_zero k2, o2]; rfl)
      · refine R.call mixed s2 (by kernel_rfl) <| R.guardIs mixed 7 (decide (N2 < 0)) false (decide_eq_false (by omega)) (by kernel_rfl) <| R.guardIs mixed 3 (N2 == 0) false (beq_eq_false_iff_ne.2 (by omega)) (by kernel_rfl) ?_
        exact R.finIs mixed Tryz.func86 (.tuple ⟨[.bool true, .int .i64 0]⟩) (by kernel_rfl) (by rw [hB, onB_pos k0, onB_pos k1, onB_pos k2]; rfl)

theorem c_ehasNo {ax ay bx b_ cx cy px py : Int} (hf : ¬ fitsP px py) : Con Tryz.prog 86 [T6 ax ay bx b_ cx cy, .int .i64 px, .int .i64 py] (.tuple ⟨[.bool false, .int .i64 3]⟩) :=
  Con.run Tryz.func86 (by kernel_rfl) rfl <| R.call mixed (c_middleNo hf) (by kernel_rfl) <| R.fin mixed Tryz.func86 (by kernel_rfl)

theorem side_sum (ax ay bx b_ cx cy px py : Int) : sideI bx b_ cx cy px py + sideI cx cy ax ay px py + sideI ax ay bx b_ px py = sideI ax ay bx b_ cx cy := by
  unfold sideI
  rw [Int.mul_comm (cy - b_), Int.mul_comm (ay - cy), Int.mul_comm (b_ - ay) (px - ax), Int.mul_comm (b_ - ay) (cx - ax)]
  simp only [Int.sub_mul, Int.mul_sub]
  omega

/-- Does a triangle have a pixel? -/
def hasB (ax ay bx b_ cx cy px py : Int) : Bool := decide (fitsP px py) && (onB (sideI ax ay bx b_ (16 * px + 8) (16 * py + 8)) (ownsB ax ay bx b_) && (onB (sideI bx b_ cx cy (16 * px + 8) (16 * py + 8)) (ownsB bx b_ cx cy) && onB (sideI cx cy ax ay (16 * px + 8) (16 * py + 8)) (ownsB cx cy ax ay)))

section
variable {x0 y0 z0 a0 b0 c0 d0 e0 f0 x1 y1 z1 a1 b1 c1 d1 e1 f1 x2 y2 z2 a2 b2 c2 d2 e2 f2 ar X0 Y0 X1 Y1 px py : Int}
theorem c_has (h0 : okP x0 y0 = true) (h1 : okP x1 y1 = true) (h2 : okP x2 y2 = true) (hp : 0 < sideI x0 y0 x1 y1 x2 y2) : Con Tryz.prog 45 [T32 x0 y0 z0 a0 b0 c0 d0 e0 f0 x1 y1 z1 a1 b1 c1 d1 e1 f1 x2 y2 z2 a2 b2 c2 d2 e2 f2 ar X0 Y0 X1 Y1, .int .i64 px, .int .i64 py] (.bool (hasB x0 y0 x1 y1 x2 y2 px py)) := by
  have cp := @c_points x0 y0 z0 a0 b0 c0 d0 e0 f0 x1 y1 z1 a1 b1 c1 d1 e1 f1 x2 y2 z2 a2 b2 c2 d2 e2 f2 ar X0 Y0 X1 Y1
  unfold hasB
  rcases Decidable.em (fitsP px py) with hf | hf
  · have hm := mid_ok hf
    have ce := c_ehas h0 h1 h2 hf (sideR_ h0 h1 h2) hp (sideR_ h0 h1 hm) (sideR_ h1 h2 hm) (sideR_ h2 h0 hm) rfl
    rw [decide_eq_true hf, Bool.true_and]
    generalize (onB (sideI x0 y0 x1 y1 (16 * px + 8) (16 * py + 8)) (ownsB x0 y0 x1 y1) && (onB (sideI x1 y1 x2 y2 (16 * px + 8) (16 * py + 8)) (ownsB x1 y1 x2 y2) && onB (sideI x2 y2 x0 y0 (16 * px + 8) (16 * py + 8)) (ownsB x2 y2 x0 y0))) = B at *
    cases B with
    | false => exact Con.run Tryz.func45 (by kernel_rfl) rfl <| R.call mixed cp (by kernel_rfl) <| R.call mixed ce (by kernel_rfl) <| R.fin mixed Tryz.func45 (by kernel_rfl)
    | true => exact Con.run Tryz.func45 (by kernel_rfl) rfl <| R.call mixed cp (by kernel_rfl) <| R.call mixed ce (by kernel_rfl) <| R.fin mixed Tryz.func45 (by kernel_rfl)
  · rw [decide_eq_false hf, Bool.false_and]
    exact Con.run Tryz.func45 (by kernel_rfl) rfl <| R.call mixed cp (by kernel_rfl) <| R.call mixed (@c_ehasNo x0 y0 x1 y1 x2 y2 px py hf) (by kernel_rfl) <| R.fin mixed Tryz.func45 (by kernel_rfl)

theorem onB_nonneg {n : Int} {o : Bool} (h : onB n o = true) : 0 ≤ n := by
  rcases Int.lt_or_le n 0 with k | k
  · rw [onB_neg k] at h; cases h
  · exact k

theorem has_parts {ax ay bx b_ cx cy : Int} (h : hasB ax ay bx b_ cx cy px py = true) : fitsP px py ∧ 0 ≤ sideI ax ay bx b_ (16 * px + 8) (16 * py + 8) ∧ 0 ≤ sideI bx b_ cx cy (16 * px + 8) (16 * py + 8) ∧ 0 ≤ sideI cx cy ax ay (16 * px + 8) (16 * py + 8) := by
  simp only [hasB, Bool.and_eq_true, decide_eq_true_eq] at h
  exact ⟨h.1, onB_nonneg h.2.1, onB_nonneg h.2.2.1, onB_nonneg h.2.2.2⟩

theorem atYes (h0 : okP x0 y0 = true) (h1 : okP x1 y1 = true) (h2 : okP x2 y2 = true) (hp : 0 < sideI x0 y0 x1 y1 x2 y2) (r0 : restS z0 a0 b0 c0 d0 e0 f0) (r1 : restS z1 a1 b1 c1 d1 e1 f1) (r2 : restS z2 a2 b2 c2 d2 e2 f2)
    {w0 w1 w2 : Int} (g0 : sideI x1 y1 x2 y2 (16 * px + 8) (16 * py + 8) = w0) (g1 : sideI x2 y2 x0 y0 (16 * px + 8) (16 * py + 8) = w1) (g2 : sideI x0 y0 x1 y1 (16 * px + 8) (16 * py + 8) = w2) (hh : hasB x0 y0 x1 y1 x2 y2 px py = true) :
    Con Tryz.prog 16 [T32 x0 y0 z0 a0 b0 c0 d0 e0 f0 x1 y1 z1 a1 b1 c1 d1 e1 f1 x2 y2 z2 a2 b2 c2 d2 e2 f2 ar X0 Y0 X1 Y1, .int .i64 px, .int .i64 py] (.tuple ⟨[.int .i64 (mixed_ w0 w1 w2 z0 z1 z2), A6 (mixed_ w0 w1 w2 a0 a1 a2) (mixed_ w0 w1 w2 b0 b1 b2) (mixed_ w0 w1 w2 c0 c1 c2) (mixed_ w0 w1 w2 d0 d1 d2) (mixed_ w0 w1 w2 e0 e1 e2) (mixed_ w0 w1 w2 f0 f1 f2), .bool true]⟩) := by
  have cH := c_has (x0 := x0) (y0 := y0) (z0 := z0) (a0 := a0) (b0 := b0) (c0 := c0) (d0 := d0) (e0 := e0) (f0 := f0) (x1 := x1) (y1 := y1) (z1 := z1) (a1 := a1) (b1 := b1) (c1 := c1) (d1 := d1) (e1 := e1) (f1 := f1) (x2 := x2) (y2 := y2) (z2 := z2) (a2 := a2) (b2 := b2) (c2 := c2) (d2 := d2) (e2 := e2) (f2 := f2) (ar := ar) (X0 := X0) (Y0 := Y0) (X1 := X1) (Y1 := Y1) (px := px) (py := py) h0 h1 h2 hp
  rw [hh] at cH
  obtain ⟨hf, q2, q0, q1⟩ := has_parts hh
  have hm := mid_ok hf
  have b0_ := side_bounds h1 h2 hm
  have b1_ := side_bounds h2 h0 hm
  have b2_ := side_bounds h0 h1 hm
  have hs := side_sum x0 y0 x1 y1 x2 y2 (16 * px + 8) (16 * py + 8)
  rw [g0] at q0 b0_
  rw [g1] at q1 b1_
  rw [g2] at q2 b2_
  rw [g0, g1, g2] at hs
  exact at_ h0 h1 h2 hm r0 r1 r2 cH (c_middle hf) (by rw [sideR_ h1 h2 hm, g0]) (by rw [sideR_ h2 h0 hm, g1]) (by rw [sideR_ h0 h1 hm, g2]) q0 q1 q2 (by omega) (by omega) (by omega) (by omega)
theorem atNo (h0 : okP x0 y0 = true) (h1 : okP x1 y1 = true) (h2 : okP x2 y2 = true) (hp : 0 < sideI x0 y0 x1 y1 x2 y2) (hh : hasB x0 y0 x1 y1 x2 y2 px py = false) :
    Con Tryz.prog 16 [T32 x0 y0 z0 a0 b0 c0 d0 e0 f0 x1 y1 z1 a1 b1 c1 d1 e1 f1 x2 y2 z2 a2 b2 c2 d2 e2 f2 ar X0 Y0 X1 Y1, .int .i64 px, .int .i64 py] (.tuple ⟨[.int .i64 0, A6 0 0 0 0 0 0, .bool false]⟩) := by
  have cH := c_has (x0 := x0) (y0 := y0) (z0 := z0) (a0 := a0) (b0 := b0) (c0 := c0) (d0 := d0) (e0 := e0) (f0 := f0) (x1 := x1) (y1 := y1) (z1 := z1) (a1 := a1) (b1 := b1) (c1 := c1) (d1 := d1) (e1 := e1) (f1 := f1) (x2 := x2) (y2 := y2) (z2 := z2) (a2 := a2) (b2 := b2) (c2 := c2) (d2 := d2) (e2 := e2) (f2 := f2) (ar := ar) (X0 := X0) (Y0 := Y0) (X1 := X1) (Y1 := Y1) (px := px) (py := py) h0 h1 h2 hp
  rw [hh] at cH
  exact Con.run Tryz.func16 (by kernel_rfl) rfl <| R.call mixed cH (by kernel_rfl) <| R.fin mixed Tryz.func16 (by kernel_rfl)
end

end

section
open Go Go.Dt Go.Proofs Go.Proofs.YtfkmhhbpomkakaaGreat.Wide Go.Proofs.YtfkmhhbpomkakaaGreat.Bary
set_option linter.unusedVariables false
set_option linter.unusedSimpArgs false

section
variable {x0 y0 z0 a0 b0 c0 d0 e0 f0 x1 y1 z1 a1 b1 c1 d1 e1 f1 x2 y2 z2 a2 b2 c2 d2 e2 f2 px py : Int}

end

end

section
open Go Go.Dt Go.Proofs Go.Proofs.YtfkmhhbpomkakaaGreat.Wide Go.Proofs.YtfkmhhbpomkakaaGreat.Bary
set_option linter.unusedVariables false
set_option linter.unusedSimpArgs false

theorem c_rfits (x y : Int) : Con Tryz.prog 62 [.int .i64 x, .int .i64 y] (.bool (decide (fitsP x y))) := by
  refine Con.run Tryz.func62 (by kernel_rfl) rfl ?_
  rcases Decidable.em (x ≥ -32768) with h1 | h1
  · refine R.guardIs mixed 9 (decide (x ≥ -32768)) true (decide_eq_true h1) (by kernel_rfl) ?_
    rcases Decidable.em (x ≤ 32767) with h2 | h2
    · refine R.guardIs mixed 4 (bif true then decide (x ≤ 32767) else false) true (decide_eq_true h2) (by kernel_rfl) ?_
      rcases Decidable.em (y ≥ -32768) with h3 | h3
      · exact R.guardIs mixed 4 (bif true then decide (y ≥ -32768) else false) true (decide_eq_true h3) (by kernel_rfl) <| R.finIs mixed Tryz.func62 (.bool (bif true then decide (y ≤ 32767) else false)) (by kernel_rfl) (by rw [cond_true]; congr 1; rw [decide_eq_decide]; unfold fitsP; omega)
      · exact R.guardIs mixed 4 (bif true then decide (y ≥ -32768) else false) false (decide_eq_false h3) (by kernel_rfl) <| R.finIs mixed Tryz.func62 (.bool false) (by kernel_rfl) (by rw [decide_eq_false (by unfold fitsP; omega)])
    · exact R.guardIs mixed 4 (bif true then decide (x ≤ 32767) else false) false (decide_eq_false h2) (by kernel_rfl) <| R.finIs mixed Tryz.func62 (.bool false) (by kernel_rfl) (by rw [decide_eq_false (by unfold fitsP; omega)])
  · exact R.guardIs mixed 9 (decide (x ≥ -32768)) false (decide_eq_false h1) (by kernel_rfl) <| R.finIs mixed Tryz.func62 (.bool false) (by kernel_rfl) (by rw [decide_eq_false (by unfold fitsP; omega)])
theorem rfits' {x y : Int} {o : Bool} (h : decide (fitsP x y) = o) : Con Tryz.prog 62 [.int .i64 x, .int .i64 y] (.bool o) := h ▸ c_rfits x y
theorem c_rmid {x y : Int} (h : fitsP x y) : Con Tryz.prog 65 [.int .i64 x, .int .i64 y] (PT (16 * x + 8) (16 * y + 8)) := by
  unfold fitsP at h
  have wx : IntKind.i64.wrap (IntKind.i64.wrap (16 * x) + 8) = 16 * x + 8 := by rw [wrap_i64_of (n := 16 * x) (by omega) (by omega), wrap_i64_of (by omega) (by omega)]
  have wy : IntKind.i64.wrap (IntKind.i64.wrap (16 * y) + 8) = 16 * y + 8 := by rw [wrap_i64_of (n := 16 * y) (by omega) (by omega), wrap_i64_of (by omega) (by omega)]
  rw [← wx, ← wy]
  exact Con.run Tryz.func65 (by kernel_rfl) rfl <| R.fin mixed Tryz.func65 (by kernel_rfl)
theorem c_rowns (ax ay bx b_ : Int) : Con Tryz.prog 115 [PT ax ay, PT bx b_] (.bool (ownsB ax ay bx b_)) := by
  refine Con.run Tryz.func115 (by kernel_rfl) rfl ?_
  rcases Decidable.em (ay = b_) with h | h
  · exact R.cond mixed 15 (ay == b_) true (by simp [h]) (by kernel_rfl) <| R.finIs mixed Tryz.func115 (.bool (decide (ax < bx))) (by kernel_rfl) (by simp [ownsB, h])
  · exact R.cond mixed 15 (ay == b_) false (by simp [h]) (by kernel_rfl) <| R.finIs mixed Tryz.func115 (.bool (decide (ay > b_))) (by kernel_rfl) (by simp [ownsB, Ne.symm h])
theorem rowns' {ax ay bx b_ : Int} {o : Bool} (h : ownsB ax ay bx b_ = o) : Con Tryz.prog 115 [PT ax ay, PT bx b_] (.bool o) := h ▸ c_rowns ax ay bx b_
theorem c_on {ax ay bx b_ px py N : Int} (hN : sideR ax ay bx b_ px py = N) : Con Tryz.prog 94 [PT ax ay, PT bx b_, PT px py] (.bool (onB N (ownsB ax ay bx b_))) := by
  have sN := c_rside ax ay bx b_ px py
  rw [hN] at sN
  refine Con.run Tryz.func94 (by kernel_rfl) rfl <| R.call mixed sN (by kernel_rfl) ?_
  rcases Int.lt_trichotomy N 0 with h | h | h
  · exact R.guardIs mixed 7 (decide (N > 0)) false (decide_eq_false (by omega)) (by kernel_rfl) <| R.guardIs mixed 3 (N == 0) false (beq_eq_false_iff_ne.2 (by omega)) (by kernel_rfl) <| R.finIs mixed Tryz.func94 (.bool false) (by kernel_rfl) (by rw [onB_neg h])
  · cases o : ownsB ax ay bx b_ with
    | false => exact R.guardIs mixed 7 (decide (N > 0)) false (decide_eq_false (by omega)) (by kernel_rfl) <| R.guardIs mixed 3 (N == 0) true (by simp [h]) (by kernel_rfl) <| R.call mixed (rowns' o) (by kernel_rfl) <| R.finIs mixed Tryz.func94 (.bool false) (by kernel_rfl) (by rw [onB_zero h])
    | true => exact R.guardIs mixed 7 (decide (N > 0)) false (decide_eq_false (by omega)) (by kernel_rfl) <| R.guardIs mixed 3 (N == 0) true (by simp [h]) (by kernel_rfl) <| R.call mixed (rowns' o) (by kernel_rfl) <| R.finIs mixed Tryz.func94 (.bool true) (by kernel_rfl) (by rw [onB_zero h])
  · exact R.guardIs mixed 7 (decide (N > 0)) true (decide_eq_true h) (by kernel_rfl) <| R.finIs mixed Tryz.func94 (.bool true) (by kernel_rfl) (by rw [onB_pos h])
theorem on' {ax ay bx b_ px py N : Int} {o : Bool} (hN : sideR ax ay bx b_ px py = N) (h : onB N (ownsB ax ay bx b_) = o) : Con Tryz.prog 94 [PT ax ay, PT bx b_, PT px py] (.bool o) := h ▸ c_on hN

theorem c_rhas {ax ay bx b_ cx cy px py : Int} (ha : okP ax ay = true) (hb : okP bx b_ = true) (hc : okP cx cy = true) (hf : fitsP px py) (hp : 0 < sideI ax ay bx b_ cx cy) :
    Con Tryz.prog 63 [PT ax ay, PT bx b_, PT cx cy, .int .i64 px, .int .i64 py] (.bool (hasB ax ay bx b_ cx cy px py)) := by
  have hm := mid_ok hf
  have sN := c_rside ax ay bx b_ cx cy
  have e0 := sideR_ ha hb hm
  have e1 := sideR_ hb hc hm
  have e2 := sideR_ hc ha hm
  have eN := sideR_ ha hb hc
  rw [eN] at sN
  unfold hasB
  rw [decide_eq_true hf, Bool.true_and]
  refine Con.run Tryz.func63 (by kernel_rfl) rfl <| R.call mixed (c_rmid hf) (by kernel_rfl) <| R.call mixed sN (by kernel_rfl) <| R.guardIs mixed 2 (decide (sideI ax ay bx b_ cx cy > 0)) true (decide_eq_true hp) (by kernel_rfl) ?_
  cases h0 : onB (sideI ax ay bx b_ (16 * px + 8) (16 * py + 8)) (ownsB ax ay bx b_) with
  | false => exact R.call mixed (on' e0 h0) (by kernel_rfl) <| R.fin mixed Tryz.func63 (by kernel_rfl)
  | true =>
    cases h1 : onB (sideI bx b_ cx cy (16 * px + 8) (16 * py + 8)) (ownsB bx b_ cx cy) with
    | false => exact R.call mixed (on' e0 h0) (by kernel_rfl) <| R.call mixed (on' e1 h1) (by kernel_rfl) <| R.fin mixed Tryz.func63 (by kernel_rfl)
    | true => exact R.call mixed (on' e0 h0) (by kernel_rfl) <| R.call mixed (on' e1 h1) (by kernel_rfl) <| R.call mixed (c_on e2) (by kernel_rfl) <| R.fin mixed Tryz.func63 (by kernel_rfl)

/-! ### A point of a triangle lies within its box -/
section
variable {x0 y0 z0 a0 b0 c0 d0 e0 f0 x1 y1 z1 a1 b1 c1 d1 e1 f1 x2 y2 z2 a2 b2 c2 d2 e2 f2 ar X0 Y0 X1 Y1 px py : Int}
theorem c_rHas (h0 : okP x0 y0 = true) (h1 : okP x1 y1 = true) (h2 : okP x2 y2 = true) (hp : 0 < sideI x0 y0 x1 y1 x2 y2) : Con Tryz.prog 21 [T32 x0 y0 z0 a0 b0 c0 d0 e0 f0 x1 y1 z1 a1 b1 c1 d1 e1 f1 x2 y2 z2 a2 b2 c2 d2 e2 f2 ar X0 Y0 X1 Y1, .int .i64 px, .int .i64 py] (.bool (hasB x0 y0 x1 y1 x2 y2 px py)) := by
  rcases Decidable.em (fitsP px py) with hf | hf
  · exact Con.run Tryz.func21 (by kernel_rfl) rfl <| R.call mixed (rfits' (decide_eq_true hf)) (by kernel_rfl) <| R.call mixed (c_rhas h0 h1 h2 hf hp) (by kernel_rfl) <| R.fin mixed Tryz.func21 (by kernel_rfl)
  · have e : hasB x0 y0 x1 y1 x2 y2 px py = false := by unfold hasB; rw [decide_eq_false hf]; rfl
    rw [e]
    exact Con.run Tryz.func21 (by kernel_rfl) rfl <| R.call mixed (rfits' (decide_eq_false hf)) (by kernel_rfl) <| R.fin mixed Tryz.func21 (by kernel_rfl)
theorem hasT (h0 : okP x0 y0 = true) (h1 : okP x1 y1 = true) (h2 : okP x2 y2 = true) (hp : 0 < sideI x0 y0 x1 y1 x2 y2) {o : Bool} (h : hasB x0 y0 x1 y1 x2 y2 px py = o) : Con Tryz.prog 45 [T32 x0 y0 z0 a0 b0 c0 d0 e0 f0 x1 y1 z1 a1 b1 c1 d1 e1 f1 x2 y2 z2 a2 b2 c2 d2 e2 f2 ar X0 Y0 X1 Y1, .int .i64 px, .int .i64 py] (.bool o) ∧ Con Tryz.prog 21 [T32 x0 y0 z0 a0 b0 c0 d0 e0 f0 x1 y1 z1 a1 b1 c1 d1 e1 f1 x2 y2 z2 a2 b2 c2 d2 e2 f2 ar X0 Y0 X1 Y1, .int .i64 px, .int .i64 py] (.bool o) :=
  h ▸ ⟨c_has (x0 := x0) (y0 := y0) (z0 := z0) (a0 := a0) (b0 := b0) (c0 := c0) (d0 := d0) (e0 := e0) (f0 := f0) (x1 := x1) (y1 := y1) (z1 := z1) (a1 := a1) (b1 := b1) (c1 := c1) (d1 := d1) (e1 := e1) (f1 := f1) (x2 := x2) (y2 := y2) (z2 := z2) (a2 := a2) (b2 := b2) (c2 := c2) (d2 := d2) (e2 := e2) (f2 := f2) (ar := ar) (X0 := X0) (Y0 := Y0) (X1 := X1) (Y1 := Y1) h0 h1 h2 hp, c_rHas h0 h1 h2 hp⟩

end

section
variable {x0 y0 z0 a0 b0 c0 d0 e0 f0 x1 y1 z1 a1 b1 c1 d1 e1 f1 x2 y2 z2 a2 b2 c2 d2 e2 f2 px py : Int}

end

end

end Go.Proofs.YtfkmhhbpomkakaaGreat.Tri
