/- TriHas: the walk. -/
import Derived.Test.YtfkmhhbpomkakaaTE
namespace Go.Proofs.Ytfkmhhbpomkakaa.Tri
open Go Go.Dt Go.Proofs Go.Proofs.Ytfkmhhbpomkakaa.Wide Go.Proofs.Ytfkmhhbpomkakaa.Bary
set_option linter.unusedVariables false
set_option linter.unusedSimpArgs false

theorem c_rfits (x y : Int) : Con Try.prog 60 [.int .i64 x, .int .i64 y] (.bool (decide (fitsP x y))) := by
  refine Con.run Try.func60 (by kernel_rfl) rfl ?_
  rcases Decidable.em (x ≥ -32768) with h1 | h1
  · refine R.guardIs mixed 9 (decide (x ≥ -32768)) true (decide_eq_true h1) (by kernel_rfl) ?_
    rcases Decidable.em (x ≤ 32767) with h2 | h2
    · refine R.guardIs mixed 4 (bif true then decide (x ≤ 32767) else false) true (decide_eq_true h2) (by kernel_rfl) ?_
      rcases Decidable.em (y ≥ -32768) with h3 | h3
      · exact R.guardIs mixed 4 (bif true then decide (y ≥ -32768) else false) true (decide_eq_true h3) (by kernel_rfl) <| R.finIs mixed Try.func60 (.bool (bif true then decide (y ≤ 32767) else false)) (by kernel_rfl) (by rw [cond_true]; congr 1; rw [decide_eq_decide]; unfold fitsP; omega)
      · exact R.guardIs mixed 4 (bif true then decide (y ≥ -32768) else false) false (decide_eq_false h3) (by kernel_rfl) <| R.finIs mixed Try.func60 (.bool false) (by kernel_rfl) (by rw [decide_eq_false (by unfold fitsP; omega)])
    · exact R.guardIs mixed 4 (bif true then decide (x ≤ 32767) else false) false (decide_eq_false h2) (by kernel_rfl) <| R.finIs mixed Try.func60 (.bool false) (by kernel_rfl) (by rw [decide_eq_false (by unfold fitsP; omega)])
  · exact R.guardIs mixed 9 (decide (x ≥ -32768)) false (decide_eq_false h1) (by kernel_rfl) <| R.finIs mixed Try.func60 (.bool false) (by kernel_rfl) (by rw [decide_eq_false (by unfold fitsP; omega)])
theorem rfits' {x y : Int} {o : Bool} (h : decide (fitsP x y) = o) : Con Try.prog 60 [.int .i64 x, .int .i64 y] (.bool o) := h ▸ c_rfits x y
theorem c_rmid {x y : Int} (h : fitsP x y) : Con Try.prog 71 [.int .i64 x, .int .i64 y] (PT (16 * x + 8) (16 * y + 8)) := by
  unfold fitsP at h
  have wx : IntKind.i64.wrap (IntKind.i64.wrap (16 * x) + 8) = 16 * x + 8 := by rw [wrap_i64_of (n := 16 * x) (by omega) (by omega), wrap_i64_of (by omega) (by omega)]
  have wy : IntKind.i64.wrap (IntKind.i64.wrap (16 * y) + 8) = 16 * y + 8 := by rw [wrap_i64_of (n := 16 * y) (by omega) (by omega), wrap_i64_of (by omega) (by omega)]
  rw [← wx, ← wy]
  exact Con.run Try.func71 (by kernel_rfl) rfl <| R.fin mixed Try.func71 (by kernel_rfl)
theorem c_rowns (ax ay bx b_ : Int) : Con Try.prog 136 [PT ax ay, PT bx b_] (.bool (ownsB ax ay bx b_)) := by
  refine Con.run Try.func136 (by kernel_rfl) rfl ?_
  rcases Decidable.em (ay = b_) with h | h
  · exact R.cond mixed 15 (ay == b_) true (by simp [h]) (by kernel_rfl) <| R.finIs mixed Try.func136 (.bool (decide (ax < bx))) (by kernel_rfl) (by simp [ownsB, h])
  · exact R.cond mixed 15 (ay == b_) false (by simp [h]) (by kernel_rfl) <| R.finIs mixed Try.func136 (.bool (decide (ay > b_))) (by kernel_rfl) (by simp [ownsB, Ne.symm h])
theorem rowns' {ax ay bx b_ : Int} {o : Bool} (h : ownsB ax ay bx b_ = o) : Con Try.prog 136 [PT ax ay, PT bx b_] (.bool o) := h ▸ c_rowns ax ay bx b_
theorem c_on {ax ay bx b_ px py N : Int} (hN : sideR ax ay bx b_ px py = N) : Con Try.prog 105 [PT ax ay, PT bx b_, PT px py] (.bool (onB N (ownsB ax ay bx b_))) := by
  have sN := c_rside ax ay bx b_ px py
  rw [hN] at sN
  refine Con.run Try.func105 (by kernel_rfl) rfl <| R.call mixed sN (by kernel_rfl) ?_
  rcases Int.lt_trichotomy N 0 with h | h | h
  · exact R.guardIs mixed 7 (decide (N > 0)) false (decide_eq_false (by omega)) (by kernel_rfl) <| R.guardIs mixed 3 (N == 0) false (beq_eq_false_iff_ne.2 (by omega)) (by kernel_rfl) <| R.finIs mixed Try.func105 (.bool false) (by kernel_rfl) (by rw [onB_neg h])
  · cases o : ownsB ax ay bx b_ with
    | false => exact R.guardIs mixed 7 (decide (N > 0)) false (decide_eq_false (by omega)) (by kernel_rfl) <| R.guardIs mixed 3 (N == 0) true (by simp [h]) (by kernel_rfl) <| R.call mixed (rowns' o) (by kernel_rfl) <| R.finIs mixed Try.func105 (.bool false) (by kernel_rfl) (by rw [onB_zero h])
    | true => exact R.guardIs mixed 7 (decide (N > 0)) false (decide_eq_false (by omega)) (by kernel_rfl) <| R.guardIs mixed 3 (N == 0) true (by simp [h]) (by kernel_rfl) <| R.call mixed (rowns' o) (by kernel_rfl) <| R.finIs mixed Try.func105 (.bool true) (by kernel_rfl) (by rw [onB_zero h])
  · exact R.guardIs mixed 7 (decide (N > 0)) true (decide_eq_true h) (by kernel_rfl) <| R.finIs mixed Try.func105 (.bool true) (by kernel_rfl) (by rw [onB_pos h])
theorem on' {ax ay bx b_ px py N : Int} {o : Bool} (hN : sideR ax ay bx b_ px py = N) (h : onB N (ownsB ax ay bx b_) = o) : Con Try.prog 105 [PT ax ay, PT bx b_, PT px py] (.bool o) := h ▸ c_on hN

theorem c_rhas {ax ay bx b_ cx cy px py : Int} (ha : okP ax ay = true) (hb : okP bx b_ = true) (hc : okP cx cy = true) (hf : fitsP px py) (hp : 0 < sideI ax ay bx b_ cx cy) :
    Con Try.prog 61 [PT ax ay, PT bx b_, PT cx cy, .int .i64 px, .int .i64 py] (.bool (hasB ax ay bx b_ cx cy px py)) := by
  have hm := mid_ok hf
  have sN := c_rside ax ay bx b_ cx cy
  have e0 := sideR_ ha hb hm
  have e1 := sideR_ hb hc hm
  have e2 := sideR_ hc ha hm
  have eN := sideR_ ha hb hc
  rw [eN] at sN
  unfold hasB
  rw [decide_eq_true hf, Bool.true_and]
  refine Con.run Try.func61 (by kernel_rfl) rfl <| R.call mixed (c_rmid hf) (by kernel_rfl) <| R.call mixed sN (by kernel_rfl) <| R.guardIs mixed 2 (decide (sideI ax ay bx b_ cx cy > 0)) true (decide_eq_true hp) (by kernel_rfl) ?_
  cases h0 : onB (sideI ax ay bx b_ (16 * px + 8) (16 * py + 8)) (ownsB ax ay bx b_) with
  | false => exact R.call mixed (on' e0 h0) (by kernel_rfl) <| R.fin mixed Try.func61 (by kernel_rfl)
  | true =>
    cases h1 : onB (sideI bx b_ cx cy (16 * px + 8) (16 * py + 8)) (ownsB bx b_ cx cy) with
    | false => exact R.call mixed (on' e0 h0) (by kernel_rfl) <| R.call mixed (on' e1 h1) (by kernel_rfl) <| R.fin mixed Try.func61 (by kernel_rfl)
    | true => exact R.call mixed (on' e0 h0) (by kernel_rfl) <| R.call mixed (on' e1 h1) (by kernel_rfl) <| R.call mixed (c_on e2) (by kernel_rfl) <| R.fin mixed Try.func61 (by kernel_rfl)

/-! ### A point of a triangle lies within its box -/
theorem triple (u0 u1 u2 v0 v1 v2 : Int) : u0 * (u1 * v2 - u2 * v1) + u1 * (u2 * v0 - u0 * v2) + u2 * (u0 * v1 - u1 * v0) = 0 := by
  simp only [Int.mul_sub, ← Int.mul_assoc]
  rw [Int.mul_comm u1 u0, Int.mul_comm u2 u0, Int.mul_comm u2 u1]
  omega
theorem side_uv (ax ay bx b_ px py : Int) : sideI ax ay bx b_ px py = (ax - px) * (b_ - py) - (bx - px) * (ay - py) := by
  unfold sideI
  simp only [Int.sub_mul, Int.mul_sub]
  rw [Int.mul_comm b_ px, Int.mul_comm ay px, Int.mul_comm b_ ax, Int.mul_comm ay ax]
  omega
/-- No point with weights lies beyond all three numbers. -/
theorem not_beyond {u0 u1 u2 v0 v1 v2 w0 w1 w2 : Int} (h0 : w0 = u1 * v2 - u2 * v1) (h1 : w1 = u2 * v0 - u0 * v2) (h2 : w2 = u0 * v1 - u1 * v0) (p0 : 0 ≤ w0) (p1 : 0 ≤ w1) (p2 : 0 ≤ w2) (hs : 0 < w0 + w1 + w2) : ¬ (0 < u0 ∧ 0 < u1 ∧ 0 < u2) := by
  rintro ⟨a, b, c⟩
  have t := triple u0 u1 u2 v0 v1 v2
  rw [← h0, ← h1, ← h2] at t
  have x0 := Int.mul_nonneg (Int.le_of_lt a) p0
  have x1 := Int.mul_nonneg (Int.le_of_lt b) p1
  have x2 := Int.mul_nonneg (Int.le_of_lt c) p2
  have y0 : w0 ≤ u0 * w0 := by
    have := Int.mul_le_mul_of_nonneg_right (show 1 ≤ u0 by omega) p0
    rwa [Int.one_mul] at this
  have y1 : w1 ≤ u1 * w1 := by
    have := Int.mul_le_mul_of_nonneg_right (show 1 ≤ u1 by omega) p1
    rwa [Int.one_mul] at this
  have y2 : w2 ≤ u2 * w2 := by
    have := Int.mul_le_mul_of_nonneg_right (show 1 ≤ u2 by omega) p2
    rwa [Int.one_mul] at this
  omega
theorem in_box {ax ay bx b_ cx cy px py : Int} (hp : 0 < sideI ax ay bx b_ cx cy) (q2 : 0 ≤ sideI ax ay bx b_ (16 * px + 8) (16 * py + 8)) (q0 : 0 ≤ sideI bx b_ cx cy (16 * px + 8) (16 * py + 8)) (q1 : 0 ≤ sideI cx cy ax ay (16 * px + 8) (16 * py + 8)) :
    (bx0 ax bx cx ≤ px ∧ px < bx1 ax bx cx) ∧ (bx0 ay b_ cy ≤ py ∧ py < bx1 ay b_ cy) := by
  have hs := side_sum ax ay bx b_ cx cy (16 * px + 8) (16 * py + 8)
  have r0 := side_uv bx b_ cx cy (16 * px + 8) (16 * py + 8)
  have r1 := side_uv cx cy ax ay (16 * px + 8) (16 * py + 8)
  have r2 := side_uv ax ay bx b_ (16 * px + 8) (16 * py + 8)
  generalize sideI bx b_ cx cy (16 * px + 8) (16 * py + 8) = w0 at *
  generalize sideI cx cy ax ay (16 * px + 8) (16 * py + 8) = w1 at *
  generalize sideI ax ay bx b_ (16 * px + 8) (16 * py + 8) = w2 at *
  have n1 := not_beyond (u0 := ax - (16 * px + 8)) (u1 := bx - (16 * px + 8)) (u2 := cx - (16 * px + 8)) (v0 := ay - (16 * py + 8)) (v1 := b_ - (16 * py + 8)) (v2 := cy - (16 * py + 8)) (by rw [r0]) (by rw [r1]) (by rw [r2]) q0 q1 q2 (by omega)
  have neg1 : ∀ (a b c d : Int), a * b - c * d = -(-a * b - -c * d) := fun a b c d => by rw [Int.neg_mul, Int.neg_mul]; omega
  have n2 := not_beyond (u0 := (16 * px + 8) - ax) (u1 := (16 * px + 8) - bx) (u2 := (16 * px + 8) - cx) (v0 := (16 * py + 8) - ay) (v1 := (16 * py + 8) - b_) (v2 := (16 * py + 8) - cy)
    (by rw [r0]; rw [← Int.neg_sub bx, ← Int.neg_sub cx, ← Int.neg_sub b_, ← Int.neg_sub cy, Int.neg_mul_neg, Int.neg_mul_neg]) (by rw [r1]; rw [← Int.neg_sub cx, ← Int.neg_sub ax, ← Int.neg_sub cy, ← Int.neg_sub ay, Int.neg_mul_neg, Int.neg_mul_neg])
    (by rw [r2]; rw [← Int.neg_sub bx, ← Int.neg_sub ax, ← Int.neg_sub b_, ← Int.neg_sub ay, Int.neg_mul_neg, Int.neg_mul_neg]) q0 q1 q2 (by omega)
  have swp : ∀ (a b c d : Int), a * b - c * d = -(d * c - b * a) := fun a b c d => by rw [Int.mul_comm d c, Int.mul_comm b a]; omega
  have n3 := not_beyond (u0 := ay - (16 * py + 8)) (u1 := b_ - (16 * py + 8)) (u2 := cy - (16 * py + 8)) (v0 := (16 * px + 8) - ax) (v1 := (16 * px + 8) - bx) (v2 := (16 * px + 8) - cx)
    (by rw [r0, ← Int.neg_sub bx (16 * px + 8), ← Int.neg_sub cx (16 * px + 8), Int.mul_neg, Int.mul_neg, Int.mul_comm (b_ - _), Int.mul_comm (cy - _)]; omega)
    (by rw [r1, ← Int.neg_sub cx (16 * px + 8), ← Int.neg_sub ax (16 * px + 8), Int.mul_neg, Int.mul_neg, Int.mul_comm (cy - _), Int.mul_comm (ay - _)]; omega)
    (by rw [r2, ← Int.neg_sub ax (16 * px + 8), ← Int.neg_sub bx (16 * px + 8), Int.mul_neg, Int.mul_neg, Int.mul_comm (ay - _), Int.mul_comm (b_ - _)]; omega) q0 q1 q2 (by omega)
  have n4 := not_beyond (u0 := (16 * py + 8) - ay) (u1 := (16 * py + 8) - b_) (u2 := (16 * py + 8) - cy) (v0 := ax - (16 * px + 8)) (v1 := bx - (16 * px + 8)) (v2 := cx - (16 * px + 8))
    (by rw [r0, ← Int.neg_sub b_ (16 * py + 8), ← Int.neg_sub cy (16 * py + 8), Int.neg_mul, Int.neg_mul, Int.mul_comm (b_ - _), Int.mul_comm (cy - _)]; omega)
    (by rw [r1, ← Int.neg_sub cy (16 * py + 8), ← Int.neg_sub ay (16 * py + 8), Int.neg_mul, Int.neg_mul, Int.mul_comm (cy - _), Int.mul_comm (ay - _)]; omega)
    (by rw [r2, ← Int.neg_sub ay (16 * py + 8), ← Int.neg_sub b_ (16 * py + 8), Int.neg_mul, Int.neg_mul, Int.mul_comm (ay - _), Int.mul_comm (b_ - _)]; omega) q0 q1 q2 (by omega)
  have lo : ∀ {a b c : Int}, lowI (lowI a b) c = a ∨ lowI (lowI a b) c = b ∨ lowI (lowI a b) c = c := fun {a b c} => by
    unfold lowI
    repeat' split
    all_goals simp
  have lo2 : ∀ {a b c : Int}, lowI (lowI a b) c ≤ a ∧ lowI (lowI a b) c ≤ b ∧ lowI (lowI a b) c ≤ c := fun {a b c} => by
    unfold lowI
    repeat' split
    all_goals omega
  have hi2 : ∀ {a b c : Int}, a ≤ highI (highI a b) c ∧ b ≤ highI (highI a b) c ∧ c ≤ highI (highI a b) c := fun {a b c} => by
    unfold highI
    repeat' split
    all_goals omega
  have lx := lo2 (a := ax) (b := bx) (c := cx)
  have ly := lo2 (a := ay) (b := b_) (c := cy)
  have hx := hi2 (a := ax) (b := bx) (c := cx)
  have hy := hi2 (a := ay) (b := b_) (c := cy)
  unfold bx0 bx1
  omega

section
variable {x0 y0 z0 a0 b0 c0 d0 e0 f0 x1 y1 z1 a1 b1 c1 d1 e1 f1 x2 y2 z2 a2 b2 c2 d2 e2 f2 ar X0 Y0 X1 Y1 px py : Int}
theorem c_rHas (h0 : okP x0 y0 = true) (h1 : okP x1 y1 = true) (h2 : okP x2 y2 = true) (hp : 0 < sideI x0 y0 x1 y1 x2 y2) : Con Try.prog 31 [T32 x0 y0 z0 a0 b0 c0 d0 e0 f0 x1 y1 z1 a1 b1 c1 d1 e1 f1 x2 y2 z2 a2 b2 c2 d2 e2 f2 ar X0 Y0 X1 Y1, .int .i64 px, .int .i64 py] (.bool (hasB x0 y0 x1 y1 x2 y2 px py)) := by
  rcases Decidable.em (fitsP px py) with hf | hf
  · exact Con.run Try.func31 (by kernel_rfl) rfl <| R.call mixed (rfits' (decide_eq_true hf)) (by kernel_rfl) <| R.call mixed (c_rhas h0 h1 h2 hf hp) (by kernel_rfl) <| R.fin mixed Try.func31 (by kernel_rfl)
  · have e : hasB x0 y0 x1 y1 x2 y2 px py = false := by unfold hasB; rw [decide_eq_false hf]; rfl
    rw [e]
    exact Con.run Try.func31 (by kernel_rfl) rfl <| R.call mixed (rfits' (decide_eq_false hf)) (by kernel_rfl) <| R.fin mixed Try.func31 (by kernel_rfl)
theorem hasT (h0 : okP x0 y0 = true) (h1 : okP x1 y1 = true) (h2 : okP x2 y2 = true) (hp : 0 < sideI x0 y0 x1 y1 x2 y2) {o : Bool} (h : hasB x0 y0 x1 y1 x2 y2 px py = o) : Con Try.prog 33 [T32 x0 y0 z0 a0 b0 c0 d0 e0 f0 x1 y1 z1 a1 b1 c1 d1 e1 f1 x2 y2 z2 a2 b2 c2 d2 e2 f2 ar X0 Y0 X1 Y1, .int .i64 px, .int .i64 py] (.bool o) ∧ Con Try.prog 31 [T32 x0 y0 z0 a0 b0 c0 d0 e0 f0 x1 y1 z1 a1 b1 c1 d1 e1 f1 x2 y2 z2 a2 b2 c2 d2 e2 f2 ar X0 Y0 X1 Y1, .int .i64 px, .int .i64 py] (.bool o) :=
  h ▸ ⟨c_has (x0 := x0) (y0 := y0) (z0 := z0) (a0 := a0) (b0 := b0) (c0 := c0) (d0 := d0) (e0 := e0) (f0 := f0) (x1 := x1) (y1 := y1) (z1 := z1) (a1 := a1) (b1 := b1) (c1 := c1) (d1 := d1) (e1 := e1) (f1 := f1) (x2 := x2) (y2 := y2) (z2 := z2) (a2 := a2) (b2 := b2) (c2 := c2) (d2 := d2) (e2 := e2) (f2 := f2) (ar := ar) (X0 := X0) (Y0 := Y0) (X1 := X1) (Y1 := Y1) h0 h1 h2 hp, c_rHas h0 h1 h2 hp⟩

theorem rAt (h0 : okP x0 y0 = true) (h1 : okP x1 y1 = true) (h2 : okP x2 y2 = true) (hp : 0 < sideI x0 y0 x1 y1 x2 y2) (r0 : restS z0 a0 b0 c0 d0 e0 f0) (r1 : restS z1 a1 b1 c1 d1 e1 f1) (r2 : restS z2 a2 b2 c2 d2 e2 f2)
    {w0 w1 w2 : Int} (g0 : sideI x1 y1 x2 y2 (16 * px + 8) (16 * py + 8) = w0) (g1 : sideI x2 y2 x0 y0 (16 * px + 8) (16 * py + 8) = w1) (g2 : sideI x0 y0 x1 y1 (16 * px + 8) (16 * py + 8) = w2) (hh : hasB x0 y0 x1 y1 x2 y2 px py = true) :
    Con Try.prog 34 [T32 x0 y0 z0 a0 b0 c0 d0 e0 f0 x1 y1 z1 a1 b1 c1 d1 e1 f1 x2 y2 z2 a2 b2 c2 d2 e2 f2 ar X0 Y0 X1 Y1, .int .i64 px, .int .i64 py] (.tuple ⟨[.int .i64 (mixed_ w0 w1 w2 z0 z1 z2), A6 (mixed_ w0 w1 w2 a0 a1 a2) (mixed_ w0 w1 w2 b0 b1 b2) (mixed_ w0 w1 w2 c0 c1 c2) (mixed_ w0 w1 w2 d0 d1 d2) (mixed_ w0 w1 w2 e0 e1 e2) (mixed_ w0 w1 w2 f0 f1 f2)]⟩) := by
  obtain ⟨hf, q2, q0, q1⟩ := has_parts hh
  have hm := mid_ok hf
  have b0_ := side_bounds h1 h2 hm
  have b1_ := side_bounds h2 h0 hm
  have b2_ := side_bounds h0 h1 hm
  have hs := side_sum x0 y0 x1 y1 x2 y2 (16 * px + 8) (16 * py + 8)
  have cw := c_rweights x0 y0 x1 y1 x2 y2 (16 * px + 8) (16 * py + 8)
  rw [sideR_ h1 h2 hm, sideR_ h2 h0 hm, sideR_ h0 h1 hm, g0, g1, g2] at cw
  rw [g0] at q0 b0_
  rw [g1] at q1 b1_
  rw [g2] at q2 b2_
  rw [g0, g1, g2] at hs
  obtain ⟨k0, ka0, kb0, kc0, kd0, ke0, kf0⟩ := r0
  obtain ⟨k1, ka1, kb1, kc1, kd1, ke1, kf1⟩ := r1
  obtain ⟨k2, ka2, kb2, kc2, kd2, ke2, kf2⟩ := r2
  have M : ∀ {v0 v1 v2 : Int}, (-1073741824 ≤ v0 ∧ v0 ≤ 1073741824) → (-1073741824 ≤ v1 ∧ v1 ≤ 1073741824) → (-1073741824 ≤ v2 ∧ v2 ≤ 1073741824) → mayM w0 w1 w2 v0 v1 v2 := fun a b c => ⟨⟨q0, by omega, a.1, a.2⟩, ⟨q1, by omega, b.1, b.2⟩, ⟨q2, by omega, c.1, c.2⟩, by omega⟩
  exact Con.run Try.func34 (by kernel_rfl) rfl <| R.call mixed (c_rmid hf) (by kernel_rfl) <| R.call mixed cw (by kernel_rfl) <|
    R.call mixed (c_rmix (M (b20 ka0).2 (b20 ka1).2 (b20 ka2).2)) (by kernel_rfl) <| R.call mixed (c_rmix (M (b20 kb0).2 (b20 kb1).2 (b20 kb2).2)) (by kernel_rfl) <| R.call mixed (c_rmix (M (b20 kc0).2 (b20 kc1).2 (b20 kc2).2)) (by kernel_rfl) <| R.call mixed (c_rmix (M (b20 kd0).2 (b20 kd1).2 (b20 kd2).2)) (by kernel_rfl) <| R.call mixed (c_rmix (M (b20 ke0).2 (b20 ke1).2 (b20 ke2).2)) (by kernel_rfl) <| R.call mixed (c_rmix (M (b20 kf0).2 (b20 kf1).2 (b20 kf2).2)) (by kernel_rfl) <|
    R.call mixed (c_rmix (@M z0 z1 z2 (by omega) (by omega) (by omega))) (by kernel_rfl) <| R.fin mixed Try.func34 (by kernel_rfl)
end

theorem boxHas {X0 Y0 X1 Y1 px py : Int} (h : (X0 ≤ px ∧ px < X1) ∧ (Y0 ≤ py ∧ py < Y1)) : Con Try.prog 35 [R4 X0 Y0 X1 Y1, .int .i64 px, .int .i64 py] (.bool true) :=
  Con.run Try.func35 (by kernel_rfl) rfl <| R.guardIs mixed 12 (decide (X0 ≤ px)) true (decide_eq_true h.1.1) (by kernel_rfl) <| R.guardIs mixed 6 (bif true then decide (px < X1) else false) true (decide_eq_true h.1.2) (by kernel_rfl) <|
    R.guardIs mixed 6 (bif true then decide (Y0 ≤ py) else false) true (decide_eq_true h.2.1) (by kernel_rfl) <| R.finIs mixed Try.func35 (.bool (bif true then decide (py < Y1) else false)) (by kernel_rfl) (by rw [cond_true, decide_eq_true h.2.2])
theorem low_le (a b c : Int) : lowI (lowI a b) c ≤ a ∧ lowI (lowI a b) c ≤ b ∧ lowI (lowI a b) c ≤ c := by
  unfold lowI
  repeat' split
  all_goals omega
theorem high_ge (a b c : Int) : a ≤ highI (highI a b) c ∧ b ≤ highI (highI a b) c ∧ c ≤ highI (highI a b) c := by
  unfold highI
  repeat' split
  all_goals omega

section
variable {x0 y0 z0 a0 b0 c0 d0 e0 f0 x1 y1 z1 a1 b1 c1 d1 e1 f1 x2 y2 z2 a2 b2 c2 d2 e2 f2 px py : Int}

theorem has_pos (m0 : mayS x0 y0 z0 a0 b0 c0 d0 e0 f0) (m1 : mayS x1 y1 z1 a1 b1 c1 d1 e1 f1) (m2 : mayS x2 y2 z2 a2 b2 c2 d2 e2 f2) (hs : 0 < sideI x0 y0 x1 y1 x2 y2) : RunsE Try.prog 8 0 (entry Try.f8 [S27 x0 y0 z0 a0 b0 c0 d0 e0 f0 x1 y1 z1 a1 b1 c1 d1 e1 f1 x2 y2 z2 a2 b2 c2 d2 e2 f2, .int .i64 px, .int .i64 py] []) (.bool true) := by
  have cm := may28 (x0 := x0) (y0 := y0) (z0 := z0) (a0 := a0) (b0 := b0) (c0 := c0) (d0 := d0) (e0 := e0) (f0 := f0) (x1 := x1) (y1 := y1) (z1 := z1) (a1 := a1) (b1 := b1) (c1 := c1) (d1 := d1) (e1 := e1) (f1 := f1) (x2 := x2) (y2 := y2) (z2 := z2) (a2 := a2) (b2 := b2) (c2 := c2) (d2 := d2) (e2 := e2) (f2 := f2) (decide_eq_true ⟨m0, m1, m2⟩)
  have nT : sideR x0 y0 x1 y1 x2 y2 = sideI x0 y0 x1 y1 x2 y2 := sideR_ m0.1 m1.1 m2.1
  have eT := c_edgeOk (ax := x0) (ay := y0) (bx := x1) (b_ := y1) (px := x2) (py := y2) (by simp [ok3, m0.1, m1.1, m2.1])
  rw [nT] at eT
  have pB : 0 < sideI x0 y0 x1 y1 x2 y2 := by exact hs
  have bB := c_box (x0 := x0) (y0 := y0) (z0 := z0) (a0 := a0) (b0 := b0) (c0 := c0) (d0 := d0) (e0 := e0) (f0 := f0) (x1 := x1) (y1 := y1) (z1 := z1) (a1 := a1) (b1 := b1) (c1 := c1) (d1 := d1) (e1 := e1) (f1 := f1) (x2 := x2) (y2 := y2) (z2 := z2) (a2 := a2) (b2 := b2) (c2 := c2) (d2 := d2) (e2 := e2) (f2 := f2) m0.1 m1.1 m2.1
  have sT := set0_pos (x0 := x0) (y0 := y0) (z0 := z0) (a0 := a0) (b0 := b0) (c0 := c0) (d0 := d0) (e0 := e0) (f0 := f0) (x1 := x1) (y1 := y1) (z1 := z1) (a1 := a1) (b1 := b1) (c1 := c1) (d1 := d1) (e1 := e1) (f1 := f1) (x2 := x2) (y2 := y2) (z2 := z2) (a2 := a2) (b2 := b2) (c2 := c2) (d2 := d2) (e2 := e2) (f2 := f2) m0 m1 m2 eT bB hs
  cases h : hasB x0 y0 x1 y1 x2 y2 px py with
  | false =>
    have aT := atNo (x0 := x0) (y0 := y0) (z0 := z0) (a0 := a0) (b0 := b0) (c0 := c0) (d0 := d0) (e0 := e0) (f0 := f0) (x1 := x1) (y1 := y1) (z1 := z1) (a1 := a1) (b1 := b1) (c1 := c1) (d1 := d1) (e1 := e1) (f1 := f1) (x2 := x2) (y2 := y2) (z2 := z2) (a2 := a2) (b2 := b2) (c2 := c2) (d2 := d2) (e2 := e2) (f2 := f2) (ar := sideI x0 y0 x1 y1 x2 y2) (X0 := bx0 x0 x1 x2) (Y0 := bx0 y0 y1 y2) (X1 := bx1 x0 x1 x2) (Y1 := bx1 y0 y1 y2) m0.1 m1.1 m2.1 pB h
    obtain ⟨c33, c31⟩ := hasT (x0 := x0) (y0 := y0) (z0 := z0) (a0 := a0) (b0 := b0) (c0 := c0) (d0 := d0) (e0 := e0) (f0 := f0) (x1 := x1) (y1 := y1) (z1 := z1) (a1 := a1) (b1 := b1) (c1 := c1) (d1 := d1) (e1 := e1) (f1 := f1) (x2 := x2) (y2 := y2) (z2 := z2) (a2 := a2) (b2 := b2) (c2 := c2) (d2 := d2) (e2 := e2) (f2 := f2) (ar := sideI x0 y0 x1 y1 x2 y2) (X0 := bx0 x0 x1 x2) (Y0 := bx0 y0 y1 y2) (X1 := bx1 x0 x1 x2) (Y1 := bx1 y0 y1 y2) m0.1 m1.1 m2.1 pB h
    exact R.call mixed cm (by kernel_rfl) <| R.call mixed sT (by kernel_rfl) <| R.call mixed c31 (by kernel_rfl) <| R.call mixed aT (by kernel_rfl) <| R.call mixed c33 (by kernel_rfl) <| R.call mixed c_awake17 (by kernel_rfl) <| R.fin mixed Try.func8 (by kernel_rfl)
  | true =>
    obtain ⟨hf, q2, q0, q1⟩ := has_parts h
    have hb := in_box pB q2 q0 q1
    have hsum := side_sum x0 y0 x1 y1 x2 y2 (16 * px + 8) (16 * py + 8)
    have aT := atYes (x0 := x0) (y0 := y0) (z0 := z0) (a0 := a0) (b0 := b0) (c0 := c0) (d0 := d0) (e0 := e0) (f0 := f0) (x1 := x1) (y1 := y1) (z1 := z1) (a1 := a1) (b1 := b1) (c1 := c1) (d1 := d1) (e1 := e1) (f1 := f1) (x2 := x2) (y2 := y2) (z2 := z2) (a2 := a2) (b2 := b2) (c2 := c2) (d2 := d2) (e2 := e2) (f2 := f2) (ar := sideI x0 y0 x1 y1 x2 y2) (X0 := bx0 x0 x1 x2) (Y0 := bx0 y0 y1 y2) (X1 := bx1 x0 x1 x2) (Y1 := bx1 y0 y1 y2) m0.1 m1.1 m2.1 pB m0.2 m1.2 m2.2 rfl rfl rfl h
    have rT := rAt (x0 := x0) (y0 := y0) (z0 := z0) (a0 := a0) (b0 := b0) (c0 := c0) (d0 := d0) (e0 := e0) (f0 := f0) (x1 := x1) (y1 := y1) (z1 := z1) (a1 := a1) (b1 := b1) (c1 := c1) (d1 := d1) (e1 := e1) (f1 := f1) (x2 := x2) (y2 := y2) (z2 := z2) (a2 := a2) (b2 := b2) (c2 := c2) (d2 := d2) (e2 := e2) (f2 := f2) (ar := sideI x0 y0 x1 y1 x2 y2) (X0 := bx0 x0 x1 x2) (Y0 := bx0 y0 y1 y2) (X1 := bx1 x0 x1 x2) (Y1 := bx1 y0 y1 y2) m0.1 m1.1 m2.1 pB m0.2 m1.2 m2.2 rfl rfl rfl h
    obtain ⟨c33, c31⟩ := hasT (x0 := x0) (y0 := y0) (z0 := z0) (a0 := a0) (b0 := b0) (c0 := c0) (d0 := d0) (e0 := e0) (f0 := f0) (x1 := x1) (y1 := y1) (z1 := z1) (a1 := a1) (b1 := b1) (c1 := c1) (d1 := d1) (e1 := e1) (f1 := f1) (x2 := x2) (y2 := y2) (z2 := z2) (a2 := a2) (b2 := b2) (c2 := c2) (d2 := d2) (e2 := e2) (f2 := f2) (ar := sideI x0 y0 x1 y1 x2 y2) (X0 := bx0 x0 x1 x2) (Y0 := bx0 y0 y1 y2) (X1 := bx1 x0 x1 x2) (Y1 := bx1 y0 y1 y2) m0.1 m1.1 m2.1 pB h
    generalize sideI x1 y1 x2 y2 (16 * px + 8) (16 * py + 8) = w0 at *
    generalize sideI x2 y2 x0 y0 (16 * px + 8) (16 * py + 8) = w1 at *
    generalize sideI x0 y0 x1 y1 (16 * px + 8) (16 * py + 8) = w2 at *
    have rng : ∀ (v0 v1 v2 lo hi : Int), (lo ≤ v0 ∧ v0 ≤ hi) → (lo ≤ v1 ∧ v1 ≤ hi) → (lo ≤ v2 ∧ v2 ≤ hi) → lo ≤ mixed_ w0 w1 w2 v0 v1 v2 ∧ mixed_ w0 w1 w2 v0 v1 v2 ≤ hi := fun v0 v1 v2 lo hi a b c => mixed_range q0 q1 q2 (by omega) (fun _ => a) (fun _ => b) (fun _ => c)
    have Z := rng z0 z1 z2 0 65535 m0.2.1 m1.2.1 m2.2.1
    have La := low_le a0 a1 a2
    have Ha := high_ge a0 a1 a2
    have Ra := rng a0 a1 a2 (lowI (lowI a0 a1) a2) (highI (highI a0 a1) a2) (by omega) (by omega) (by omega)
    have la1 : Con Try.prog 36 [.int .i64 a0, .int .i64 a1] (.int .i64 (lowI a0 a1)) := c_low a0 a1
    have la2 : Con Try.prog 36 [.int .i64 (lowI a0 a1), .int .i64 a2] (.int .i64 (lowI (lowI a0 a1) a2)) := c_low (lowI a0 a1) a2
    have la3 : Con Try.prog 37 [.int .i64 a0, .int .i64 a1] (.int .i64 (highI a0 a1)) := c_high a0 a1
    have la4 : Con Try.prog 37 [.int .i64 (highI a0 a1), .int .i64 a2] (.int .i64 (highI (highI a0 a1) a2)) := c_high (highI a0 a1) a2
    have Lb := low_le b0 b1 b2
    have Hb := high_ge b0 b1 b2
    have Rb := rng b0 b1 b2 (lowI (lowI b0 b1) b2) (highI (highI b0 b1) b2) (by omega) (by omega) (by omega)
    have lb1 : Con Try.prog 36 [.int .i64 b0, .int .i64 b1] (.int .i64 (lowI b0 b1)) := c_low b0 b1
    have lb2 : Con Try.prog 36 [.int .i64 (lowI b0 b1), .int .i64 b2] (.int .i64 (lowI (lowI b0 b1) b2)) := c_low (lowI b0 b1) b2
    have lb3 : Con Try.prog 37 [.int .i64 b0, .int .i64 b1] (.int .i64 (highI b0 b1)) := c_high b0 b1
    have lb4 : Con Try.prog 37 [.int .i64 (highI b0 b1), .int .i64 b2] (.int .i64 (highI (highI b0 b1) b2)) := c_high (highI b0 b1) b2
    have Lc := low_le c0 c1 c2
    have Hc := high_ge c0 c1 c2
    have Rc := rng c0 c1 c2 (lowI (lowI c0 c1) c2) (highI (highI c0 c1) c2) (by omega) (by omega) (by omega)
    have lc1 : Con Try.prog 36 [.int .i64 c0, .int .i64 c1] (.int .i64 (lowI c0 c1)) := c_low c0 c1
    have lc2 : Con Try.prog 36 [.int .i64 (lowI c0 c1), .int .i64 c2] (.int .i64 (lowI (lowI c0 c1) c2)) := c_low (lowI c0 c1) c2
    have lc3 : Con Try.prog 37 [.int .i64 c0, .int .i64 c1] (.int .i64 (highI c0 c1)) := c_high c0 c1
    have lc4 : Con Try.prog 37 [.int .i64 (highI c0 c1), .int .i64 c2] (.int .i64 (highI (highI c0 c1) c2)) := c_high (highI c0 c1) c2
    have Ld := low_le d0 d1 d2
    have Hd := high_ge d0 d1 d2
    have Rd := rng d0 d1 d2 (lowI (lowI d0 d1) d2) (highI (highI d0 d1) d2) (by omega) (by omega) (by omega)
    have ld1 : Con Try.prog 36 [.int .i64 d0, .int .i64 d1] (.int .i64 (lowI d0 d1)) := c_low d0 d1
    have ld2 : Con Try.prog 36 [.int .i64 (lowI d0 d1), .int .i64 d2] (.int .i64 (lowI (lowI d0 d1) d2)) := c_low (lowI d0 d1) d2
    have ld3 : Con Try.prog 37 [.int .i64 d0, .int .i64 d1] (.int .i64 (highI d0 d1)) := c_high d0 d1
    have ld4 : Con Try.prog 37 [.int .i64 (highI d0 d1), .int .i64 d2] (.int .i64 (highI (highI d0 d1) d2)) := c_high (highI d0 d1) d2
    have Le := low_le e0 e1 e2
    have He := high_ge e0 e1 e2
    have Re := rng e0 e1 e2 (lowI (lowI e0 e1) e2) (highI (highI e0 e1) e2) (by omega) (by omega) (by omega)
    have le1 : Con Try.prog 36 [.int .i64 e0, .int .i64 e1] (.int .i64 (lowI e0 e1)) := c_low e0 e1
    have le2 : Con Try.prog 36 [.int .i64 (lowI e0 e1), .int .i64 e2] (.int .i64 (lowI (lowI e0 e1) e2)) := c_low (lowI e0 e1) e2
    have le3 : Con Try.prog 37 [.int .i64 e0, .int .i64 e1] (.int .i64 (highI e0 e1)) := c_high e0 e1
    have le4 : Con Try.prog 37 [.int .i64 (highI e0 e1), .int .i64 e2] (.int .i64 (highI (highI e0 e1) e2)) := c_high (highI e0 e1) e2
    have Lf := low_le f0 f1 f2
    have Hf := high_ge f0 f1 f2
    have Rf := rng f0 f1 f2 (lowI (lowI f0 f1) f2) (highI (highI f0 f1) f2) (by omega) (by omega) (by omega)
    have lf1 : Con Try.prog 36 [.int .i64 f0, .int .i64 f1] (.int .i64 (lowI f0 f1)) := c_low f0 f1
    have lf2 : Con Try.prog 36 [.int .i64 (lowI f0 f1), .int .i64 f2] (.int .i64 (lowI (lowI f0 f1) f2)) := c_low (lowI f0 f1) f2
    have lf3 : Con Try.prog 37 [.int .i64 f0, .int .i64 f1] (.int .i64 (highI f0 f1)) := c_high f0 f1
    have lf4 : Con Try.prog 37 [.int .i64 (highI f0 f1), .int .i64 f2] (.int .i64 (highI (highI f0 f1) f2)) := c_high (highI f0 f1) f2
    exact R.call mixed cm (by kernel_rfl) <| R.call mixed sT (by kernel_rfl) <| R.call mixed c31 (by kernel_rfl) <| R.call mixed aT (by kernel_rfl) <| R.call mixed c33 (by kernel_rfl) <| R.call mixed rT (by kernel_rfl) <|
      R.guardIs mixed 14 (mixed_ w0 w1 w2 z0 z1 z2 != mixed_ w0 w1 w2 z0 z1 z2) false (by simp) (by kernel_rfl) <| R.guardIs mixed 5 (!eqs [mixed_ w0 w1 w2 a0 a1 a2, mixed_ w0 w1 w2 b0 b1 b2, mixed_ w0 w1 w2 c0 c1 c2, mixed_ w0 w1 w2 d0 d1 d2, mixed_ w0 w1 w2 e0 e1 e2, mixed_ w0 w1 w2 f0 f1 f2] [mixed_ w0 w1 w2 a0 a1 a2, mixed_ w0 w1 w2 b0 b1 b2, mixed_ w0 w1 w2 c0 c1 c2, mixed_ w0 w1 w2 d0 d1 d2, mixed_ w0 w1 w2 e0 e1 e2, mixed_ w0 w1 w2 f0 f1 f2]) false (by rw [eqs_self]; rfl) (by kernel_rfl) <| R.call mixed (boxHas hb) (by kernel_rfl) <|
      R.call mixed la1 (by kernel_rfl) <| R.call mixed la2 (by kernel_rfl) <| R.call mixed la3 (by kernel_rfl) <| R.call mixed la4 (by kernel_rfl) <|
      R.guardIs mixed 10 (decide (mixed_ w0 w1 w2 a0 a1 a2 < lowI (lowI a0 a1) a2)) false (decide_eq_false (by omega)) (by kernel_rfl) <| R.cond mixed 7 (bif false then true else decide (mixed_ w0 w1 w2 a0 a1 a2 > highI (highI a0 a1) a2)) false (decide_eq_false (by omega)) (by kernel_rfl) <|
      R.call mixed lb1 (by kernel_rfl) <| R.call mixed lb2 (by kernel_rfl) <| R.call mixed lb3 (by kernel_rfl) <| R.call mixed lb4 (by kernel_rfl) <|
      R.guardIs mixed 10 (decide (mixed_ w0 w1 w2 b0 b1 b2 < lowI (lowI b0 b1) b2)) false (decide_eq_false (by omega)) (by kernel_rfl) <| R.cond mixed 7 (bif false then true else decide (mixed_ w0 w1 w2 b0 b1 b2 > highI (highI b0 b1) b2)) false (decide_eq_false (by omega)) (by kernel_rfl) <|
      R.call mixed lc1 (by kernel_rfl) <| R.call mixed lc2 (by kernel_rfl) <| R.call mixed lc3 (by kernel_rfl) <| R.call mixed lc4 (by kernel_rfl) <|
      R.guardIs mixed 10 (decide (mixed_ w0 w1 w2 c0 c1 c2 < lowI (lowI c0 c1) c2)) false (decide_eq_false (by omega)) (by kernel_rfl) <| R.cond mixed 7 (bif false then true else decide (mixed_ w0 w1 w2 c0 c1 c2 > highI (highI c0 c1) c2)) false (decide_eq_false (by omega)) (by kernel_rfl) <|
      R.call mixed ld1 (by kernel_rfl) <| R.call mixed ld2 (by kernel_rfl) <| R.call mixed ld3 (by kernel_rfl) <| R.call mixed ld4 (by kernel_rfl) <|
      R.guardIs mixed 10 (decide (mixed_ w0 w1 w2 d0 d1 d2 < lowI (lowI d0 d1) d2)) false (decide_eq_false (by omega)) (by kernel_rfl) <| R.cond mixed 7 (bif false then true else decide (mixed_ w0 w1 w2 d0 d1 d2 > highI (highI d0 d1) d2)) false (decide_eq_false (by omega)) (by kernel_rfl) <|
      R.call mixed le1 (by kernel_rfl) <| R.call mixed le2 (by kernel_rfl) <| R.call mixed le3 (by kernel_rfl) <| R.call mixed le4 (by kernel_rfl) <|
      R.guardIs mixed 10 (decide (mixed_ w0 w1 w2 e0 e1 e2 < lowI (lowI e0 e1) e2)) false (decide_eq_false (by omega)) (by kernel_rfl) <| R.cond mixed 7 (bif false then true else decide (mixed_ w0 w1 w2 e0 e1 e2 > highI (highI e0 e1) e2)) false (decide_eq_false (by omega)) (by kernel_rfl) <|
      R.call mixed lf1 (by kernel_rfl) <| R.call mixed lf2 (by kernel_rfl) <| R.call mixed lf3 (by kernel_rfl) <| R.call mixed lf4 (by kernel_rfl) <|
      R.guardIs mixed 10 (decide (mixed_ w0 w1 w2 f0 f1 f2 < lowI (lowI f0 f1) f2)) false (decide_eq_false (by omega)) (by kernel_rfl) <| R.cond mixed 7 (bif false then true else decide (mixed_ w0 w1 w2 f0 f1 f2 > highI (highI f0 f1) f2)) false (decide_eq_false (by omega)) (by kernel_rfl) <|
      R.guardIs mixed 21 (decide (mixed_ w0 w1 w2 z0 z1 z2 ≥ 0)) true (decide_eq_true Z.1) (by kernel_rfl) <| R.guardIs mixed 4 (bif true then decide (mixed_ w0 w1 w2 z0 z1 z2 ≤ 65535) else false) true (decide_eq_true Z.2) (by kernel_rfl) <|
      R.call mixed c_awake17 (by kernel_rfl) <| R.fin mixed Try.func8 (by kernel_rfl)

theorem has_neg (m0 : mayS x0 y0 z0 a0 b0 c0 d0 e0 f0) (m1 : mayS x1 y1 z1 a1 b1 c1 d1 e1 f1) (m2 : mayS x2 y2 z2 a2 b2 c2 d2 e2 f2) (hs : sideI x0 y0 x1 y1 x2 y2 < 0) : RunsE Try.prog 8 0 (entry Try.f8 [S27 x0 y0 z0 a0 b0 c0 d0 e0 f0 x1 y1 z1 a1 b1 c1 d1 e1 f1 x2 y2 z2 a2 b2 c2 d2 e2 f2, .int .i64 px, .int .i64 py] []) (.bool true) := by
  have cm := may28 (x0 := x0) (y0 := y0) (z0 := z0) (a0 := a0) (b0 := b0) (c0 := c0) (d0 := d0) (e0 := e0) (f0 := f0) (x1 := x1) (y1 := y1) (z1 := z1) (a1 := a1) (b1 := b1) (c1 := c1) (d1 := d1) (e1 := e1) (f1 := f1) (x2 := x2) (y2 := y2) (z2 := z2) (a2 := a2) (b2 := b2) (c2 := c2) (d2 := d2) (e2 := e2) (f2 := f2) (decide_eq_true ⟨m0, m1, m2⟩)
  have nT : sideR x0 y0 x1 y1 x2 y2 = sideI x0 y0 x1 y1 x2 y2 := sideR_ m0.1 m1.1 m2.1
  have eT := c_edgeOk (ax := x0) (ay := y0) (bx := x1) (b_ := y1) (px := x2) (py := y2) (by simp [ok3, m0.1, m1.1, m2.1])
  rw [nT] at eT
  have pB : 0 < sideI x0 y0 x2 y2 x1 y1 := by rw [side_swap]; omega
  have bB := c_box (x0 := x0) (y0 := y0) (z0 := z0) (a0 := a0) (b0 := b0) (c0 := c0) (d0 := d0) (e0 := e0) (f0 := f0) (x1 := x2) (y1 := y2) (z1 := z2) (a1 := a2) (b1 := b2) (c1 := c2) (d1 := d2) (e1 := e2) (f1 := f2) (x2 := x1) (y2 := y1) (z2 := z1) (a2 := a1) (b2 := b1) (c2 := c1) (d2 := d1) (e2 := e1) (f2 := f1) m0.1 m2.1 m1.1
  have sT := set0_neg (x0 := x0) (y0 := y0) (z0 := z0) (a0 := a0) (b0 := b0) (c0 := c0) (d0 := d0) (e0 := e0) (f0 := f0) (x1 := x1) (y1 := y1) (z1 := z1) (a1 := a1) (b1 := b1) (c1 := c1) (d1 := d1) (e1 := e1) (f1 := f1) (x2 := x2) (y2 := y2) (z2 := z2) (a2 := a2) (b2 := b2) (c2 := c2) (d2 := d2) (e2 := e2) (f2 := f2) m0 m1 m2 eT bB hs
  cases h : hasB x0 y0 x2 y2 x1 y1 px py with
  | false =>
    have aT := atNo (x0 := x0) (y0 := y0) (z0 := z0) (a0 := a0) (b0 := b0) (c0 := c0) (d0 := d0) (e0 := e0) (f0 := f0) (x1 := x2) (y1 := y2) (z1 := z2) (a1 := a2) (b1 := b2) (c1 := c2) (d1 := d2) (e1 := e2) (f1 := f2) (x2 := x1) (y2 := y1) (z2 := z1) (a2 := a1) (b2 := b1) (c2 := c1) (d2 := d1) (e2 := e1) (f2 := f1) (ar := IntKind.i64.wrap (0 - sideI x0 y0 x1 y1 x2 y2)) (X0 := bx0 x0 x2 x1) (Y0 := bx0 y0 y2 y1) (X1 := bx1 x0 x2 x1) (Y1 := bx1 y0 y2 y1) m0.1 m2.1 m1.1 pB h
    obtain ⟨c33, c31⟩ := hasT (x0 := x0) (y0 := y0) (z0 := z0) (a0 := a0) (b0 := b0) (c0 := c0) (d0 := d0) (e0 := e0) (f0 := f0) (x1 := x2) (y1 := y2) (z1 := z2) (a1 := a2) (b1 := b2) (c1 := c2) (d1 := d2) (e1 := e2) (f1 := f2) (x2 := x1) (y2 := y1) (z2 := z1) (a2 := a1) (b2 := b1) (c2 := c1) (d2 := d1) (e2 := e1) (f2 := f1) (ar := IntKind.i64.wrap (0 - sideI x0 y0 x1 y1 x2 y2)) (X0 := bx0 x0 x2 x1) (Y0 := bx0 y0 y2 y1) (X1 := bx1 x0 x2 x1) (Y1 := bx1 y0 y2 y1) m0.1 m2.1 m1.1 pB h
    exact R.call mixed cm (by kernel_rfl) <| R.call mixed sT (by kernel_rfl) <| R.call mixed c31 (by kernel_rfl) <| R.call mixed aT (by kernel_rfl) <| R.call mixed c33 (by kernel_rfl) <| R.call mixed c_awake17 (by kernel_rfl) <| R.fin mixed Try.func8 (by kernel_rfl)
  | true =>
    obtain ⟨hf, q2, q0, q1⟩ := has_parts h
    have hb := in_box pB q2 q0 q1
    have hsum := side_sum x0 y0 x2 y2 x1 y1 (16 * px + 8) (16 * py + 8)
    have aT := atYes (x0 := x0) (y0 := y0) (z0 := z0) (a0 := a0) (b0 := b0) (c0 := c0) (d0 := d0) (e0 := e0) (f0 := f0) (x1 := x2) (y1 := y2) (z1 := z2) (a1 := a2) (b1 := b2) (c1 := c2) (d1 := d2) (e1 := e2) (f1 := f2) (x2 := x1) (y2 := y1) (z2 := z1) (a2 := a1) (b2 := b1) (c2 := c1) (d2 := d1) (e2 := e1) (f2 := f1) (ar := IntKind.i64.wrap (0 - sideI x0 y0 x1 y1 x2 y2)) (X0 := bx0 x0 x2 x1) (Y0 := bx0 y0 y2 y1) (X1 := bx1 x0 x2 x1) (Y1 := bx1 y0 y2 y1) m0.1 m2.1 m1.1 pB m0.2 m2.2 m1.2 rfl rfl rfl h
    have rT := rAt (x0 := x0) (y0 := y0) (z0 := z0) (a0 := a0) (b0 := b0) (c0 := c0) (d0 := d0) (e0 := e0) (f0 := f0) (x1 := x2) (y1 := y2) (z1 := z2) (a1 := a2) (b1 := b2) (c1 := c2) (d1 := d2) (e1 := e2) (f1 := f2) (x2 := x1) (y2 := y1) (z2 := z1) (a2 := a1) (b2 := b1) (c2 := c1) (d2 := d1) (e2 := e1) (f2 := f1) (ar := IntKind.i64.wrap (0 - sideI x0 y0 x1 y1 x2 y2)) (X0 := bx0 x0 x2 x1) (Y0 := bx0 y0 y2 y1) (X1 := bx1 x0 x2 x1) (Y1 := bx1 y0 y2 y1) m0.1 m2.1 m1.1 pB m0.2 m2.2 m1.2 rfl rfl rfl h
    obtain ⟨c33, c31⟩ := hasT (x0 := x0) (y0 := y0) (z0 := z0) (a0 := a0) (b0 := b0) (c0 := c0) (d0 := d0) (e0 := e0) (f0 := f0) (x1 := x2) (y1 := y2) (z1 := z2) (a1 := a2) (b1 := b2) (c1 := c2) (d1 := d2) (e1 := e2) (f1 := f2) (x2 := x1) (y2 := y1) (z2 := z1) (a2 := a1) (b2 := b1) (c2 := c1) (d2 := d1) (e2 := e1) (f2 := f1) (ar := IntKind.i64.wrap (0 - sideI x0 y0 x1 y1 x2 y2)) (X0 := bx0 x0 x2 x1) (Y0 := bx0 y0 y2 y1) (X1 := bx1 x0 x2 x1) (Y1 := bx1 y0 y2 y1) m0.1 m2.1 m1.1 pB h
    generalize sideI x2 y2 x1 y1 (16 * px + 8) (16 * py + 8) = w0 at *
    generalize sideI x1 y1 x0 y0 (16 * px + 8) (16 * py + 8) = w1 at *
    generalize sideI x0 y0 x2 y2 (16 * px + 8) (16 * py + 8) = w2 at *
    have rng : ∀ (v0 v1 v2 lo hi : Int), (lo ≤ v0 ∧ v0 ≤ hi) → (lo ≤ v1 ∧ v1 ≤ hi) → (lo ≤ v2 ∧ v2 ≤ hi) → lo ≤ mixed_ w0 w1 w2 v0 v1 v2 ∧ mixed_ w0 w1 w2 v0 v1 v2 ≤ hi := fun v0 v1 v2 lo hi a b c => mixed_range q0 q1 q2 (by omega) (fun _ => a) (fun _ => b) (fun _ => c)
    have Z := rng z0 z2 z1 0 65535 m0.2.1 m2.2.1 m1.2.1
    have La := low_le a0 a1 a2
    have Ha := high_ge a0 a1 a2
    have Ra := rng a0 a2 a1 (lowI (lowI a0 a1) a2) (highI (highI a0 a1) a2) (by omega) (by omega) (by omega)
    have la1 : Con Try.prog 36 [.int .i64 a0, .int .i64 a1] (.int .i64 (lowI a0 a1)) := c_low a0 a1
    have la2 : Con Try.prog 36 [.int .i64 (lowI a0 a1), .int .i64 a2] (.int .i64 (lowI (lowI a0 a1) a2)) := c_low (lowI a0 a1) a2
    have la3 : Con Try.prog 37 [.int .i64 a0, .int .i64 a1] (.int .i64 (highI a0 a1)) := c_high a0 a1
    have la4 : Con Try.prog 37 [.int .i64 (highI a0 a1), .int .i64 a2] (.int .i64 (highI (highI a0 a1) a2)) := c_high (highI a0 a1) a2
    have Lb := low_le b0 b1 b2
    have Hb := high_ge b0 b1 b2
    have Rb := rng b0 b2 b1 (lowI (lowI b0 b1) b2) (highI (highI b0 b1) b2) (by omega) (by omega) (by omega)
    have lb1 : Con Try.prog 36 [.int .i64 b0, .int .i64 b1] (.int .i64 (lowI b0 b1)) := c_low b0 b1
    have lb2 : Con Try.prog 36 [.int .i64 (lowI b0 b1), .int .i64 b2] (.int .i64 (lowI (lowI b0 b1) b2)) := c_low (lowI b0 b1) b2
    have lb3 : Con Try.prog 37 [.int .i64 b0, .int .i64 b1] (.int .i64 (highI b0 b1)) := c_high b0 b1
    have lb4 : Con Try.prog 37 [.int .i64 (highI b0 b1), .int .i64 b2] (.int .i64 (highI (highI b0 b1) b2)) := c_high (highI b0 b1) b2
    have Lc := low_le c0 c1 c2
    have Hc := high_ge c0 c1 c2
    have Rc := rng c0 c2 c1 (lowI (lowI c0 c1) c2) (highI (highI c0 c1) c2) (by omega) (by omega) (by omega)
    have lc1 : Con Try.prog 36 [.int .i64 c0, .int .i64 c1] (.int .i64 (lowI c0 c1)) := c_low c0 c1
    have lc2 : Con Try.prog 36 [.int .i64 (lowI c0 c1), .int .i64 c2] (.int .i64 (lowI (lowI c0 c1) c2)) := c_low (lowI c0 c1) c2
    have lc3 : Con Try.prog 37 [.int .i64 c0, .int .i64 c1] (.int .i64 (highI c0 c1)) := c_high c0 c1
    have lc4 : Con Try.prog 37 [.int .i64 (highI c0 c1), .int .i64 c2] (.int .i64 (highI (highI c0 c1) c2)) := c_high (highI c0 c1) c2
    have Ld := low_le d0 d1 d2
    have Hd := high_ge d0 d1 d2
    have Rd := rng d0 d2 d1 (lowI (lowI d0 d1) d2) (highI (highI d0 d1) d2) (by omega) (by omega) (by omega)
    have ld1 : Con Try.prog 36 [.int .i64 d0, .int .i64 d1] (.int .i64 (lowI d0 d1)) := c_low d0 d1
    have ld2 : Con Try.prog 36 [.int .i64 (lowI d0 d1), .int .i64 d2] (.int .i64 (lowI (lowI d0 d1) d2)) := c_low (lowI d0 d1) d2
    have ld3 : Con Try.prog 37 [.int .i64 d0, .int .i64 d1] (.int .i64 (highI d0 d1)) := c_high d0 d1
    have ld4 : Con Try.prog 37 [.int .i64 (highI d0 d1), .int .i64 d2] (.int .i64 (highI (highI d0 d1) d2)) := c_high (highI d0 d1) d2
    have Le := low_le e0 e1 e2
    have He := high_ge e0 e1 e2
    have Re := rng e0 e2 e1 (lowI (lowI e0 e1) e2) (highI (highI e0 e1) e2) (by omega) (by omega) (by omega)
    have le1 : Con Try.prog 36 [.int .i64 e0, .int .i64 e1] (.int .i64 (lowI e0 e1)) := c_low e0 e1
    have le2 : Con Try.prog 36 [.int .i64 (lowI e0 e1), .int .i64 e2] (.int .i64 (lowI (lowI e0 e1) e2)) := c_low (lowI e0 e1) e2
    have le3 : Con Try.prog 37 [.int .i64 e0, .int .i64 e1] (.int .i64 (highI e0 e1)) := c_high e0 e1
    have le4 : Con Try.prog 37 [.int .i64 (highI e0 e1), .int .i64 e2] (.int .i64 (highI (highI e0 e1) e2)) := c_high (highI e0 e1) e2
    have Lf := low_le f0 f1 f2
    have Hf := high_ge f0 f1 f2
    have Rf := rng f0 f2 f1 (lowI (lowI f0 f1) f2) (highI (highI f0 f1) f2) (by omega) (by omega) (by omega)
    have lf1 : Con Try.prog 36 [.int .i64 f0, .int .i64 f1] (.int .i64 (lowI f0 f1)) := c_low f0 f1
    have lf2 : Con Try.prog 36 [.int .i64 (lowI f0 f1), .int .i64 f2] (.int .i64 (lowI (lowI f0 f1) f2)) := c_low (lowI f0 f1) f2
    have lf3 : Con Try.prog 37 [.int .i64 f0, .int .i64 f1] (.int .i64 (highI f0 f1)) := c_high f0 f1
    have lf4 : Con Try.prog 37 [.int .i64 (highI f0 f1), .int .i64 f2] (.int .i64 (highI (highI f0 f1) f2)) := c_high (highI f0 f1) f2
    exact R.call mixed cm (by kernel_rfl) <| R.call mixed sT (by kernel_rfl) <| R.call mixed c31 (by kernel_rfl) <| R.call mixed aT (by kernel_rfl) <| R.call mixed c33 (by kernel_rfl) <| R.call mixed rT (by kernel_rfl) <|
      R.guardIs mixed 14 (mixed_ w0 w1 w2 z0 z2 z1 != mixed_ w0 w1 w2 z0 z2 z1) false (by simp) (by kernel_rfl) <| R.guardIs mixed 5 (!eqs [mixed_ w0 w1 w2 a0 a2 a1, mixed_ w0 w1 w2 b0 b2 b1, mixed_ w0 w1 w2 c0 c2 c1, mixed_ w0 w1 w2 d0 d2 d1, mixed_ w0 w1 w2 e0 e2 e1, mixed_ w0 w1 w2 f0 f2 f1] [mixed_ w0 w1 w2 a0 a2 a1, mixed_ w0 w1 w2 b0 b2 b1, mixed_ w0 w1 w2 c0 c2 c1, mixed_ w0 w1 w2 d0 d2 d1, mixed_ w0 w1 w2 e0 e2 e1, mixed_ w0 w1 w2 f0 f2 f1]) false (by rw [eqs_self]; rfl) (by kernel_rfl) <| R.call mixed (boxHas hb) (by kernel_rfl) <|
      R.call mixed la1 (by kernel_rfl) <| R.call mixed la2 (by kernel_rfl) <| R.call mixed la3 (by kernel_rfl) <| R.call mixed la4 (by kernel_rfl) <|
      R.guardIs mixed 10 (decide (mixed_ w0 w1 w2 a0 a2 a1 < lowI (lowI a0 a1) a2)) false (decide_eq_false (by omega)) (by kernel_rfl) <| R.cond mixed 7 (bif false then true else decide (mixed_ w0 w1 w2 a0 a2 a1 > highI (highI a0 a1) a2)) false (decide_eq_false (by omega)) (by kernel_rfl) <|
      R.call mixed lb1 (by kernel_rfl) <| R.call mixed lb2 (by kernel_rfl) <| R.call mixed lb3 (by kernel_rfl) <| R.call mixed lb4 (by kernel_rfl) <|
      R.guardIs mixed 10 (decide (mixed_ w0 w1 w2 b0 b2 b1 < lowI (lowI b0 b1) b2)) false (decide_eq_false (by omega)) (by kernel_rfl) <| R.cond mixed 7 (bif false then true else decide (mixed_ w0 w1 w2 b0 b2 b1 > highI (highI b0 b1) b2)) false (decide_eq_false (by omega)) (by kernel_rfl) <|
      R.call mixed lc1 (by kernel_rfl) <| R.call mixed lc2 (by kernel_rfl) <| R.call mixed lc3 (by kernel_rfl) <| R.call mixed lc4 (by kernel_rfl) <|
      R.guardIs mixed 10 (decide (mixed_ w0 w1 w2 c0 c2 c1 < lowI (lowI c0 c1) c2)) false (decide_eq_false (by omega)) (by kernel_rfl) <| R.cond mixed 7 (bif false then true else decide (mixed_ w0 w1 w2 c0 c2 c1 > highI (highI c0 c1) c2)) false (decide_eq_false (by omega)) (by kernel_rfl) <|
      R.call mixed ld1 (by kernel_rfl) <| R.call mixed ld2 (by kernel_rfl) <| R.call mixed ld3 (by kernel_rfl) <| R.call mixed ld4 (by kernel_rfl) <|
      R.guardIs mixed 10 (decide (mixed_ w0 w1 w2 d0 d2 d1 < lowI (lowI d0 d1) d2)) false (decide_eq_false (by omega)) (by kernel_rfl) <| R.cond mixed 7 (bif false then true else decide (mixed_ w0 w1 w2 d0 d2 d1 > highI (highI d0 d1) d2)) false (decide_eq_false (by omega)) (by kernel_rfl) <|
      R.call mixed le1 (by kernel_rfl) <| R.call mixed le2 (by kernel_rfl) <| R.call mixed le3 (by kernel_rfl) <| R.call mixed le4 (by kernel_rfl) <|
      R.guardIs mixed 10 (decide (mixed_ w0 w1 w2 e0 e2 e1 < lowI (lowI e0 e1) e2)) false (decide_eq_false (by omega)) (by kernel_rfl) <| R.cond mixed 7 (bif false then true else decide (mixed_ w0 w1 w2 e0 e2 e1 > highI (highI e0 e1) e2)) false (decide_eq_false (by omega)) (by kernel_rfl) <|
      R.call mixed lf1 (by kernel_rfl) <| R.call mixed lf2 (by kernel_rfl) <| R.call mixed lf3 (by kernel_rfl) <| R.call mixed lf4 (by kernel_rfl) <|
      R.guardIs mixed 10 (decide (mixed_ w0 w1 w2 f0 f2 f1 < lowI (lowI f0 f1) f2)) false (decide_eq_false (by omega)) (by kernel_rfl) <| R.cond mixed 7 (bif false then true else decide (mixed_ w0 w1 w2 f0 f2 f1 > highI (highI f0 f1) f2)) false (decide_eq_false (by omega)) (by kernel_rfl) <|
      R.guardIs mixed 21 (decide (mixed_ w0 w1 w2 z0 z2 z1 ≥ 0)) true (decide_eq_true Z.1) (by kernel_rfl) <| R.guardIs mixed 4 (bif true then decide (mixed_ w0 w1 w2 z0 z2 z1 ≤ 65535) else false) true (decide_eq_true Z.2) (by kernel_rfl) <|
      R.call mixed c_awake17 (by kernel_rfl) <| R.fin mixed Try.func8 (by kernel_rfl)

theorem has_zero (m0 : mayS x0 y0 z0 a0 b0 c0 d0 e0 f0) (m1 : mayS x1 y1 z1 a1 b1 c1 d1 e1 f1) (m2 : mayS x2 y2 z2 a2 b2 c2 d2 e2 f2) (hs : sideI x0 y0 x1 y1 x2 y2 = 0) : RunsE Try.prog 8 0 (entry Try.f8 [S27 x0 y0 z0 a0 b0 c0 d0 e0 f0 x1 y1 z1 a1 b1 c1 d1 e1 f1 x2 y2 z2 a2 b2 c2 d2 e2 f2, .int .i64 px, .int .i64 py] []) (.bool true) := by
  have cm := may28 (x0 := x0) (y0 := y0) (z0 := z0) (a0 := a0) (b0 := b0) (c0 := c0) (d0 := d0) (e0 := e0) (f0 := f0) (x1 := x1) (y1 := y1) (z1 := z1) (a1 := a1) (b1 := b1) (c1 := c1) (d1 := d1) (e1 := e1) (f1 := f1) (x2 := x2) (y2 := y2) (z2 := z2) (a2 := a2) (b2 := b2) (c2 := c2) (d2 := d2) (e2 := e2) (f2 := f2) (decide_eq_true ⟨m0, m1, m2⟩)
  have nT : sideR x0 y0 x1 y1 x2 y2 = sideI x0 y0 x1 y1 x2 y2 := sideR_ m0.1 m1.1 m2.1
  have eT := c_edgeOk (ax := x0) (ay := y0) (bx := x1) (b_ := y1) (px := x2) (py := y2) (by simp [ok3, m0.1, m1.1, m2.1])
  have cs := c_rside x0 y0 x1 y1 x2 y2
  rw [nT, hs] at eT cs
  exact R.call mixed cm (by kernel_rfl) <| R.call mixed (set0_zero (x0 := x0) (y0 := y0) (z0 := z0) (a0 := a0) (b0 := b0) (c0 := c0) (d0 := d0) (e0 := e0) (f0 := f0) (x1 := x1) (y1 := y1) (z1 := z1) (a1 := a1) (b1 := b1) (c1 := c1) (d1 := d1) (e1 := e1) (f1 := f1) (x2 := x2) (y2 := y2) (z2 := z2) (a2 := a2) (b2 := b2) (c2 := c2) (d2 := d2) (e2 := e2) (f2 := f2) m0 m1 m2 eT rfl) (by kernel_rfl) <| R.call mixed cs (by kernel_rfl) <| R.call mixed c_awake17 (by kernel_rfl) <| R.fin mixed Try.func8 (by kernel_rfl)
end

theorem hass_ (x0 y0 z0 a0 b0 c0 d0 e0 f0 x1 y1 z1 a1 b1 c1 d1 e1 f1 x2 y2 z2 a2 b2 c2 d2 e2 f2 px py : Int) : FnEq Try.prog 8 [S27 x0 y0 z0 a0 b0 c0 d0 e0 f0 x1 y1 z1 a1 b1 c1 d1 e1 f1 x2 y2 z2 a2 b2 c2 d2 e2 f2, .int .i64 px, .int .i64 py] [] (.bool true) [] := by
  refine FnEq.run Try.func8 (by kernel_rfl) rfl ?_
  rcases Decidable.em (may3 x0 y0 z0 a0 b0 c0 d0 e0 f0 x1 y1 z1 a1 b1 c1 d1 e1 f1 x2 y2 z2 a2 b2 c2 d2 e2 f2) with h | h
  · obtain ⟨m0, m1, m2⟩ := h
    rcases Int.lt_trichotomy (sideI x0 y0 x1 y1 x2 y2) 0 with hs | hs | hs
    · exact has_neg m0 m1 m2 hs
    · exact has_zero m0 m1 m2 hs
    · exact has_pos m0 m1 m2 hs
  · exact R.call mixed (may28 (decide_eq_false h)) (by kernel_rfl) <| R.call mixed c_awake17 (by kernel_rfl) <| R.fin mixed Try.func8 (by kernel_rfl)

end Go.Proofs.Ytfkmhhbpomkakaa.Tri
