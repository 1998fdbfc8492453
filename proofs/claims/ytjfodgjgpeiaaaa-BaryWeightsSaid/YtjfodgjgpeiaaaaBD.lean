/- BaryWeights, BaryMixes, BaryCorners: the walks. -/
import Derived.Test.YtjfodgjgpeiaaaaBC
namespace Go.Proofs.Ytjfodgjgpeiaaaa.Bary
open Go Go.Dt Go.Proofs Go.Proofs.Ytjfodgjgpeiaaaa.Wide
set_option linter.unusedVariables false

theorem awake13 : FnEq Try.prog 51 [] [] (.bool true) [] := FnEq.eval mixed (X := [(73, add64Entry), (74, sub64Entry)]) (by
  intro f e h; simp at h; rcases h with ⟨rfl, rfl⟩ | ⟨rfl, rfl⟩ <;> first | exact e73 | exact e74) 364 Try.func51 (by kernel_rfl) rfl (by kernel_rfl)
theorem c_awake13 : Con Try.prog 51 [] (.bool true) := Con.of Try.func51 rfl rfl awake13

theorem side_sum (ax ay bx b_ cx cy px py : Int) : sideI bx b_ cx cy px py + sideI cx cy ax ay px py + sideI ax ay bx b_ px py = sideI ax ay bx b_ cx cy := by
  unfold sideI
  rw [Int.mul_comm (cy - b_), Int.mul_comm (ay - cy), Int.mul_comm (b_ - ay) (px - ax), Int.mul_comm (b_ - ay) (cx - ax)]
  simp only [Int.sub_mul, Int.mul_sub]
  omega

theorem okW {x y : Int} {b : Bool} (h : okP x y = b) : Con Try.prog 50 [PT x y] (.bool b) := (c_mayP x y).val rfl (by rw [h])

theorem weights_ (ax ay bx b_ cx cy px py : Int) : FnEq Try.prog 12 [T6 ax ay bx b_ cx cy, PT px py] [] (.bool true) [] := by
  refine FnEq.run Try.func12 rfl rfl ?_
  cases ha : okP ax ay with
  | false => exact R.call mixed (@c_weightsNo ax ay bx b_ cx cy px py (by simp [ha])) (by kernel_rfl) <| R.call mixed (okW ha) (by kernel_rfl) <| R.call mixed c_awake13 (by kernel_rfl) <| R.fin mixed Try.func12 (by kernel_rfl)
  | true =>
    cases hb : okP bx b_ with
    | false => exact R.call mixed (@c_weightsNo ax ay bx b_ cx cy px py (by simp [hb])) (by kernel_rfl) <| R.call mixed (okW ha) (by kernel_rfl) <| R.call mixed (okW hb) (by kernel_rfl) <| R.call mixed c_awake13 (by kernel_rfl) <| R.fin mixed Try.func12 (by kernel_rfl)
    | true =>
      cases hc : okP cx cy with
      | false => exact R.call mixed (@c_weightsNo ax ay bx b_ cx cy px py (by simp [hc])) (by kernel_rfl) <| R.call mixed (okW ha) (by kernel_rfl) <| R.call mixed (okW hb) (by kernel_rfl) <| R.call mixed (okW hc) (by kernel_rfl) <| R.call mixed c_awake13 (by kernel_rfl) <| R.fin mixed Try.func12 (by kernel_rfl)
      | true =>
        cases hp : okP px py with
        | false => exact R.call mixed (@c_weightsNo ax ay bx b_ cx cy px py (by simp [hp])) (by kernel_rfl) <| R.call mixed (okW ha) (by kernel_rfl) <| R.call mixed (okW hb) (by kernel_rfl) <| R.call mixed (okW hc) (by kernel_rfl) <| R.call mixed (okW hp) (by kernel_rfl) <| R.call mixed c_awake13 (by kernel_rfl) <| R.fin mixed Try.func12 (by kernel_rfl)
        | true =>
          have e0 := sideR_ hb hc hp
          have e1 := sideR_ hc ha hp
          have e2 := sideR_ ha hb hp
          have e3 := sideR_ ha hb hc
          have r0 := side_bounds hb hc hp
          have r1 := side_bounds hc ha hp
          have r2 := side_bounds ha hb hp
          have hs := side_sum ax ay bx b_ cx cy px py
          exact R.call mixed (c_weights ha hb hc hp) (by kernel_rfl) <| R.call mixed (okW ha) (by kernel_rfl) <| R.call mixed (okW hb) (by kernel_rfl) <| R.call mixed (okW hc) (by kernel_rfl) <| R.call mixed (okW hp) (by kernel_rfl) <|
            R.call mixed (c_rweights ax ay bx b_ cx cy px py) (by kernel_rfl) <|
            R.guardIs mixed 3 (eqs [sideR bx b_ cx cy px py, sideR cx cy ax ay px py, sideR ax ay bx b_ px py] [sideR bx b_ cx cy px py, sideR cx cy ax ay px py, sideR ax ay bx b_ px py]) true (eqs_self _) (by kernel_rfl) <|
            R.call mixed (c_rside ax ay bx b_ cx cy) (by kernel_rfl) <|
            R.guardIs mixed 3 (IntKind.i64.wrap (IntKind.i64.wrap (sideR bx b_ cx cy px py + sideR cx cy ax ay px py) + sideR ax ay bx b_ px py) == sideR ax ay bx b_ cx cy) true (by
              rw [e0, e1, e2, e3, wrap_i64_of (n := sideI bx b_ cx cy px py + sideI cx cy ax ay px py) (by omega) (by omega), wrap_i64_of (by omega) (by omega), hs]; simp) (by kernel_rfl) <|
            R.call mixed c_awake13 (by kernel_rfl) <| R.fin mixed Try.func12 (by kernel_rfl)

/-! ### BaryMixes -/
def s13 (P : Program) (fn : Func) : VS := ac P (ac P (entry fn [A3 0 0 0, A3 5 6 7] []) (.tuple ⟨[.int .i64 8, .int .i64 0]⟩)) (.bool true)
def cells3 (a b c : Int) : Blk := .cells [.int .i64 a, .int .i64 b, .int .i64 c] 0 true
def MH (P : Program) (fn : Func) (w0 w1 w2 v0 v1 v2 n lo hi i : Int) : VS := putM [cells3 w0 w1 w2, cells3 v0 v1 v2] (puts [(5, .int .i64 n), (6, .int .i64 0), (7, .int .i64 lo), (8, .int .i64 hi), (9, .int .i64 i)] (keepS [2, 3] (vadv P 16 (s13 P fn))))
def lo_ (w v lo : Int) : Int := if 0 < w then (if lo < v then lo else v) else lo
def hi_ (w v hi : Int) : Int := if 0 < w then (if hi > v then hi else v) else hi
theorem lo_le {w v lo : Int} : lo_ w v lo ≤ lo ∧ (0 < w → lo_ w v lo ≤ v) := by
  unfold lo_
  split
  · split <;> omega
  · omega
theorem hi_ge {w v hi : Int} : hi ≤ hi_ w v hi ∧ (0 < w → v ≤ hi_ w v hi) := by
  unfold hi_
  split
  · split <;> omega
  · omega

theorem mh0 (w0 w1 w2 v0 v1 v2 n lo hi : Int) {v : Value} (h : RunsE Try.prog 13 0 (MH Try.prog Try.f13 w0 w1 w2 v0 v1 v2 n (lo_ w0 v0 lo) (hi_ w0 v0 hi) 1) v) : RunsE Try.prog 13 0 (MH Try.prog Try.f13 w0 w1 w2 v0 v1 v2 n lo hi 0) v := by
  rcases Decidable.em (0 < w0) with hw | hw
  · rw [lo_, if_pos hw, hi_, if_pos hw] at h
    exact R.cond mixed 17 (decide (w0 > 0)) true (decide_eq_true hw) (by kernel_rfl) <| R.call mixed (c_low lo v0) (by kernel_rfl) <| R.call mixed (c_high hi v0) (by kernel_rfl) <|
      R.at mixed 9 [2, 3, 5, 6, 7, 8, 9] (st := MH Try.prog Try.f13 w0 w1 w2 v0 v1 v2 n (if lo < v0 then lo else v0) (if hi > v0 then hi else v0) 1) (by kernel_rfl) h
  · rw [lo_, if_neg hw, hi_, if_neg hw] at h
    exact R.cond mixed 17 (decide (w0 > 0)) false (decide_eq_false hw) (by kernel_rfl) <| R.at mixed 8 [2, 3, 5, 6, 7, 8, 9] (st := MH Try.prog Try.f13 w0 w1 w2 v0 v1 v2 n lo hi 1) (by kernel_rfl) h

theorem mh1 (w0 w1 w2 v0 v1 v2 n lo hi : Int) {v : Value} (h : RunsE Try.prog 13 0 (MH Try.prog Try.f13 w0 w1 w2 v0 v1 v2 n (lo_ w1 v1 lo) (hi_ w1 v1 hi) 2) v) : RunsE Try.prog 13 0 (MH Try.prog Try.f13 w0 w1 w2 v0 v1 v2 n lo hi 1) v := by
  rcases Decidable.em (0 < w1) with hw | hw
  · rw [lo_, if_pos hw, hi_, if_pos hw] at h
    exact R.cond mixed 17 (decide (w1 > 0)) true (decide_eq_true hw) (by kernel_rfl) <| R.call mixed (c_low lo v1) (by kernel_rfl) <| R.call mixed (c_high hi v1) (by kernel_rfl) <|
      R.at mixed 9 [2, 3, 5, 6, 7, 8, 9] (st := MH Try.prog Try.f13 w0 w1 w2 v0 v1 v2 n (if lo < v1 then lo else v1) (if hi > v1 then hi else v1) 2) (by kernel_rfl) h
  · rw [lo_, if_neg hw, hi_, if_neg hw] at h
    exact R.cond mixed 17 (decide (w1 > 0)) false (decide_eq_false hw) (by kernel_rfl) <| R.at mixed 8 [2, 3, 5, 6, 7, 8, 9] (st := MH Try.prog Try.f13 w0 w1 w2 v0 v1 v2 n lo hi 2) (by kernel_rfl) h

theorem mh2 (w0 w1 w2 v0 v1 v2 n lo hi : Int) {v : Value} (h : RunsE Try.prog 13 0 (MH Try.prog Try.f13 w0 w1 w2 v0 v1 v2 n (lo_ w2 v2 lo) (hi_ w2 v2 hi) 3) v) : RunsE Try.prog 13 0 (MH Try.prog Try.f13 w0 w1 w2 v0 v1 v2 n lo hi 2) v := by
  rcases Decidable.em (0 < w2) with hw | hw
  · rw [lo_, if_pos hw, hi_, if_pos hw] at h
    exact R.cond mixed 17 (decide (w2 > 0)) true (decide_eq_true hw) (by kernel_rfl) <| R.call mixed (c_low lo v2) (by kernel_rfl) <| R.call mixed (c_high hi v2) (by kernel_rfl) <|
      R.at mixed 9 [2, 3, 5, 6, 7, 8, 9] (st := MH Try.prog Try.f13 w0 w1 w2 v0 v1 v2 n (if lo < v2 then lo else v2) (if hi > v2 then hi else v2) 3) (by kernel_rfl) h
  · rw [lo_, if_neg hw, hi_, if_neg hw] at h
    exact R.cond mixed 17 (decide (w2 > 0)) false (decide_eq_false hw) (by kernel_rfl) <| R.at mixed 8 [2, 3, 5, 6, 7, 8, 9] (st := MH Try.prog Try.f13 w0 w1 w2 v0 v1 v2 n lo hi 3) (by kernel_rfl) h

theorem same_mix {w0 w1 w2 v : Int} (hs : 0 < w0 + w1 + w2) : mixed_ w0 w1 w2 v v v = v := by
  unfold mixed_
  rw [← Int.add_mul, ← Int.add_mul, Int.mul_ediv_cancel_left _ (by omega)]

theorem mixes_ (w0 w1 w2 v0 v1 v2 : Int) (a0 : -9223372036854775808 ≤ w0) (a0' : w0 ≤ 9223372036854775807) (a1 : -9223372036854775808 ≤ w1) (a1' : w1 ≤ 9223372036854775807) (a2 : -9223372036854775808 ≤ w2) (a2' : w2 ≤ 9223372036854775807)
    (b0 : -9223372036854775808 ≤ v0) (b0' : v0 ≤ 9223372036854775807) (b1 : -9223372036854775808 ≤ v1) (b1' : v1 ≤ 9223372036854775807) (b2 : -9223372036854775808 ≤ v2) (b2' : v2 ≤ 9223372036854775807) :
    FnEq Try.prog 13 [A3 w0 w1 w2, A3 v0 v1 v2] [] (.bool true) [] := by
  refine FnEq.run Try.func13 rfl rfl ?_
  have cr := c_rmay w0 w1 w2 v0 v1 v2
  rcases Decidable.em (mayM w0 w1 w2 v0 v1 v2) with h | h
  · rw [decide_eq_true h] at cr
    have h' : mayM w0 w1 w2 v0 v0 v0 := ⟨h.1, ⟨h.2.1.1, h.2.1.2.1, h.1.2.2⟩, ⟨h.2.2.1.1, h.2.2.1.2.1, h.1.2.2⟩, h.2.2.2⟩
    have cs := c_mix ⟨a0, a0'⟩ ⟨a1, a1'⟩ ⟨a2, a2'⟩ ⟨b0, b0'⟩ ⟨b0, b0'⟩ ⟨b0, b0'⟩ h'
    rw [same_mix h.2.2.2] at cs
    refine R.call mixed (c_mix ⟨a0, a0'⟩ ⟨a1, a1'⟩ ⟨a2, a2'⟩ ⟨b0, b0'⟩ ⟨b1, b1'⟩ ⟨b2, b2'⟩ h) (by kernel_rfl) <| R.call mixed cr (by kernel_rfl) <|
      R.at mixed 16 [2, 3, 5, 6, 7, 8, 9] (st := MH Try.prog Try.f13 w0 w1 w2 v0 v1 v2 (mixed_ w0 w1 w2 v0 v1 v2) 9223372036854775807 (-9223372036854775808) 0) (by kernel_rfl) <|
      mh0 _ _ _ _ _ _ _ _ _ <| mh1 _ _ _ _ _ _ _ _ _ <| mh2 _ _ _ _ _ _ _ _ _ ?_
    have l0 := lo_le (w := w0) (v := v0) (lo := 9223372036854775807)
    have l1 := lo_le (w := w1) (v := v1) (lo := lo_ w0 v0 9223372036854775807)
    have l2 := lo_le (w := w2) (v := v2) (lo := lo_ w1 v1 (lo_ w0 v0 9223372036854775807))
    have g0 := hi_ge (w := w0) (v := v0) (hi := -9223372036854775808)
    have g1 := hi_ge (w := w1) (v := v1) (hi := hi_ w0 v0 (-9223372036854775808))
    have g2 := hi_ge (w := w2) (v := v2) (hi := hi_ w1 v1 (hi_ w0 v0 (-9223372036854775808)))
    generalize lo_ w0 v0 9223372036854775807 = L0 at *
    generalize lo_ w1 v1 L0 = L1 at *
    generalize lo_ w2 v2 L1 = L2 at *
    generalize hi_ w0 v0 (-9223372036854775808) = H0 at *
    generalize hi_ w1 v1 H0 = H1 at *
    generalize hi_ w2 v2 H1 = H2 at *
    have hr := mixed_range (v0 := v0) (v1 := v1) (v2 := v2) (lo := L2) (hi := H2) h.1.1 h.2.1.1 h.2.2.1.1 h.2.2.2 (fun hw => by have := l0.2 hw; have := g0.2 hw; omega) (fun hw => by have := l1.2 hw; have := g1.2 hw; omega) (fun hw => by have := l2.2 hw; have := g2.2 hw; omega)
    exact R.call mixed cs (by kernel_rfl) <| R.call mixed (c_rmix h) (by kernel_rfl) <| R.guardIs mixed 3 (mixed_ w0 w1 w2 v0 v1 v2 == mixed_ w0 w1 w2 v0 v1 v2) true (by simp) (by kernel_rfl) <|
      R.guardIs mixed 5 (decide (mixed_ w0 w1 w2 v0 v1 v2 ≥ L2)) true (decide_eq_true hr.1) (by kernel_rfl) <| R.guardIs mixed 5 (decide (mixed_ w0 w1 w2 v0 v1 v2 ≤ H2)) true (decide_eq_true hr.2) (by kernel_rfl) <|
      R.guardIs mixed 6 (v0 == v0) true (by simp) (by kernel_rfl) <| R.call mixed c_awake13 (by kernel_rfl) <| R.fin mixed Try.func13 (by kernel_rfl)
  · rw [decide_eq_false h] at cr
    exact R.call mixed (c_mixNo ⟨a0, a0'⟩ ⟨a1, a1'⟩ ⟨a2, a2'⟩ ⟨b0, b0'⟩ ⟨b1, b1'⟩ ⟨b2, b2'⟩ h) (by kernel_rfl) <| R.call mixed cr (by kernel_rfl) <| R.call mixed c_awake13 (by kernel_rfl) <| R.fin mixed Try.func13 (by kernel_rfl)

/-! ### BaryCorners -/
theorem side_at1 (ax ay bx b_ cx cy : Int) : sideI bx b_ cx cy ax ay = sideI ax ay bx b_ cx cy := by
  have := side_sum ax ay bx b_ cx cy ax ay
  unfold sideI at this ⊢
  simp only [Int.sub_self, Int.mul_zero, Int.add_zero] at this
  rw [Int.mul_comm (ay - cy)] at this
  omega
theorem side_zero (ax ay bx b_ : Int) : sideI ax ay bx b_ ax ay = 0 ∧ sideI ax ay bx b_ bx b_ = 0 := by
  unfold sideI
  rw [Int.mul_comm (bx - ax) (b_ - ay)]
  simp
theorem corner_at {S v0 v1 v2 : Int} (hS : 0 < S) : mixed_ S 0 0 v0 v1 v2 = v0 ∧ mixed_ 0 S 0 v0 v1 v2 = v1 ∧ mixed_ 0 0 S v0 v1 v2 = v2 := by
  unfold mixed_
  simp only [Int.zero_mul, Int.add_zero, Int.zero_add]
  exact ⟨Int.mul_ediv_cancel_left _ (by omega), Int.mul_ediv_cancel_left _ (by omega), Int.mul_ediv_cancel_left _ (by omega)⟩

theorem corners_ (ax ay bx b_ cx cy v0 v1 v2 : Int) (b0 : -9223372036854775808 ≤ v0) (b0' : v0 ≤ 9223372036854775807) (b1 : -9223372036854775808 ≤ v1) (b1' : v1 ≤ 9223372036854775807) (b2 : -9223372036854775808 ≤ v2) (b2' : v2 ≤ 9223372036854775807) :
    FnEq Try.prog 14 [T6 ax ay bx b_ cx cy, A3 v0 v1 v2] [] (.bool true) [] := by
  refine FnEq.run Try.func14 rfl rfl ?_
  cases ha : okP ax ay with
  | false => exact R.call mixed (okW ha) (by kernel_rfl) <| R.call mixed c_awake13 (by kernel_rfl) <| R.fin mixed Try.func14 (by kernel_rfl)
  | true =>
    cases hb : okP bx b_ with
    | false => exact R.call mixed (okW ha) (by kernel_rfl) <| R.call mixed (okW hb) (by kernel_rfl) <| R.call mixed c_awake13 (by kernel_rfl) <| R.fin mixed Try.func14 (by kernel_rfl)
    | true =>
      cases hc : okP cx cy with
      | false => exact R.call mixed (okW ha) (by kernel_rfl) <| R.call mixed (okW hb) (by kernel_rfl) <| R.call mixed (okW hc) (by kernel_rfl) <| R.call mixed c_awake13 (by kernel_rfl) <| R.fin mixed Try.func14 (by kernel_rfl)
      | true =>
        have cS : Con Try.prog 53 [PT ax ay, PT bx b_, PT cx cy] (.int .i64 (sideI ax ay bx b_ cx cy)) := (c_rside ax ay bx b_ cx cy).val rfl (by rw [sideR_ ha hb hc])
        have W0 := c_weights ha hb hc ha
        have W1 := c_weights ha hb hc hb
        have W2 := c_weights ha hb hc hc
        rw [sideR_ hb hc ha, sideR_ hc ha ha, sideR_ ha hb ha, side_at1, (side_zero cx cy ax ay).2, (side_zero ax ay bx b_).1] at W0
        rw [sideR_ hb hc hb, sideR_ hc ha hb, sideR_ ha hb hb, (side_zero bx b_ cx cy).1, ← side_at1 cx cy ax ay bx b_, (side_zero ax ay bx b_).2] at W1
        rw [sideR_ hb hc hc, sideR_ hc ha hc, sideR_ ha hb hc, (side_zero bx b_ cx cy).2, (side_zero cx cy ax ay).1] at W2
        have hsb := side_bounds ha hb hc
        generalize sideI ax ay bx b_ cx cy = S at *
        refine R.call mixed (okW ha) (by kernel_rfl) <| R.call mixed (okW hb) (by kernel_rfl) <| R.call mixed (okW hc) (by kernel_rfl) <| R.call mixed cS (by kernel_rfl) ?_
        rcases Decidable.em (S ≤ 0) with hS | hS
        · exact R.guardIs mixed 3 (decide (S ≤ 0)) true (decide_eq_true hS) (by kernel_rfl) <| R.call mixed c_awake13 (by kernel_rfl) <| R.fin mixed Try.func14 (by kernel_rfl)
        · refine R.guardIs mixed 3 (decide (S ≤ 0)) false (decide_eq_false hS) (by kernel_rfl) ?_
          have cr := c_rmay 1 1 1 v0 v1 v2
          rcases Decidable.em (mayM 1 1 1 v0 v1 v2) with h | h
          · rw [decide_eq_true h] at cr
            obtain ⟨⟨_, _, p1, p2⟩, ⟨_, _, q1, q2⟩, ⟨_, _, r1, r2⟩, _⟩ := h
            obtain ⟨k0, k1, k2⟩ := corner_at (S := S) (v0 := v0) (v1 := v1) (v2 := v2) (by omega)
            have m0 := c_mix (w0 := S) (w1 := 0) (w2 := 0) (v0 := v0) (v1 := v1) (v2 := v2) (by omega) (by omega) (by omega) ⟨b0, b0'⟩ ⟨b1, b1'⟩ ⟨b2, b2'⟩ (by unfold mayM okM; omega)
            have m1 := c_mix (w0 := 0) (w1 := S) (w2 := 0) (v0 := v0) (v1 := v1) (v2 := v2) (by omega) (by omega) (by omega) ⟨b0, b0'⟩ ⟨b1, b1'⟩ ⟨b2, b2'⟩ (by unfold mayM okM; omega)
            have m2 := c_mix (w0 := 0) (w1 := 0) (w2 := S) (v0 := v0) (v1 := v1) (v2 := v2) (by omega) (by omega) (by omega) ⟨b0, b0'⟩ ⟨b1, b1'⟩ ⟨b2, b2'⟩ (by unfold mayM okM; omega)
            rw [k0] at m0
            rw [k1] at m1
            rw [k2] at m2
            exact R.call mixed cr (by kernel_rfl) <| R.call mixed W0 (by kernel_rfl) <| R.call mixed m0 (by kernel_rfl) <| R.cond mixed 22 (v0 != v0) false (by simp) (by kernel_rfl) <|
              R.call mixed W1 (by kernel_rfl) <| R.call mixed m1 (by kernel_rfl) <| R.cond mixed 22 (v1 != v1) false (by simp) (by kernel_rfl) <|
              R.call mixed W2 (by kernel_rfl) <| R.call mixed m2 (by kernel_rfl) <| R.cond mixed 22 (v2 != v2) false (by simp) (by kernel_rfl) <| R.call mixed c_awake13 (by kernel_rfl) <| R.fin mixed Try.func14 (by kernel_rfl)
          · rw [decide_eq_false h] at cr
            exact R.call mixed cr (by kernel_rfl) <| R.call mixed c_awake13 (by kernel_rfl) <| R.fin mixed Try.func14 (by kernel_rfl)

end Go.Proofs.Ytjfodgjgpeiaaaa.Bary
