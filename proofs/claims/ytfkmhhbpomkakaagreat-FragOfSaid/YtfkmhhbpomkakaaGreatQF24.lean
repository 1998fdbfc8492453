/- Several texts in one: BA2y, BB2y, BC2y. -/
import Derived.Test.YtfkmhhbpomkakaaGreatQF23
namespace Go.Proofs.YtfkmhhbpomkakaaGreat.Bary

section
open Go Go.Dt Go.Proofs Go.Proofs.YtfkmhhbpomkakaaGreat.Wide
set_option linter.unusedVariables false
set_option linter.unusedSimpArgs false

abbrev PT (x y : Int) : Value := .agg ⟨[.int .i64 x, .int .i64 y]⟩
def okP (x y : Int) : Bool := decide (-524288 ≤ x) && (decide (x ≤ 524288) && (decide (-524288 ≤ y) && decide (y ≤ 524288)))
theorem okP_iff {x y : Int} : okP x y = true ↔ -524288 ≤ x ∧ x ≤ 524288 ∧ -524288 ≤ y ∧ y ≤ 524288 := by simp [okP]
def sideI (ax ay bx b_ px py : Int) : Int := (bx - ax) * (py - ay) - (b_ - ay) * (px - ax)
def sideR (ax ay bx b_ px py : Int) : Int := IntKind.i64.wrap (IntKind.i64.wrap (IntKind.i64.wrap (bx - ax) * IntKind.i64.wrap (py - ay)) - IntKind.i64.wrap (IntKind.i64.wrap (b_ - ay) * IntKind.i64.wrap (px - ax)))

theorem mul_abs {a b m n : Int} (h1 : -m ≤ a) (h2 : a ≤ m) (h3 : -n ≤ b) (h4 : b ≤ n) : -(m * n) ≤ a * b ∧ a * b ≤ m * n := by
  have h : (a * b).natAbs ≤ m.natAbs * n.natAbs := by
    rw [Int.natAbs_mul]
    exact Nat.mul_le_mul (by omega) (by omega)
  have e : ((m.natAbs * n.natAbs : Nat) : Int) = m * n := by
    rw [Int.natCast_mul]
    congr 1 <;> omega
  omega

theorem side_bounds {ax ay bx b_ px py : Int} (ha : okP ax ay = true) (hb : okP bx b_ = true) (hp : okP px py = true) : -2199023255552 ≤ sideI ax ay bx b_ px py ∧ sideI ax ay bx b_ px py ≤ 2199023255552 := by
  rw [okP_iff] at ha hb hp
  have h1 := mul_abs (a := bx - ax) (b := py - ay) (m := 1048576) (n := 1048576) (by omega) (by omega) (by omega) (by omega)
  have h2 := mul_abs (a := b_ - ay) (b := px - ax) (m := 1048576) (n := 1048576) (by omega) (by omega) (by omega) (by omega)
  unfold sideI
  omega

theorem sideR_ {ax ay bx b_ px py : Int} (ha : okP ax ay = true) (hb : okP bx b_ = true) (hp : okP px py = true) : sideR ax ay bx b_ px py = sideI ax ay bx b_ px py := by
  rw [okP_iff] at ha hb hp
  have h1 := mul_abs (a := bx - ax) (b := py - ay) (m := 1048576) (n := 1048576) (by omega) (by omega) (by omega) (by omega)
  have h2 := mul_abs (a := b_ - ay) (b := px - ax) (m := 1048576) (n := 1048576) (by omega) (by omega) (by omega) (by omega)
  unfold sideR sideI
  rw [wrap_i64_of (n := bx - ax) (by omega) (by omega), wrap_i64_of (n := py - ay) (by omega) (by omega), wrap_i64_of (n := b_ - ay) (by omega) (by omega), wrap_i64_of (n := px - ax) (by omega) (by omega),
    wrap_i64_of (n := (bx - ax) * (py - ay)) (by omega) (by omega), wrap_i64_of (n := (b_ - ay) * (px - ax)) (by omega) (by omega), wrap_i64_of (by omega) (by omega)]

theorem c_side (ax ay bx b_ px py : Int) : Con Tryz.prog 43 [PT ax ay, PT bx b_, PT px py] (.int .i64 (sideR ax ay bx b_ px py)) := Con.run Tryz.func43 rfl rfl (R.fin mixed Tryz.func43 (by kernel_rfl))
theorem c_rside (ax ay bx b_ px py : Int) : Con Tryz.prog 93 [PT ax ay, PT bx b_, PT px py] (.int .i64 (sideR ax ay bx b_ px py)) := Con.run Tryz.func93 rfl rfl (R.fin mixed Tryz.func93 (by kernel_rfl))
theorem c_rweights (ax ay bx b_ cx cy px py : Int) : Con Tryz.prog 64 [PT ax ay, PT bx b_, PT cx cy, PT px py] (.agg ⟨[.int .i64 (sideR bx b_ cx cy px py), .int .i64 (sideR cx cy ax ay px py), .int .i64 (sideR ax ay bx b_ px py)]⟩) :=
  Con.run Tryz.func64 rfl rfl <| R.call mixed (c_rside bx b_ cx cy px py) (by kernel_rfl) <| R.call mixed (c_rside cx cy ax ay px py) (by kernel_rfl) <| R.call mixed (c_rside ax ay bx b_ px py) (by kernel_rfl) <| R.fin mixed Tryz.func64 (by kernel_rfl)

theorem c_mayP (x y : Int) : Con Tryz.prog 10 [PT x y] (.bool (okP x y)) :=
  Con.run Tryz.func10 rfl rfl <|
    RunsE.adv mixed 11 <| RunsE.guard 6 (decide (x ≥ -524288)) (by kernel_rfl)
     (fun h0 =>
       RunsE.adv mixed 5 <| RunsE.guard 11 (bif true then decide (x ≤ 524288) else false) (by kernel_rfl)
        (fun h1 =>
          RunsE.adv mixed 5 <| RunsE.guard 16 (bif true then decide (y ≥ -524288) else false) (by kernel_rfl)
           (fun h2 =>
             R.finIs mixed Tryz.func10 (Value.bool (bif true then decide (y ≤ 524288) else false)) (by kernel_rfl) (by simp_all [okP])
           )
           (fun h2 =>
             R.finIs mixed Tryz.func10 (Value.bool false) (by kernel_rfl) (by simp_all [okP]; omega)
           )
        )
        (fun h1 =>
          R.finIs mixed Tryz.func10 (Value.bool false) (by kernel_rfl) (by simp_all [okP]; omega)
        )
     )
     (fun h0 =>
       R.finIs mixed Tryz.func10 (Value.bool false) (by kernel_rfl) (by simp_all [okP]; omega)
     )

theorem tdiv_parts {a b : Int} (hb : 0 < b) : a.tdiv b * b + a.tmod b = a ∧ (0 ≤ a → 0 ≤ a.tmod b ∧ a.tmod b < b) ∧ (a < 0 → -b < a.tmod b ∧ a.tmod b ≤ 0) := by
  have e : a.tdiv b * b + a.tmod b = a := by
    have := Int.mul_tdiv_add_tmod a b
    rw [Int.mul_comm] at this
    exact this
  refine ⟨e, fun h => ?_, fun h => ?_⟩
  · rw [tmod_pos h]
    exact ⟨Int.emod_nonneg _ (by omega), Int.emod_lt_of_pos _ hb⟩
  · have e2 : a.tmod b = -((-a).tmod b) := by rw [Int.neg_tmod]; omega
    rw [e2, tmod_pos (show 0 ≤ -a by omega)]
    have h1 := Int.emod_nonneg (-a) (b := b) (by omega)
    have h2 := Int.emod_lt_of_pos (-a) hb
    omega

theorem floor_tdiv {a b : Int} (hb : 0 < b) : a / b = if a.tmod b < 0 then a.tdiv b - 1 else a.tdiv b := by
  obtain ⟨e, h1, h2⟩ := tdiv_parts (a := a) hb
  split
  · refine quot_of hb ?_ ?_
    · rw [Int.sub_mul, Int.one_mul]; omega
    · rw [Int.sub_add_cancel]; omega
  · refine quot_of hb ?_ ?_
    · omega
    · rw [Int.add_mul, Int.one_mul]; omega

theorem c_floor1 (a b : Int) (a1 : -9223372036854775808 ≤ a) (a2 : a ≤ 9223372036854775807) (hb : 0 < b) (b2 : b ≤ 9223372036854775807) : Con Tryz.prog 69 [.int .i64 a, .int .i64 b] (.int .i64 (a / b)) := by
  obtain ⟨e, h1, h2⟩ := tdiv_parts (a := a) hb
  have hb1 : (b == -1) = false := beq_eq_false_iff_ne.2 (by omega)
  have hp : decide (b > 0) = true := decide_eq_true hb
  have hn : decide (b < 0) = false := decide_eq_false (by omega)
  have ht : -9223372036854775808 ≤ a.tdiv b ∧ a.tdiv b ≤ 9223372036854775807 := by
    have := Int.natAbs_tdiv_le_natAbs a b
    have h3 : a.tdiv b ≤ 9223372036854775807 := by
      rcases Int.lt_or_le (a.tdiv b) 9223372036854775808 with h | h
      · omega
      · have := Int.mul_le_mul_of_nonneg_right h (show 0 ≤ b by omega)
        omega
    omega
  have w1 : IntKind.i64.wrap (a.tdiv b) = a.tdiv b := wrap_i64_of ht.1 ht.2
  have w2 : IntKind.i64.wrap (a - IntKind.i64.wrap (a.tdiv b * b)) = a.tmod b := by
    simp only [IntKind.wrap_i64]
    rcases Int.lt_or_le a 0 with h | h
    · have := h2 h; omega
    · have := h1 h; omega
  have hF := floor_tdiv (a := a) hb
  rcases Int.lt_or_le (a.tmod b) 0 with hm | hm
  · rw [if_pos hm] at hF
    have w3 : IntKind.i64.wrap (a.tdiv b - 1) = a.tdiv b - 1 := by
      refine wrap_i64_of ?_ (by omega)
      rcases Int.lt_or_le (a.tdiv b) (-9223372036854775807) with h | h
      · have := Int.mul_le_mul_of_nonneg_right (show a.tdiv b ≤ -9223372036854775808 by omega) (show 0 ≤ b by omega)
        omega
      · omega
    rw [hF, ← w3]
    refine Con.run Tryz.func69 (by kernel_rfl) rfl ?_
    rcases Decidable.em (a = -9223372036854775808) with h | h
    · refine R.guardIs mixed 10 (a == -9223372036854775808) true (by simp [h]) (by kernel_rfl) <| R.cond mixed 4 (bif true then b == -1 else false) false hb1 (by kernel_rfl) <|
        R.divIs mixed 5 false .i64 a b (a.tdiv b) (by omega) (by rw [cond_false, w1]) (by kernel_rfl) <|
        R.guardIs mixed 17 (decide (IntKind.i64.wrap (a - IntKind.i64.wrap (a.tdiv b * b)) < 0)) true (by rw [w2]; exact decide_eq_true hm) (by kernel_rfl) <| R.guardIs mixed 4 (bif true then decide (b > 0) else false) true hp (by kernel_rfl) <| R.fin mixed Tryz.func69 (by kernel_rfl)
    · refine R.guardIs mixed 10 (a == -9223372036854775808) false (by simp [h]) (by kernel_rfl) <|
        R.divIs mixed 10 false .i64 a b (a.tdiv b) (by omega) (by rw [cond_false, w1]) (by kernel_rfl) <|
        R.guardIs mixed 17 (decide (IntKind.i64.wrap (a - IntKind.i64.wrap (a.tdiv b * b)) < 0)) true (by rw [w2]; exact decide_eq_true hm) (by kernel_rfl) <| R.guardIs mixed 4 (bif true then decide (b > 0) else false) true hp (by kernel_rfl) <| R.fin mixed Tryz.func69 (by kernel_rfl)
  · rw [if_neg (by omega)] at hF
    rw [hF]
    refine Con.run Tryz.func69 (by kernel_rfl) rfl ?_
    rcases Decidable.em (a = -9223372036854775808) with h | h
    · refine R.guardIs mixed 10 (a == -9223372036854775808) true (by simp [h]) (by kernel_rfl) <| R.cond mixed 4 (bif true then b == -1 else false) false hb1 (by kernel_rfl) <|
        R.divIs mixed 5 false .i64 a b (a.tdiv b) (by omega) (by rw [cond_false, w1]) (by kernel_rfl) <|
        R.guardIs mixed 17 (decide (IntKind.i64.wrap (a - IntKind.i64.wrap (a.tdiv b * b)) < 0)) false (by rw [w2]; exact decide_eq_false (by omega)) (by kernel_rfl) ?_
      rcases Decidable.em (a.tmod b > 0) with h3 | h3
      · exact R.guardIs mixed 7 (decide (IntKind.i64.wrap (a - IntKind.i64.wrap (a.tdiv b * b)) > 0)) true (by rw [w2]; exact decide_eq_true h3) (by kernel_rfl) <| R.cond mixed 5 (bif false then true else bif true then decide (b < 0) else false) false hn (by kernel_rfl) <| R.fin mixed Tryz.func69 (by kernel_rfl)
      · exact R.guardIs mixed 7 (decide (IntKind.i64.wrap (a - IntKind.i64.wrap (a.tdiv b * b)) > 0)) false (by rw [w2]; exact decide_eq_false h3) (by kernel_rfl) <| R.fin mixed Tryz.func69 (by kernel_rfl)
    · refine R.guardIs mixed 10 (a == -9223372036854775808) false (by simp [h]) (by kernel_rfl) <|
        R.divIs mixed 10 false .i64 a b (a.tdiv b) (by omega) (by rw [cond_false, w1]) (by kernel_rfl) <|
        R.guardIs mixed 17 (decide (IntKind.i64.wrap (a - IntKind.i64.wrap (a.tdiv b * b)) < 0)) false (by rw [w2]; exact decide_eq_false (by omega)) (by kernel_rfl) ?_
      rcases Decidable.em (a.tmod b > 0) with h3 | h3
      · exact R.guardIs mixed 7 (decide (IntKind.i64.wrap (a - IntKind.i64.wrap (a.tdiv b * b)) > 0)) true (by rw [w2]; exact decide_eq_true h3) (by kernel_rfl) <| R.cond mixed 5 (bif false then true else bif true then decide (b < 0) else false) false hn (by kernel_rfl) <| R.fin mixed Tryz.func69 (by kernel_rfl)
      · exact R.guardIs mixed 7 (decide (IntKind.i64.wrap (a - IntKind.i64.wrap (a.tdiv b * b)) > 0)) false (by rw [w2]; exact decide_eq_false h3) (by kernel_rfl) <| R.fin mixed Tryz.func69 (by kernel_rfl)

end

section
open Go Go.Dt Go.Proofs Go.Proofs.YtfkmhhbpomkakaaGreat.Wide
set_option linter.unusedVariables false
set_option linter.unusedSimpArgs false

/-! ### Points that may be -/
def pts3 (ax ay bx b_ px py : Int) : List Blk := [.cells [.int .i64 ax, .int .i64 ay, .int .i64 bx, .int .i64 b_, .int .i64 px, .int .i64 py] 0 false]
def ok3 (ax ay bx b_ px py : Int) : Bool := okP ax ay && (okP bx b_ && okP px py)

theorem c_may3 (ax ay bx b_ px py : Int) : ConM Tryz.prog 42 [.slice (some ⟨0, 0, none⟩) 3 3] (pts3 ax ay bx b_ px py) (.bool (ok3 ax ay bx b_ px py)) (List.replicate 1 .gone) :=
  ConM.reads Tryz.func42 rfl rfl <|
    RunsE.adv mixed 35 <| RunsE.guard 14 (decide (ax < -524288)) (by kernel_rfl)
     (fun h0 =>
       R.finIs mixed Tryz.func42 (Value.bool false) (by kernel_rfl) (by simp_all [ok3, okP] <;> omega)
     )
     (fun h0 =>
       RunsE.adv mixed 5 <| RunsE.guard 19 (bif false then true else decide (ax > 524288)) (by kernel_rfl)
        (fun h1 =>
          R.finIs mixed Tryz.func42 (Value.bool false) (by kernel_rfl) (by simp_all [ok3, okP] <;> omega)
        )
        (fun h1 =>
          RunsE.adv mixed 5 <| RunsE.guard 24 (bif false then true else decide (ay < -524288)) (by kernel_rfl)
           (fun h2 =>
             R.finIs mixed Tryz.func42 (Value.bool false) (by kernel_rfl) (by simp_all [ok3, okP] <;> omega)
           )
           (fun h2 =>
             RunsE.adv mixed 5 <| RunsE.branch (bif false then true else decide (ay > 524288)) (by kernel_rfl)
              (fun h3 =>
                R.finIs mixed Tryz.func42 (Value.bool false) (by kernel_rfl) (by simp_all [ok3, okP] <;> omega)
              )
              (fun h3 =>
                RunsE.adv mixed 29 <| RunsE.guard 14 (decide (bx < -524288)) (by kernel_rfl)
                 (fun h4 =>
                   R.finIs mixed Tryz.func42 (Value.bool false) (by kernel_rfl) (by simp_all [ok3, okP] <;> omega)
                 )
                 (fun h4 =>
                   RunsE.adv mixed 5 <| RunsE.guard 19 (bif false then true else decide (bx > 524288)) (by kernel_rfl)
                    (fun h5 =>
                      R.finIs mixed Tryz.func42 (Value.bool false) (by kernel_rfl) (by simp_all [ok3, okP] <;> omega)
                    )
                    (fun h5 =>
                      RunsE.adv mixed 5 <| RunsE.guard 24 (bif false then true else decide (b_ < -524288)) (by kernel_rfl)
                       (fun h6 =>
                         R.finIs mixed Tryz.func42 (Value.bool false) (by kernel_rfl) (by simp_all [ok3, okP] <;> omega)
                       )
                       (fun h6 =>
                         RunsE.adv mixed 5 <| RunsE.branch (bif false then true else decide (b_ > 524288)) (by kernel_rfl)
                          (fun h7 =>
                            R.finIs mixed Tryz.func42 (Value.bool false) (by kernel_rfl) (by simp_all [ok3, okP] <;> omega)
                          )
                          (fun h7 =>
                            RunsE.adv mixed 29 <| RunsE.guard 14 (decide (px < -524288)) (by kernel_rfl)
                             (fun h8 =>
                               R.finIs mixed Tryz.func42 (Value.bool false) (by kernel_rfl) (by simp_all [ok3, okP] <;> omega)
                             )
                             (fun h8 =>
                               RunsE.adv mixed 5 <| RunsE.guard 19 (bif false then true else decide (px > 524288)) (by kernel_rfl)
                                (fun h9 =>
                                  R.finIs mixed Tryz.func42 (Value.bool false) (by kernel_rfl) (by simp_all [ok3, okP] <;> omega)
                                )
                                (fun h9 =>
                                  RunsE.adv mixed 5 <| RunsE.guard 24 (bif false then true else decide (py < -524288)) (by kernel_rfl)
                                   (fun h10 =>
                                     R.finIs mixed Tryz.func42 (Value.bool false) (by kernel_rfl) (by simp_all [ok3, okP] <;> omega)
                                   )
                                   (fun h10 =>
                                     RunsE.adv mixed 5 <| RunsE.branch (bif false then true else decide (py > 524288)) (by kernel_rfl)
                                      (fun h11 =>
                                        R.finIs mixed Tryz.func42 (Value.bool false) (by kernel_rfl) (by simp_all [ok3, okP] <;> omega)
                                      )
                                      (fun h11 =>
                                        R.finIs mixed Tryz.func42 (Value.bool true) (by kernel_rfl) (by simp_all [ok3, okP] <;> omega)
                                      )
                                   )
                                )
                             )
                          )
                       )
                    )
                 )
              )
           )
        )
     )

theorem c_edge (ax ay bx b_ px py : Int) : Con Tryz.prog 14 [PT ax ay, PT bx b_, PT px py] (.tuple ⟨[.int .i64 (bif ok3 ax ay bx b_ px py then sideR ax ay bx b_ px py else 0), .int .i64 (bif ok3 ax ay bx b_ px py then 0 else 3)]⟩) := by
  have m := c_may3 ax ay bx b_ px py
  refine Con.run Tryz.func14 rfl rfl ?_
  cases h : ok3 ax ay bx b_ px py with
  | true =>
    rw [h] at m
    exact R.callM mixed [.win 3 0 6 false] m (by kernel_rfl) (by kernel_rfl) rfl <| R.call mixed (c_side ax ay bx b_ px py) (by kernel_rfl) <| R.fin mixed Tryz.func14 (by kernel_rfl)
  | false =>
    rw [h] at m
    exact R.callM mixed [.win 3 0 6 false] m (by kernel_rfl) (by kernel_rfl) rfl <| R.fin mixed Tryz.func14 (by kernel_rfl)

/-- Of points that may be: the sides. -/
theorem c_edgeOk {ax ay bx b_ px py : Int} (h : ok3 ax ay bx b_ px py = true) : Con Tryz.prog 14 [PT ax ay, PT bx b_, PT px py] (.tuple ⟨[.int .i64 (sideR ax ay bx b_ px py), .int .i64 0]⟩) := by
  have := c_edge ax ay bx b_ px py
  rw [h] at this
  exact this
theorem c_edgeNo {ax ay bx b_ px py : Int} (h : ok3 ax ay bx b_ px py = false) : Con Tryz.prog 14 [PT ax ay, PT bx b_, PT px py] (.tuple ⟨[.int .i64 0, .int .i64 3]⟩) := by
  have := c_edge ax ay bx b_ px py
  rw [h] at this
  exact this

abbrev T6 (ax ay bx b_ cx cy : Int) : Value := .agg ⟨[.int .i64 ax, .int .i64 ay, .int .i64 bx, .int .i64 b_, .int .i64 cx, .int .i64 cy]⟩
theorem c_weights {ax ay bx b_ cx cy px py : Int} (ha : okP ax ay = true) (hb : okP bx b_ = true) (hc : okP cx cy = true) (hp : okP px py = true) :
    Con Tryz.prog 47 [T6 ax ay bx b_ cx cy, PT px py] (.tuple ⟨[.agg ⟨[.int .i64 (sideR bx b_ cx cy px py), .int .i64 (sideR cx cy ax ay px py), .int .i64 (sideR ax ay bx b_ px py)]⟩, .int .i64 0]⟩) := by
  have k1 : ok3 bx b_ cx cy px py = true := by simp [ok3, hb, hc, hp]
  have k2 : ok3 cx cy ax ay px py = true := by simp [ok3, ha, hc, hp]
  have k3 : ok3 ax ay bx b_ px py = true := by simp [ok3, ha, hb, hp]
  exact Con.run Tryz.func47 rfl rfl <| R.call mixed (c_edgeOk k1) (by kernel_rfl) <| R.call mixed (c_edgeOk k2) (by kernel_rfl) <| R.call mixed (c_edgeOk k3) (by kernel_rfl) <| R.fin mixed Tryz.func47 (by kernel_rfl)
/-! ### Numbers that may be mixed -/
def okM (w v : Int) : Prop := 0 ≤ w ∧ w ≤ 4398046511104 ∧ -1073741824 ≤ v ∧ v ≤ 1073741824
def mayM (w0 w1 w2 v0 v1 v2 : Int) : Prop := okM w0 v0 ∧ okM w1 v1 ∧ okM w2 v2 ∧ 0 < w0 + w1 + w2
instance (w0 w1 w2 v0 v1 v2 : Int) : Decidable (mayM w0 w1 w2 v0 v1 v2) := by unfold mayM okM; infer_instance
abbrev A3 (a b c : Int) : Value := .agg ⟨[.int .i64 a, .int .i64 b, .int .i64 c]⟩

theorem scaled {w v lo hi : Int} (hw : 0 ≤ w) (h1 : lo ≤ v) (h2 : v ≤ hi) : w * lo ≤ w * v ∧ w * v ≤ w * hi := ⟨Int.mul_le_mul_of_nonneg_left h1 hw, Int.mul_le_mul_of_nonneg_left h2 hw⟩

/-- What is mixed. -/
def mixed_ (w0 w1 w2 v0 v1 v2 : Int) : Int := (w0 * v0 + w1 * v1 + w2 * v2) / (w0 + w1 + w2)

theorem mixed_range {w0 w1 w2 v0 v1 v2 lo hi : Int} (w0_ : 0 ≤ w0) (w1_ : 0 ≤ w1) (w2_ : 0 ≤ w2) (hs : 0 < w0 + w1 + w2) (h0 : 0 < w0 → lo ≤ v0 ∧ v0 ≤ hi) (h1 : 0 < w1 → lo ≤ v1 ∧ v1 ≤ hi) (h2 : 0 < w2 → lo ≤ v2 ∧ v2 ≤ hi) :
    lo ≤ mixed_ w0 w1 w2 v0 v1 v2 ∧ mixed_ w0 w1 w2 v0 v1 v2 ≤ hi := by
  have one : ∀ {w v : Int}, 0 ≤ w → (0 < w → lo ≤ v ∧ v ≤ hi) → w * lo ≤ w * v ∧ w * v ≤ w * hi := fun {w v} hw h => by
    rcases Int.lt_or_le 0 w with hw2 | hw2
    · exact scaled hw (h hw2).1 (h hw2).2
    · have : w = 0 := by omega
      subst this
      simp
  have a0 := one w0_ h0
  have a1 := one w1_ h1
  have a2 := one w2_ h2
  have e1 : (w0 + w1 + w2) * lo = w0 * lo + w1 * lo + w2 * lo := by rw [Int.add_mul, Int.add_mul]
  have e2 : (w0 + w1 + w2) * hi = w0 * hi + w1 * hi + w2 * hi := by rw [Int.add_mul, Int.add_mul]
  unfold mixed_
  constructor
  · refine Int.le_ediv_of_mul_le hs ?_
    rw [Int.mul_comm]; omega
  · refine Int.lt_add_one_iff.1 (Int.ediv_lt_of_lt_mul hs ?_)
    rw [Int.add_mul hi 1, Int.one_mul, Int.mul_comm hi]; omega

theorem c_mix {w0 w1 w2 v0 v1 v2 : Int} (a0 : -9223372036854775808 ≤ w0 ∧ w0 ≤ 9223372036854775807) (a1 : -9223372036854775808 ≤ w1 ∧ w1 ≤ 9223372036854775807) (a2 : -9223372036854775808 ≤ w2 ∧ w2 ≤ 9223372036854775807)
    (b0 : -9223372036854775808 ≤ v0 ∧ v0 ≤ 9223372036854775807) (b1 : -9223372036854775808 ≤ v1 ∧ v1 ≤ 9223372036854775807) (b2 : -9223372036854775808 ≤ v2 ∧ v2 ≤ 9223372036854775807) (h : mayM w0 w1 w2 v0 v1 v2) :
    Con Tryz.prog 50 [A3 w0 w1 w2, A3 v0 v1 v2] (.tuple ⟨[.int .i64 (mixed_ w0 w1 w2 v0 v1 v2), .int .i64 0]⟩) := by
  obtain ⟨⟨p1, p2, p3, p4⟩, ⟨q1, q2, q3, q4⟩, ⟨r1, r2, r3, r4⟩, hs⟩ := h
  have s0 := scaled p1 p3 p4
  have s1 := scaled q1 q3 q4
  have s2 := scaled r1 r3 r4
  have hall : IntKind.i64.wrap (IntKind.i64.wrap (IntKind.i64.wrap (0 + w0) + w1) + w2) = w0 + w1 + w2 := by
    rw [wrap_i64_of (n := 0 + w0) (by omega) (by omega), wrap_i64_of (n := 0 + w0 + w1) (by omega) (by omega), wrap_i64_of (by omega) (by omega)]; omega
  have hr := mixed_range (v0 := v0) (v1 := v1) (v2 := v2) p1 q1 r1 hs (fun _ => ⟨p3, p4⟩) (fun _ => ⟨q3, q4⟩) (fun _ => ⟨r3, r4⟩)
  have hf : (0 + w0 * v0 + w1 * v1 + w2 * v2).fdiv (w0 + w1 + w2) = mixed_ w0 w1 w2 v0 v1 v2 := by
    rw [Int.fdiv_eq_ediv_of_nonneg _ (by omega), Int.zero_add]; rfl
  have hfit : fits ((0 + w0 * v0 + w1 * v1 + w2 * v2).fdiv (w0 + w1 + w2)) = true := by
    rw [hf]; simp [fits]; omega
  have hfin := mulDiv_in (c := w0 + w1 + w2) (by omega) hfit
  rw [hf] at hfin
  refine Con.run Tryz.func50 (by kernel_rfl) rfl ?_
  exact
      R.guardIs mixed 45 (decide (w0 < 0)) false (by first | (rw [hall]; simp; omega) | (simp; omega)) (by kernel_rfl) <|
      R.guardIs mixed 4 (bif false then true else decide (w0 > 4398046511104)) false (by first | (rw [hall]; simp; omega) | (simp; omega)) (by kernel_rfl) <|
      R.guardIs mixed 6 (bif false then true else decide (v0 < -1073741824)) false (by first | (rw [hall]; simp; omega) | (simp; omega)) (by kernel_rfl) <|
      R.cond mixed 6 (bif false then true else decide (v0 > 1073741824)) false (by first | (rw [hall]; simp; omega) | (simp; omega)) (by kernel_rfl) <|
      R.call mixed (Con.of Tryz.func88 rfl rfl (mul_ w0 v0 a0.1 a0.2 b0.1 b0.2)) (by kernel_rfl) <|
      R.call mixed (c_add 0 (w0 * v0)) (by kernel_rfl) <|
      R.guardIs mixed 30 (decide (w1 < 0)) false (by first | (rw [hall]; simp; omega) | (simp; omega)) (by kernel_rfl) <|
      R.guardIs mixed 4 (bif false then true else decide (w1 > 4398046511104)) false (by first | (rw [hall]; simp; omega) | (simp; omega)) (by kernel_rfl) <|
      R.guardIs mixed 6 (bif false then true else decide (v1 < -1073741824)) false (by first | (rw [hall]; simp; omega) | (simp; omega)) (by kernel_rfl) <|
      R.cond mixed 6 (bif false then true else decide (v1 > 1073741824)) false (by first | (rw [hall]; simp; omega) | (simp; omega)) (by kernel_rfl) <|
      R.call mixed (Con.of Tryz.func88 rfl rfl (mul_ w1 v1 a1.1 a1.2 b1.1 b1.2)) (by kernel_rfl) <|
      R.call mixed (c_add (0 + w0 * v0) (w1 * v1)) (by kernel_rfl) <|
      R.guardIs mixed 30 (decide (w2 < 0)) false (by first | (rw [hall]; simp; omega) | (simp; omega)) (by kernel_rfl) <|
      R.guardIs mixed 4 (bif false then true else decide (w2 > 4398046511104)) false (by first | (rw [hall]; simp; omega) | (simp; omega)) (by kernel_rfl) <|
      R.guardIs mixed 6 (bif false then true else decide (v2 < -1073741824)) false (by first | (rw [hall]; simp; omega) | (simp; omega)) (by kernel_rfl) <|
      R.cond mixed 6 (bif false then true else decide (v2 > 1073741824)) false (by first | (rw [hall]; simp; omega) | (simp; omega)) (by kernel_rfl) <|
      R.call mixed (Con.of Tryz.func88 rfl rfl (mul_ w2 v2 a2.1 a2.2 b2.1 b2.2)) (by kernel_rfl) <|
      R.call mixed (c_add (0 + w0 * v0 + w1 * v1) (w2 * v2)) (by kernel_rfl) <|
      R.cond mixed 21 (IntKind.i64.wrap (IntKind.i64.wrap (IntKind.i64.wrap (0 + w0) + w1) + w2) == 0) false (by first | (rw [hall]; simp; omega) | (simp; omega)) (by kernel_rfl) <|
      R.call mixed (c_floor (0 + w0 * v0 + w1 * v1 + w2 * v2) (IntKind.i64.wrap (IntKind.i64.wrap (IntKind.i64.wrap (0 + w0) + w1) + w2)) (by omega) (by omega) (wrap_i64_lo _) (wrap_i64_hi _)) (by kernel_rfl) <|
      R.finIs mixed Tryz.func50 (Value.tuple ⟨[Value.int IntKind.i64 (floorN (0 + w0 * v0 + w1 * v1 + w2 * v2) (IntKind.i64.wrap (IntKind.i64.wrap (IntKind.i64.wrap (0 + w0) + w1) + w2))), Value.int IntKind.i64 (floorE (0 + w0 * v0 + w1 * v1 + w2 * v2) (IntKind.i64.wrap (IntKind.i64.wrap (IntKind.i64.wrap (0 + w0) + w1) + w2)))]⟩) (by kernel_rfl) (by rw [hall, hfin.1, hfin.2])

end

section
open Go Go.Dt Go.Proofs Go.Proofs.YtfkmhhbpomkakaaGreat.Wide
set_option linter.unusedVariables false

theorem mix_parts {w v : Int} (h : okM w v) : IntKind.i64.wrap (w * (v / 32768)) = w * (v / 32768) ∧ IntKind.i64.wrap (w * IntKind.i64.wrap (v - IntKind.i64.wrap (32768 * (v / 32768)))) = w * v - w * (v / 32768) * 32768 ∧
    -(w * 32768) ≤ w * (v / 32768) ∧ w * (v / 32768) ≤ w * 32768 ∧ 0 ≤ w * v - w * (v / 32768) * 32768 ∧ w * v - w * (v / 32768) * 32768 ≤ w * 32767 := by
  obtain ⟨w0, w1, v0, v1⟩ := h
  have s1 := scaled w0 (show -32768 ≤ v / 32768 by omega) (show v / 32768 ≤ 32768 by omega)
  have s2 := scaled w0 (show 0 ≤ v - 32768 * (v / 32768) by omega) (show v - 32768 * (v / 32768) ≤ 32767 by omega)
  have e : w * (v - 32768 * (v / 32768)) = w * v - w * (v / 32768) * 32768 := by
    rw [Int.mul_sub, Int.mul_comm 32768 (v / 32768), Int.mul_assoc]
  rw [wrap_i64_of (n := 32768 * (v / 32768)) (by omega) (by omega), wrap_i64_of (n := v - 32768 * (v / 32768)) (by omega) (by omega), e]
  rw [e] at s2
  exact ⟨wrap_i64_of (by omega) (by omega), wrap_i64_of (by omega) (by omega), by omega, by omega, by omega, by omega⟩

theorem c_rmix {w0 w1 w2 v0 v1 v2 : Int} (h : mayM w0 w1 w2 v0 v1 v2) : Con Tryz.prog 66 [A3 w0 w1 w2, A3 v0 v1 v2] (.int .i64 (mixed_ w0 w1 w2 v0 v1 v2)) := by
  obtain ⟨m0, m1, m2, hs⟩ := h
  obtain ⟨a1, a2, a3, a4, a5, a6⟩ := mix_parts m0
  obtain ⟨b1, b2, b3, b4, b5, b6⟩ := mix_parts m1
  obtain ⟨c1, c2, c3, c4, c5, c6⟩ := mix_parts m2
  obtain ⟨p1, p2, p3, p4⟩ := m0
  obtain ⟨q1, q2, q3, q4⟩ := m1
  obtain ⟨r1, r2, r3, r4⟩ := m2
  have hall : IntKind.i64.wrap (IntKind.i64.wrap (w0 + w1) + w2) = w0 + w1 + w2 := by rw [wrap_i64_of (n := w0 + w1) (by omega) (by omega), wrap_i64_of (by omega) (by omega)]
  have hhi : IntKind.i64.wrap (IntKind.i64.wrap (IntKind.i64.wrap (0 + IntKind.i64.wrap (w0 * (v0 / 32768))) + IntKind.i64.wrap (w1 * (v1 / 32768))) + IntKind.i64.wrap (w2 * (v2 / 32768))) = w0 * (v0 / 32768) + w1 * (v1 / 32768) + w2 * (v2 / 32768) := by
    rw [a1, b1, c1, Int.zero_add, wrap_i64_of (n := w0 * (v0 / 32768)) (by omega) (by omega), wrap_i64_of (n := w0 * (v0 / 32768) + w1 * (v1 / 32768)) (by omega) (by omega), wrap_i64_of (by omega) (by omega)]
  have hlo : IntKind.i64.wrap (IntKind.i64.wrap (IntKind.i64.wrap (0 + IntKind.i64.wrap (w0 * IntKind.i64.wrap (v0 - IntKind.i64.wrap (32768 * (v0 / 32768))))) + IntKind.i64.wrap (w1 * IntKind.i64.wrap (v1 - IntKind.i64.wrap (32768 * (v1 / 32768))))) + IntKind.i64.wrap (w2 * IntKind.i64.wrap (v2 - IntKind.i64.wrap (32768 * (v2 / 32768))))) =
      w0 * v0 + w1 * v1 + w2 * v2 - (w0 * (v0 / 32768) + w1 * (v1 / 32768) + w2 * (v2 / 32768)) * 32768 := by
    rw [a2, b2, c2, Int.zero_add, wrap_i64_of (n := w0 * v0 - w0 * (v0 / 32768) * 32768) (by omega) (by omega), wrap_i64_of (n := w0 * v0 - w0 * (v0 / 32768) * 32768 + (w1 * v1 - w1 * (v1 / 32768) * 32768)) (by omega) (by omega), wrap_i64_of (by omega) (by omega)]
    omega
  have lo0 : 0 ≤ w0 * v0 + w1 * v1 + w2 * v2 - (w0 * (v0 / 32768) + w1 * (v1 / 32768) + w2 * (v2 / 32768)) * 32768 := by omega
  have lo1 : w0 * v0 + w1 * v1 + w2 * v2 - (w0 * (v0 / 32768) + w1 * (v1 / 32768) + w2 * (v2 / 32768)) * 32768 ≤ (w0 + w1 + w2) * 32767 := by omega
  have hi0 : -((w0 + w1 + w2) * 32768) ≤ w0 * (v0 / 32768) + w1 * (v1 / 32768) + w2 * (v2 / 32768) := by omega
  have hi1 : w0 * (v0 / 32768) + w1 * (v1 / 32768) + w2 * (v2 / 32768) ≤ (w0 + w1 + w2) * 32768 := by omega
  have all1 : w0 + w1 + w2 ≤ 13194139533312 := by omega
  have hc : Con Tryz.prog 69 [.int .i64 (IntKind.i64.wrap (IntKind.i64.wrap (IntKind.i64.wrap (0 + IntKind.i64.wrap (w0 * (v0 / 32768))) + IntKind.i64.wrap (w1 * (v1 / 32768))) + IntKind.i64.wrap (w2 * (v2 / 32768)))), .int .i64 (IntKind.i64.wrap (IntKind.i64.wrap (w0 + w1) + w2))]
      (.int .i64 ((w0 * (v0 / 32768) + w1 * (v1 / 32768) + w2 * (v2 / 32768)) / (w0 + w1 + w2))) := by
    rw [hall, hhi]
    exact c_floor1 _ _ (by omega) (by omega) hs (by omega)
  unfold mixed_
  have k0 : Con Tryz.prog 69 [.int .i64 v0, .int .i64 32768] (.int .i64 (v0 / 32768)) := c_floor1 v0 32768 (by omega) (by omega) (by omega) (by omega)
  have k1 : Con Tryz.prog 69 [.int .i64 v1, .int .i64 32768] (.int .i64 (v1 / 32768)) := c_floor1 v1 32768 (by omega) (by omega) (by omega) (by omega)
  have k2 : Con Tryz.prog 69 [.int .i64 v2, .int .i64 32768] (.int .i64 (v2 / 32768)) := c_floor1 v2 32768 (by omega) (by omega) (by omega) (by omega)
  have hq0 := Int.le_ediv_of_mul_le (a := -32768) (b := w0 * (v0 / 32768) + w1 * (v1 / 32768) + w2 * (v2 / 32768)) hs (by omega)
  have hq1 := Int.ediv_lt_of_lt_mul (a := w0 * (v0 / 32768) + w1 * (v1 / 32768) + w2 * (v2 / 32768)) (b := 32769) hs (by omega)
  have em := Int.mul_ediv_add_emod (w0 * (v0 / 32768) + w1 * (v1 / 32768) + w2 * (v2 / 32768)) (w0 + w1 + w2)
  have em0 := Int.emod_nonneg (w0 * (v0 / 32768) + w1 * (v1 / 32768) + w2 * (v2 / 32768)) (b := w0 + w1 + w2) (by omega)
  have em1 := Int.emod_lt_of_pos (w0 * (v0 / 32768) + w1 * (v1 / 32768) + w2 * (v2 / 32768)) hs
  rw [Int.mul_comm] at em
  have fin_ : ∀ lo' hi' al, lo' = IntKind.i64.wrap (IntKind.i64.wrap (IntKind.i64.wrap (0 + IntKind.i64.wrap (w0 * IntKind.i64.wrap (v0 - IntKind.i64.wrap (32768 * (v0 / 32768))))) + IntKind.i64.wrap (w1 * IntKind.i64.wrap (v1 - IntKind.i64.wrap (32768 * (v1 / 32768))))) + IntKind.i64.wrap (w2 * IntKind.i64.wrap (v2 - IntKind.i64.wrap (32768 * (v2 / 32768))))) →
      hi' = IntKind.i64.wrap (IntKind.i64.wrap (IntKind.i64.wrap (0 + IntKind.i64.wrap (w0 * (v0 / 32768))) + IntKind.i64.wrap (w1 * (v1 / 32768))) + IntKind.i64.wrap (w2 * (v2 / 32768))) → al = IntKind.i64.wrap (IntKind.i64.wrap (w0 + w1) + w2) →
      (∃ X, Con Tryz.prog 69 [.int .i64 (IntKind.i64.wrap (IntKind.i64.wrap (IntKind.i64.wrap (hi' - IntKind.i64.wrap ((w0 * (v0 / 32768) + w1 * (v1 / 32768) + w2 * (v2 / 32768)) / (w0 + w1 + w2) * al)) * 32768) + lo')), .int .i64 al] (.int .i64 X) ∧
        IntKind.i64.wrap (IntKind.i64.wrap ((w0 * (v0 / 32768) + w1 * (v1 / 32768) + w2 * (v2 / 32768)) / (w0 + w1 + w2) * 32768) + X) = (w0 * v0 + w1 * v1 + w2 * v2) / (w0 + w1 + w2)) := by
    intro lo' hi' al e1 e2 e3
    rw [hlo] at e1
    rw [hhi] at e2
    rw [hall] at e3
    subst e1 e2 e3
    generalize hL : w0 * v0 + w1 * v1 + w2 * v2 - (w0 * (v0 / 32768) + w1 * (v1 / 32768) + w2 * (v2 / 32768)) * 32768 = L at *
    have hS : w0 * v0 + w1 * v1 + w2 * v2 = (w0 * (v0 / 32768) + w1 * (v1 / 32768) + w2 * (v2 / 32768)) * 32768 + L := by omega
    rw [hS]
    clear hS hL hc hlo hhi hall
    generalize w0 * (v0 / 32768) + w1 * (v1 / 32768) + w2 * (v2 / 32768) = Hi at *
    generalize w0 + w1 + w2 = al at *
    have ew : IntKind.i64.wrap (IntKind.i64.wrap (IntKind.i64.wrap (Hi - IntKind.i64.wrap (Hi / al * al)) * 32768) + L) = Hi % al * 32768 + L := by
      rw [wrap_i64_of (n := Hi / al * al) (by omega) (by omega), wrap_i64_of (n := Hi - Hi / al * al) (by omega) (by omega), wrap_i64_of (n := _ * 32768) (by omega) (by omega), wrap_i64_of (by omega) (by omega)]
      omega
    have x0 : 0 ≤ (Hi % al * 32768 + L) / al := Int.ediv_nonneg (by omega) (by omega)
    have x1 := Int.ediv_lt_of_lt_mul (a := Hi % al * 32768 + L) (b := 65536) hs (by omega)
    refine ⟨(Hi % al * 32768 + L) / al, ?_, ?_⟩
    · rw [ew]
      exact c_floor1 _ _ (by omega) (by omega) hs (by omega)
    · rw [wrap_i64_of (n := Hi / al * 32768) (by omega) (by omega), wrap_i64_of (by omega) (by omega)]
      have e4 : Hi * 32768 + L = Hi % al * 32768 + L + al * (Hi / al * 32768) := by
        rw [← Int.mul_assoc, Int.mul_comm al]
        omega
      rw [e4, Int.add_mul_ediv_left _ _ (by omega)]
      omega
  obtain ⟨X, hX, hv⟩ := fin_ _ _ _ rfl rfl rfl
  rw [← hv]
  exact Con.run Tryz.func66 (by kernel_rfl) rfl <| R.call mixed k0 (by kernel_rfl) <| R.call mixed k1 (by kernel_rfl) <| R.call mixed k2 (by kernel_rfl) <| R.call mixed hc (by kernel_rfl) <| R.call mixed hX (by kernel_rfl) <| R.fin mixed Tryz.func66 (by kernel_rfl)

end

end Go.Proofs.YtfkmhhbpomkakaaGreat.Bary
