/- Points, sides, floors: the contracts. -/
import Derived.Test.YtfkmhhbpomkakaaWP2
namespace Go.Proofs.Ytfkmhhbpomkakaa.Bary
open Go Go.Dt Go.Proofs Go.Proofs.Ytfkmhhbpomkakaa.Wide
set_option linter.unusedVariables false
set_option linter.unusedSimpArgs false

abbrev PT (x y : Int) : Value := .agg ⟨[.int .i64 x, .int .i64 y]⟩
def okP (x y : Int) : Bool := decide (-524288 ≤ x) && (decide (x ≤ 524288) && (decide (-524288 ≤ y) && decide (y ≤ 524288)))
theorem okP_iff {x y : Int} : okP x y = true ↔ -524288 ≤ x ∧ x ≤ 524288 ∧ -524288 ≤ y ∧ y ≤ 524288 := by simp [okP]
def sideI (ax ay bx b_ px py : Int) : Int := (bx - ax) * (py - ay) - (b_ - ay) * (px - ax)
def sideR (ax ay bx b_ px py : Int) : Int := IntKind.i64.wrap (IntKind.i64.wrap (IntKind.i64.wrap (bx - ax) * IntKind.i64.wrap (py - ay)) - IntKind.i64.wrap (IntKind.i64.wrap (b_ - ay) * IntKind.i64.wrap (px - ax)))

theorem mul_abs {a b m n : Int} (h1 : -m ≤ a) (h2 : a ≤ m) (h3 : -n ≤ b) (h4 : b ≤ n) : -(m * n) ≤ a * b ∧ a * b ≤ m * n := by
  have h : (a * b).natAbs ≤ m.natAbs * n.natAbs := by
    rw [Int.natAbs_mul]
    exact Nat.mul_le_mul (by omega) (by omega)
  have e : ((m.natAbs * n.natAbs : Nat) : Int) = m * n := by
    rw [Int.natCast_mul]
    congr 1 <;> omega
  omega

theorem side_bounds {ax ay bx b_ px py : Int} (ha : okP ax ay = true) (hb : okP bx b_ = true) (hp : okP px py = true) : -2199023255552 ≤ sideI ax ay bx b_ px py ∧ sideI ax ay bx b_ px py ≤ 2199023255552 := by
  rw [okP_iff] at ha hb hp
  have h1 := mul_abs (a := bx - ax) (b := py - ay) (m := 1048576) (n := 1048576) (by omega) (by omega) (by omega) (by omega)
  have h2 := mul_abs (a := b_ - ay) (b := px - ax) (m := 1048576) (n := 1048576) (by omega) (by omega) (by omega) (by omega)
  unfold sideI
  omega

theorem sideR_ {ax ay bx b_ px py : Int} (ha : okP ax ay = true) (hb : okP bx b_ = true) (hp : okP px py = true) : sideR ax ay bx b_ px py = sideI ax ay bx b_ px py := by
  rw [okP_iff] at ha hb hp
  have h1 := mul_abs (a := bx - ax) (b := py - ay) (m := 1048576) (n := 1048576) (by omega) (by omega) (by omega) (by omega)
  have h2 := mul_abs (a := b_ - ay) (b := px - ax) (m := 1048576) (n := 1048576) (by omega) (by omega) (by omega) (by omega)
  unfold sideR sideI
  rw [wrap_i64_of (n := bx - ax) (by omega) (by omega), wrap_i64_of (n := py - ay) (by omega) (by omega), wrap_i64_of (n := b_ - ay) (by omega) (by omega), wrap_i64_of (n := px - ax) (by omega) (by omega),
    wrap_i64_of (n := (bx - ax) * (py - ay)) (by omega) (by omega), wrap_i64_of (n := (b_ - ay) * (px - ax)) (by omega) (by omega), wrap_i64_of (by omega) (by omega)]

theorem c_side (ax ay bx b_ px py : Int) : Con Try.prog 100 [PT ax ay, PT bx b_, PT px py] (.int .i64 (sideR ax ay bx b_ px py)) := Con.run Try.func100 rfl rfl (R.fin mixed Try.func100 (by kernel_rfl))
theorem c_rside (ax ay bx b_ px py : Int) : Con Try.prog 30 [PT ax ay, PT bx b_, PT px py] (.int .i64 (sideR ax ay bx b_ px py)) := Con.run Try.func30 rfl rfl (R.fin mixed Try.func30 (by kernel_rfl))
theorem c_rweights (ax ay bx b_ cx cy px py : Int) : Con Try.prog 70 [PT ax ay, PT bx b_, PT cx cy, PT px py] (.agg ⟨[.int .i64 (sideR bx b_ cx cy px py), .int .i64 (sideR cx cy ax ay px py), .int .i64 (sideR ax ay bx b_ px py)]⟩) :=
  Con.run Try.func70 rfl rfl <| R.call mixed (c_rside bx b_ cx cy px py) (by kernel_rfl) <| R.call mixed (c_rside cx cy ax ay px py) (by kernel_rfl) <| R.call mixed (c_rside ax ay bx b_ px py) (by kernel_rfl) <| R.fin mixed Try.func70 (by kernel_rfl)

theorem c_low (a b : Int) : Con Try.prog 36 [.int .i64 a, .int .i64 b] (.int .i64 (if a < b then a else b)) := by
  refine Con.run Try.func36 rfl rfl (R.branch mixed 11 (decide (a < b)) (by kernel_rfl) (fun h => ?_) (fun h => ?_))
  · rw [if_pos (by simpa using h)]; exact R.fin mixed Try.func36 (by kernel_rfl)
  · rw [if_neg (by simpa using h)]; exact R.fin mixed Try.func36 (by kernel_rfl)
theorem c_high (a b : Int) : Con Try.prog 37 [.int .i64 a, .int .i64 b] (.int .i64 (if a > b then a else b)) := by
  refine Con.run Try.func37 rfl rfl (R.branch mixed 11 (decide (a > b)) (by kernel_rfl) (fun h => ?_) (fun h => ?_))
  · rw [if_pos (by simpa using h)]; exact R.fin mixed Try.func37 (by kernel_rfl)
  · rw [if_neg (by simpa using h)]; exact R.fin mixed Try.func37 (by kernel_rfl)

theorem c_mayP (x y : Int) : Con Try.prog 102 [PT x y] (.bool (okP x y)) :=
  Con.run Try.func102 rfl rfl <|
    RunsE.adv mixed 11 <| RunsE.guard 6 (decide (x ≥ -524288)) (by kernel_rfl)
     (fun h0 =>
       RunsE.adv mixed 5 <| RunsE.guard 11 (bif true then decide (x ≤ 524288) else false) (by kernel_rfl)
        (fun h1 =>
          RunsE.adv mixed 5 <| RunsE.guard 16 (bif true then decide (y ≥ -524288) else false) (by kernel_rfl)
           (fun h2 =>
             R.finIs mixed Try.func102 (Value.bool (bif true then decide (y ≤ 524288) else false)) (by kernel_rfl) (by simp_all [okP])
           )
           (fun h2 =>
             R.finIs mixed Try.func102 (Value.bool false) (by kernel_rfl) (by simp_all [okP]; omega)
           )
        )
        (fun h1 =>
          R.finIs mixed Try.func102 (Value.bool false) (by kernel_rfl) (by simp_all [okP]; omega)
        )
     )
     (fun h0 =>
       R.finIs mixed Try.func102 (Value.bool false) (by kernel_rfl) (by simp_all [okP]; omega)
     )

theorem tdiv_parts {a b : Int} (hb : 0 < b) : a.tdiv b * b + a.tmod b = a ∧ (0 ≤ a → 0 ≤ a.tmod b ∧ a.tmod b < b) ∧ (a < 0 → -b < a.tmod b ∧ a.tmod b ≤ 0) := by
  have e : a.tdiv b * b + a.tmod b = a := by
    have := Int.mul_tdiv_add_tmod a b
    rw [Int.mul_comm] at this
    exact this
  refine ⟨e, fun h => ?_, fun h => ?_⟩
  · rw [tmod_pos h]
    exact ⟨Int.emod_nonneg _ (by omega), Int.emod_lt_of_pos _ hb⟩
  · have e2 : a.tmod b = -((-a).tmod b) := by rw [Int.neg_tmod]; omega
    rw [e2, tmod_pos (show 0 ≤ -a by omega)]
    have h1 := Int.emod_nonneg (-a) (b := b) (by omega)
    have h2 := Int.emod_lt_of_pos (-a) hb
    omega

theorem floor_tdiv {a b : Int} (hb : 0 < b) : a / b = if a.tmod b < 0 then a.tdiv b - 1 else a.tdiv b := by
  obtain ⟨e, h1, h2⟩ := tdiv_parts (a := a) hb
  split
  · refine quot_of hb ?_ ?_
    · rw [Int.sub_mul, Int.one_mul]; omega
    · rw [Int.sub_add_cancel]; omega
  · refine quot_of hb ?_ ?_
    · omega
    · rw [Int.add_mul, Int.one_mul]; omega

theorem c_floor1 (a b : Int) (a1 : -9223372036854775808 ≤ a) (a2 : a ≤ 9223372036854775807) (hb : 0 < b) (b2 : b ≤ 9223372036854775807) : Con Try.prog 104 [.int .i64 a, .int .i64 b] (.int .i64 (a / b)) := by
  obtain ⟨e, h1, h2⟩ := tdiv_parts (a := a) hb
  have hb1 : (b == -1) = false := beq_eq_false_iff_ne.2 (by omega)
  have hp : decide (b > 0) = true := decide_eq_true hb
  have hn : decide (b < 0) = false := decide_eq_false (by omega)
  have ht : -9223372036854775808 ≤ a.tdiv b ∧ a.tdiv b ≤ 9223372036854775807 := by
    have := Int.natAbs_tdiv_le_natAbs a b
    have h3 : a.tdiv b ≤ 9223372036854775807 := by
      rcases Int.lt_or_le (a.tdiv b) 9223372036854775808 with h | h
      · omega
      · have := Int.mul_le_mul_of_nonneg_right h (show 0 ≤ b by omega)
        omega
    omega
  have w1 : IntKind.i64.wrap (a.tdiv b) = a.tdiv b := wrap_i64_of ht.1 ht.2
  have w2 : IntKind.i64.wrap (a - IntKind.i64.wrap (a.tdiv b * b)) = a.tmod b := by
    simp only [IntKind.wrap_i64]
    rcases Int.lt_or_le a 0 with h | h
    · have := h2 h; omega
    · have := h1 h; omega
  have hF := floor_tdiv (a := a) hb
  rcases Int.lt_or_le (a.tmod b) 0 with hm | hm
  · rw [if_pos hm] at hF
    have w3 : IntKind.i64.wrap (a.tdiv b - 1) = a.tdiv b - 1 := by
      refine wrap_i64_of ?_ (by omega)
      rcases Int.lt_or_le (a.tdiv b) (-9223372036854775807) with h | h
      · have := Int.mul_le_mul_of_nonneg_right (show a.tdiv b ≤ -9223372036854775808 by omega) (show 0 ≤ b by omega)
        omega
      · omega
    rw [hF, ← w3]
    refine Con.run Try.func104 (by kernel_rfl) rfl ?_
    rcases Decidable.em (a = -9223372036854775808) with h | h
    · refine R.guardIs mixed 10 (a == -9223372036854775808) true (by simp [h]) (by kernel_rfl) <| R.cond mixed 4 (bif true then b == -1 else false) false hb1 (by kernel_rfl) <|
        R.divIs mixed 5 false .i64 a b (a.tdiv b) (by omega) (by rw [cond_false, w1]) (by kernel_rfl) <|
        R.guardIs mixed 17 (decide (IntKind.i64.wrap (a - IntKind.i64.wrap (a.tdiv b * b)) < 0)) true (by rw [w2]; exact decide_eq_true hm) (by kernel_rfl) <| R.guardIs mixed 4 (bif true then decide (b > 0) else false) true hp (by kernel_rfl) <| R.fin mixed Try.func104 (by kernel_rfl)
    · refine R.guardIs mixed 10 (a == -9223372036854775808) false (by simp [h]) (by kernel_rfl) <|
        R.divIs mixed 10 false .i64 a b (a.tdiv b) (by omega) (by rw [cond_false, w1]) (by kernel_rfl) <|
        R.guardIs mixed 17 (decide (IntKind.i64.wrap (a - IntKind.i64.wrap (a.tdiv b * b)) < 0)) true (by rw [w2]; exact decide_eq_true hm) (by kernel_rfl) <| R.guardIs mixed 4 (bif true then decide (b > 0) else false) true hp (by kernel_rfl) <| R.fin mixed Try.func104 (by kernel_rfl)
  · rw [if_neg (by omega)] at hF
    rw [hF]
    refine Con.run Try.func104 (by kernel_rfl) rfl ?_
    rcases Decidable.em (a = -9223372036854775808) with h | h
    · refine R.guardIs mixed 10 (a == -9223372036854775808) true (by simp [h]) (by kernel_rfl) <| R.cond mixed 4 (bif true then b == -1 else false) false hb1 (by kernel_rfl) <|
        R.divIs mixed 5 false .i64 a b (a.tdiv b) (by omega) (by rw [cond_false, w1]) (by kernel_rfl) <|
        R.guardIs mixed 17 (decide (IntKind.i64.wrap (a - IntKind.i64.wrap (a.tdiv b * b)) < 0)) false (by rw [w2]; exact decide_eq_false (by omega)) (by kernel_rfl) ?_
      rcases Decidable.em (a.tmod b > 0) with h3 | h3
      · exact R.guardIs mixed 7 (decide (IntKind.i64.wrap (a - IntKind.i64.wrap (a.tdiv b * b)) > 0)) true (by rw [w2]; exact decide_eq_true h3) (by kernel_rfl) <| R.cond mixed 5 (bif false then true else bif true then decide (b < 0) else false) false hn (by kernel_rfl) <| R.fin mixed Try.func104 (by kernel_rfl)
      · exact R.guardIs mixed 7 (decide (IntKind.i64.wrap (a - IntKind.i64.wrap (a.tdiv b * b)) > 0)) false (by rw [w2]; exact decide_eq_false h3) (by kernel_rfl) <| R.fin mixed Try.func104 (by kernel_rfl)
    · refine R.guardIs mixed 10 (a == -9223372036854775808) false (by simp [h]) (by kernel_rfl) <|
        R.divIs mixed 10 false .i64 a b (a.tdiv b) (by omega) (by rw [cond_false, w1]) (by kernel_rfl) <|
        R.guardIs mixed 17 (decide (IntKind.i64.wrap (a - IntKind.i64.wrap (a.tdiv b * b)) < 0)) false (by rw [w2]; exact decide_eq_false (by omega)) (by kernel_rfl) ?_
      rcases Decidable.em (a.tmod b > 0) with h3 | h3
      · exact R.guardIs mixed 7 (decide (IntKind.i64.wrap (a - IntKind.i64.wrap (a.tdiv b * b)) > 0)) true (by rw [w2]; exact decide_eq_true h3) (by kernel_rfl) <| R.cond mixed 5 (bif false then true else bif true then decide (b < 0) else false) false hn (by kernel_rfl) <| R.fin mixed Try.func104 (by kernel_rfl)
      · exact R.guardIs mixed 7 (decide (IntKind.i64.wrap (a - IntKind.i64.wrap (a.tdiv b * b)) > 0)) false (by rw [w2]; exact decide_eq_false h3) (by kernel_rfl) <| R.fin mixed Try.func104 (by kernel_rfl)

end Go.Proofs.Ytfkmhhbpomkakaa.Bary
