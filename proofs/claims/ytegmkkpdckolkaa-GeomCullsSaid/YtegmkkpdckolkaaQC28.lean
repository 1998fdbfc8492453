/- Several texts in one: BA2z1, BB2z1, BC2z1. -/
import Derived.Test.YtegmkkpdckolkaaQC23
namespace Go.Proofs.Ytegmkkpdckolkaa.Bary

section
open Go Go.Dt Go.Proofs Go.Proofs.Ytegmkkpdckolkaa.Wide
set_option linter.unusedVariables false
set_option linter.unusedSimpArgs false

abbrev PT (x y : Int) : Value := .agg ⟨[.int .i64 x, .int .i64 y]⟩
def okP (x y : Int) : Bool := decide (-524288 ≤ x) && (decide (x ≤ 524288) && (decide (-524288 ≤ y) && decide (y ≤ 524288)))
theorem okP_iff {x y : Int} : okP x y = true ↔ -524288 ≤ x ∧ x ≤ 524288 ∧ -524288 ≤ y ∧ y ≤ 524288 := by simp [okP]
def sideR (ax ay bx b_ px py : Int) : Int := IntKind.i64.wrap (IntKind.i64.wrap (IntKind.i64.wrap (bx - ax) * IntKind.i64.wrap (py - ay)) - IntKind.i64.wrap (IntKind.i64.wrap (b_ - ay) * IntKind.i64.wrap (px - ax)))

theorem c_side (ax ay bx b_ px py : Int) : Con Try.prog 70 [PT ax ay, PT bx b_, PT px py] (.int .i64 (sideR ax ay bx b_ px py)) := Con.run Try.func70 rfl rfl (R.fin mixed Try.func70 (by kernel_rfl))
theorem c_rside (ax ay bx b_ px py : Int) : Con Try.prog 30 [PT ax ay, PT bx b_, PT px py] (.int .i64 (sideR ax ay bx b_ px py)) := Con.run Try.func30 rfl rfl (R.fin mixed Try.func30 (by kernel_rfl))
theorem c_low (a b : Int) : Con Try.prog 54 [.int .i64 a, .int .i64 b] (.int .i64 (if a < b then a else b)) := by
  refine Con.run Try.func54 rfl rfl (R.branch mixed 11 (decide (a < b)) (by kernel_rfl) (fun h => ?_) (fun h => ?_))
  · rw [if_pos (by simpa using h)]; exact R.fin mixed Try.func54 (by kernel_rfl)
  · rw [if_neg (by simpa using h)]; exact R.fin mixed Try.func54 (by kernel_rfl)
theorem c_high (a b : Int) : Con Try.prog 55 [.int .i64 a, .int .i64 b] (.int .i64 (if a > b then a else b)) := by
  refine Con.run Try.func55 rfl rfl (R.branch mixed 11 (decide (a > b)) (by kernel_rfl) (fun h => ?_) (fun h => ?_))
  · rw [if_pos (by simpa using h)]; exact R.fin mixed Try.func55 (by kernel_rfl)
  · rw [if_neg (by simpa using h)]; exact R.fin mixed Try.func55 (by kernel_rfl)

theorem tdiv_parts {a b : Int} (hb : 0 < b) : a.tdiv b * b + a.tmod b = a ∧ (0 ≤ a → 0 ≤ a.tmod b ∧ a.tmod b < b) ∧ (a < 0 → -b < a.tmod b ∧ a.tmod b ≤ 0) := by
  have e : a.tdiv b * b + a.tmod b = a := by
    have := Int.mul_tdiv_add_tmod a b
    rw [Int.mul_comm] at this
    exact this
  refine ⟨e, fun h => ?_, fun h => ?_⟩
  · rw [tmod_pos h]
    exact ⟨Int.emod_nonneg _ (by omega), Int.emod_lt_of_pos _ hb⟩
  · have e2 : a.tmod b = -((-a).tmod b) := by rw [Int.neg_tmod]; omega
    rw [e2, tmod_pos (show 0 ≤ -a by omega)]
    have h1 := Int.emod_nonneg (-a) (b := b) (by omega)
    have h2 := Int.emod_lt_of_pos (-a) hb
    omega

theorem floor_tdiv {a b : Int} (hb : 0 < b) : a / b = if a.tmod b < 0 then a.tdiv b - 1 else a.tdiv b := by
  obtain ⟨e, h1, h2⟩ := tdiv_parts (a := a) hb
  split
  · refine quot_of hb ?_ ?_
    · rw [Int.sub_mul, Int.one_mul]; omega
    · rw [Int.sub_add_cancel]; omega
  · refine quot_of hb ?_ ?_
    · omega
    · rw [Int.add_mul, Int.one_mul]; omega

theorem c_floor1 (a b : Int) (a1 : -9223372036854775808 ≤ a) (a2 : a ≤ 9223372036854775807) (hb : 0 < b) (b2 : b ≤ 9223372036854775807) : Con Try.prog 29 [.int .i64 a, .int .i64 b] (.int .i64 (a / b)) := by
  obtain ⟨e, h1, h2⟩ := tdiv_parts (a := a) hb
  have hb1 : (b == -1) = false := beq_eq_false_iff_ne.2 (by omega)
  have hp : decide (b > 0) = true := decide_eq_true hb
  have hn : decide (b < 0) = false := decide_eq_false (by omega)
  have ht : -9223372036854775808 ≤ a.tdiv b ∧ a.tdiv b ≤ 9223372036854775807 := by
    have := Int.natAbs_tdiv_le_natAbs a b
    have h3 : a.tdiv b ≤ 9223372036854775807 := by
      rcases Int.lt_or_le (a.tdiv b) 9223372036854775808 with h | h
      · omega
      · have := Int.mul_le_mul_of_nonneg_right h (show 0 ≤ b by omega)
        omega
    omega
  have w1 : IntKind.i64.wrap (a.tdiv b) = a.tdiv b := wrap_i64_of ht.1 ht.2
  have w2 : IntKind.i64.wrap (a - IntKind.i64.wrap (a.tdiv b * b)) = a.tmod b := by
    simp only [IntKind.wrap_i64]
    rcases Int.lt_or_le a 0 with h | h
    · have := h2 h; omega
    · have := h1 h; omega
  have hF := floor_tdiv (a := a) hb
  rcases Int.lt_or_le (a.tmod b) 0 with hm | hm
  · rw [if_pos hm] at hF
    have w3 : IntKind.i64.wrap (a.tdiv b - 1) = a.tdiv b - 1 := by
      refine wrap_i64_of ?_ (by omega)
      rcases Int.lt_or_le (a.tdiv b) (-9223372036854775807) with h | h
      · have := Int.mul_le_mul_of_nonneg_right (show a.tdiv b ≤ -9223372036854775808 by omega) (show 0 ≤ b by omega)
        omega
      · omega
    rw [hF, ← w3]
    refine Con.run Try.func29 (by kernel_rfl) rfl ?_
    rcases Decidable.em (a = -9223372036854775808) with h | h
    · refine R.guardIs mixed 10 (a == -9223372036854775808) true (by simp [h]) (by kernel_rfl) <| R.cond mixed 4 (bif true then b == -1 else false) false hb1 (by kernel_rfl) <|
        R.divIs mixed 5 false .i64 a b (a.tdiv b) (by omega) (by rw [cond_false, w1]) (by kernel_rfl) <|
        R.guardIs mixed 17 (decide (IntKind.i64.wrap (a - IntKind.i64.wrap (a.tdiv b * b)) < 0)) true (by rw [w2]; exact decide_eq_true hm) (by kernel_rfl) <| R.guardIs mixed 4 (bif true then decide (b > 0) else false) true hp (by kernel_rfl) <| R.fin mixed Try.func29 (by kernel_rfl)
    · refine R.guardIs mixed 10 (a == -9223372036854775808) false (by simp [h]) (by kernel_rfl) <|
        R.divIs mixed 10 false .i64 a b (a.tdiv b) (by omega) (by rw [cond_false, w1]) (by kernel_rfl) <|
        R.guardIs mixed 17 (decide (IntKind.i64.wrap (a - IntKind.i64.wrap (a.tdiv b * b)) < 0)) true (by rw [w2]; exact decide_eq_true hm) (by kernel_rfl) <| R.guardIs mixed 4 (bif true then decide (b > 0) else false) true hp (by kernel_rfl) <| R.fin mixed Try.func29 (by kernel_rfl)
  · rw [if_neg (by omega)] at hF
    rw [hF]
    refine Con.run Try.func29 (by kernel_rfl) rfl ?_
    rcases Decidable.em (a = -9223372036854775808) with h | h
    · refine R.guardIs mixed 10 (a == -9223372036854775808) true (by simp [h]) (by kernel_rfl) <| R.cond mixed 4 (bif true then b == -1 else false) false hb1 (by kernel_rfl) <|
        R.divIs mixed 5 false .i64 a b (a.tdiv b) (by omega) (by rw [cond_false, w1]) (by kernel_rfl) <|
        R.guardIs mixed 17 (decide (IntKind.i64.wrap (a - IntKind.i64.wrap (a.tdiv b * b)) < 0)) false (by rw [w2]; exact decide_eq_false (by omega)) (by kernel_rfl) ?_
      rcases Decidable.em (a.tmod b > 0) with h3 | h3
      · exact R.guardIs mixed 7 (decide (IntKind.i64.wrap (a - IntKind.i64.wrap (a.tdiv b * b)) > 0)) true (by rw [w2]; exact decide_eq_true h3) (by kernel_rfl) <| R.cond mixed 5 (bif false then true else bif true then decide (b < 0) else false) false hn (by kernel_rfl) <| R.fin mixed Try.func29 (by kernel_rfl)
      · exact R.guardIs mixed 7 (decide (IntKind.i64.wrap (a - IntKind.i64.wrap (a.tdiv b * b)) > 0)) false (by rw [w2]; exact decide_eq_false h3) (by kernel_rfl) <| R.fin mixed Try.func29 (by kernel_rfl)
    · refine R.guardIs mixed 10 (a == -9223372036854775808) false (by simp [h]) (by kernel_rfl) <|
        R.divIs mixed 10 false .i64 a b (a.tdiv b) (by omega) (by rw [cond_false, w1]) (by kernel_rfl) <|
        R.guardIs mixed 17 (decide (IntKind.i64.wrap (a - IntKind.i64.wrap (a.tdiv b * b)) < 0)) false (by rw [w2]; exact decide_eq_false (by omega)) (by kernel_rfl) ?_
      rcases Decidable.em (a.tmod b > 0) with h3 | h3
      · exact R.guardIs mixed 7 (decide (IntKind.i64.wrap (a - IntKind.i64.wrap (a.tdiv b * b)) > 0)) true (by rw [w2]; exact decide_eq_true h3) (by kernel_rfl) <| R.cond mixed 5 (bif false then true else bif true then decide (b < 0) else false) false hn (by kernel_rfl) <| R.fin mixed Try.func29 (by kernel_rfl)
      · exact R.guardIs mixed 7 (decide (IntKind.i64.wrap (a - IntKind.i64.wrap (a.tdiv b * b)) > 0)) false (by rw [w2]; exact decide_eq_false h3) (by kernel_rfl) <| R.fin mixed Try.func29 (by kernel_rfl)

end

section
open Go Go.Dt Go.Proofs Go.Proofs.Ytegmkkpdckolkaa.Wide
set_option linter.unusedVariables false
set_option linter.unusedSimpArgs false

/-! ### Points that may be -/
def pts3 (ax ay bx b_ px py : Int) : List Blk := [.cells [.int .i64 ax, .int .i64 ay, .int .i64 bx, .int .i64 b_, .int .i64 px, .int .i64 py] 0 false]
def ok3 (ax ay bx b_ px py : Int) : Bool := okP ax ay && (okP bx b_ && okP px py)

theorem c_may3 (ax ay bx b_ px py : Int) : ConM Try.prog 69 [.slice (some ⟨0, 0, none⟩) 3 3] (pts3 ax ay bx b_ px py) (.bool (ok3 ax ay bx b_ px py)) (List.replicate 1 .gone) :=
  ConM.reads Try.func69 rfl rfl <|
    RunsE.adv mixed 35 <| RunsE.guard 14 (decide (ax < -524288)) (by kernel_rfl)
     (fun h0 =>
       R.finIs mixed Try.func69 (Value.bool false) (by kernel_rfl) (by simp_all [ok3, okP] <;> omega)
     )
     (fun h0 =>
       RunsE.adv mixed 5 <| RunsE.guard 19 (bif false then true else decide (ax > 524288)) (by kernel_rfl)
        (fun h1 =>
          R.finIs mixed Try.func69 (Value.bool false) (by kernel_rfl) (by simp_all [ok3, okP] <;> omega)
        )
        (fun h1 =>
          RunsE.adv mixed 5 <| RunsE.guard 24 (bif false then true else decide (ay < -524288)) (by kernel_rfl)
           (fun h2 =>
             R.finIs mixed Try.func69 (Value.bool false) (by kernel_rfl) (by simp_all [ok3, okP] <;> omega)
           )
           (fun h2 =>
             RunsE.adv mixed 5 <| RunsE.branch (bif false then true else decide (ay > 524288)) (by kernel_rfl)
              (fun h3 =>
                R.finIs mixed Try.func69 (Value.bool false) (by kernel_rfl) (by simp_all [ok3, okP] <;> omega)
              )
              (fun h3 =>
                RunsE.adv mixed 29 <| RunsE.guard 14 (decide (bx < -524288)) (by kernel_rfl)
                 (fun h4 =>
                   R.finIs mixed Try.func69 (Value.bool false) (by kernel_rfl) (by simp_all [ok3, okP] <;> omega)
                 )
                 (fun h4 =>
                   RunsE.adv mixed 5 <| RunsE.guard 19 (bif false then true else decide (bx > 524288)) (by kernel_rfl)
                    (fun h5 =>
                      R.finIs mixed Try.func69 (Value.bool false) (by kernel_rfl) (by simp_all [ok3, okP] <;> omega)
                    )
                    (fun h5 =>
                      RunsE.adv mixed 5 <| RunsE.guard 24 (bif false then true else decide (b_ < -524288)) (by kernel_rfl)
                       (fun h6 =>
                         R.finIs mixed Try.func69 (Value.bool false) (by kernel_rfl) (by simp_all [ok3, okP] <;> omega)
                       )
                       (fun h6 =>
                         RunsE.adv mixed 5 <| RunsE.branch (bif false then true else decide (b_ > 524288)) (by kernel_rfl)
                          (fun h7 =>
                            R.finIs mixed Try.func69 (Value.bool false) (by kernel_rfl) (by simp_all [ok3, okP] <;> omega)
                          )
                          (fun h7 =>
                            RunsE.adv mixed 29 <| RunsE.guard 14 (decide (px < -524288)) (by kernel_rfl)
                             (fun h8 =>
                               R.finIs mixed Try.func69 (Value.bool false) (by kernel_rfl) (by simp_all [ok3, okP] <;> omega)
                             )
                             (fun h8 =>
                               RunsE.adv mixed 5 <| RunsE.guard 19 (bif false then true else decide (px > 524288)) (by kernel_rfl)
                                (fun h9 =>
                                  R.finIs mixed Try.func69 (Value.bool false) (by kernel_rfl) (by simp_all [ok3, okP] <;> omega)
                                )
                                (fun h9 =>
                                  RunsE.adv mixed 5 <| RunsE.guard 24 (bif false then true else decide (py < -524288)) (by kernel_rfl)
                                   (fun h10 =>
                                     R.finIs mixed Try.func69 (Value.bool false) (by kernel_rfl) (by simp_all [ok3, okP] <;> omega)
                                   )
                                   (fun h10 =>
                                     RunsE.adv mixed 5 <| RunsE.branch (bif false then true else decide (py > 524288)) (by kernel_rfl)
                                      (fun h11 =>
                                        R.finIs mixed Try.func69 (Value.bool false) (by kernel_rfl) (by simp_all [ok3, okP] <;> omega)
                                      )
                                      (fun h11 =>
                                        R.finIs mixed Try.func69 (Value.bool true) (by kernel_rfl) (by simp_all [ok3, okP] <;> omega)
                                      )
                                   )
                                )
                             )
                          )
                       )
                    )
                 )
              )
           )
        )
     )

theorem c_edge (ax ay bx b_ px py : Int) : Con Try.prog 51 [PT ax ay, PT bx b_, PT px py] (.tuple ⟨[.int .i64 (bif ok3 ax ay bx b_ px py then sideR ax ay bx b_ px py else 0), .int .i64 (bif ok3 ax ay bx b_ px py then 0 else 3)]⟩) := by
  have m := c_may3 ax ay bx b_ px py
  refine Con.run Try.func51 rfl rfl ?_
  cases h : ok3 ax ay bx b_ px py with
  | true =>
    rw [h] at m
    exact R.callM mixed [.win 3 0 6 false] m (by kernel_rfl) (by kernel_rfl) rfl <| R.call mixed (c_side ax ay bx b_ px py) (by kernel_rfl) <| R.fin mixed Try.func51 (by kernel_rfl)
  | false =>
    rw [h] at m
    exact R.callM mixed [.win 3 0 6 false] m (by kernel_rfl) (by kernel_rfl) rfl <| R.fin mixed Try.func51 (by kernel_rfl)

/-- Of points that may be: the sides. -/
theorem c_edgeOk {ax ay bx b_ px py : Int} (h : ok3 ax ay bx b_ px py = true) : Con Try.prog 51 [PT ax ay, PT bx b_, PT px py] (.tuple ⟨[.int .i64 (sideR ax ay bx b_ px py), .int .i64 0]⟩) := by
  have := c_edge ax ay bx b_ px py
  rw [h] at this
  exact this
theorem c_edgeNo {ax ay bx b_ px py : Int} (h : ok3 ax ay bx b_ px py = false) : Con Try.prog 51 [PT ax ay, PT bx b_, PT px py] (.tuple ⟨[.int .i64 0, .int .i64 3]⟩) := by
  have := c_edge ax ay bx b_ px py
  rw [h] at this
  exact this

/-! ### Numbers that may be mixed -/
def okM (w v : Int) : Prop := 0 ≤ w ∧ w ≤ 4398046511104 ∧ -1073741824 ≤ v ∧ v ≤ 1073741824
def mayM (w0 w1 w2 v0 v1 v2 : Int) : Prop := okM w0 v0 ∧ okM w1 v1 ∧ okM w2 v2 ∧ 0 < w0 + w1 + w2
instance (w0 w1 w2 v0 v1 v2 : Int) : Decidable (mayM w0 w1 w2 v0 v1 v2) := by unfold mayM okM; infer_instance
end

section
open Go Go.Dt Go.Proofs Go.Proofs.Ytegmkkpdckolkaa.Wide
set_option linter.unusedVariables false

end

end Go.Proofs.Ytegmkkpdckolkaa.Bary
