/- Package tri and its reference: spots that may be, boxes, triangles set up. -/
import Derived.Test.YtegmkkpdckolkaaQC11
import Derived.Test.YtegmkkpdckolkaaQC28
namespace Go.Proofs.Ytegmkkpdckolkaa.Tri
open Go Go.Dt Go.Proofs Go.Proofs.Ytegmkkpdckolkaa.Wide Go.Proofs.Ytegmkkpdckolkaa.Bary
set_option linter.unusedVariables false
set_option linter.unusedSimpArgs false

abbrev S9 (x y z a b c d e f : Int) : Value := .agg ⟨[.int .i64 x, .int .i64 y, .int .i64 z, .int .i64 a, .int .i64 b, .int .i64 c, .int .i64 d, .int .i64 e, .int .i64 f]⟩
abbrev S27 (x0 y0 z0 a0 b0 c0 d0 e0 f0 x1 y1 z1 a1 b1 c1 d1 e1 f1 x2 y2 z2 a2 b2 c2 d2 e2 f2 : Int) : Value := .agg ⟨[.int .i64 x0, .int .i64 y0, .int .i64 z0, .int .i64 a0, .int .i64 b0, .int .i64 c0, .int .i64 d0, .int .i64 e0, .int .i64 f0, .int .i64 x1, .int .i64 y1, .int .i64 z1, .int .i64 a1, .int .i64 b1, .int .i64 c1, .int .i64 d1, .int .i64 e1, .int .i64 f1, .int .i64 x2, .int .i64 y2, .int .i64 z2, .int .i64 a2, .int .i64 b2, .int .i64 c2, .int .i64 d2, .int .i64 e2, .int .i64 f2]⟩
abbrev R4 (X0 Y0 X1 Y1 : Int) : Value := .agg ⟨[.int .i64 X0, .int .i64 Y0, .int .i64 X1, .int .i64 Y1]⟩
def ok20 (n : Int) : Prop := -1048576 ≤ n ∧ n ≤ 1048576
def restS (z a b c d e f : Int) : Prop := (0 ≤ z ∧ z ≤ 65535) ∧ ok20 a ∧ ok20 b ∧ ok20 c ∧ ok20 d ∧ ok20 e ∧ ok20 f
def mayS (x y z a b c d e f : Int) : Prop := okP x y = true ∧ restS z a b c d e f
instance (z a b c d e f : Int) : Decidable (restS z a b c d e f) := by unfold restS ok20; infer_instance
instance (x y z a b c d e f : Int) : Decidable (mayS x y z a b c d e f) := by unfold mayS; infer_instance

theorem c_mayS (x y z a b c d e f : Int) : Con Try.prog 50 [S9 x y z a b c d e f] (.bool (decide (mayS x y z a b c d e f))) := by
  refine Con.run Try.func50 (by kernel_rfl) rfl ?_
  cases hp : okP x y with
  | false =>
    rw [decide_eq_false (fun h => by rw [h.1] at hp; cases hp)]
    exact R.call mixed (c_edgeNo (ax := x) (ay := y) (bx := x) (b_ := y) (px := x) (py := y) (by simp [ok3, hp])) (by kernel_rfl) <| R.fin mixed Try.func50 (by kernel_rfl)
  | true =>
    rcases Decidable.em (restS z a b c d e f) with h | h
    · rw [decide_eq_true ⟨hp, h⟩]
      simp only [restS, ok20] at h
      exact
          R.call mixed (c_edgeOk (ax := x) (ay := y) (bx := x) (b_ := y) (px := x) (py := y) (by simp [ok3, hp])) (by kernel_rfl) <|
          R.guardIs mixed 16 (bif 0 != 0 then true else decide (z < 0)) false (by simp; omega) (by kernel_rfl) <|
          R.cond mixed 5 (bif false then true else decide (z > 65535)) false (by simp; omega) (by kernel_rfl) <|
          R.guardIs mixed 29 (decide (a < -1048576)) false (by simp; omega) (by kernel_rfl) <|
          R.cond mixed 4 (bif false then true else decide (a > 1048576)) false (by simp; omega) (by kernel_rfl) <|
          R.guardIs mixed 26 (decide (b < -1048576)) false (by simp; omega) (by kernel_rfl) <|
          R.cond mixed 4 (bif false then true else decide (b > 1048576)) false (by simp; omega) (by kernel_rfl) <|
          R.guardIs mixed 26 (decide (c < -1048576)) false (by simp; omega) (by kernel_rfl) <|
          R.cond mixed 4 (bif false then true else decide (c > 1048576)) false (by simp; omega) (by kernel_rfl) <|
          R.guardIs mixed 26 (decide (d < -1048576)) false (by simp; omega) (by kernel_rfl) <|
          R.cond mixed 4 (bif false then true else decide (d > 1048576)) false (by simp; omega) (by kernel_rfl) <|
          R.guardIs mixed 26 (decide (e < -1048576)) false (by simp; omega) (by kernel_rfl) <|
          R.cond mixed 4 (bif false then true else decide (e > 1048576)) false (by simp; omega) (by kernel_rfl) <|
          R.guardIs mixed 26 (decide (f < -1048576)) false (by simp; omega) (by kernel_rfl) <|
          R.cond mixed 4 (bif false then true else decide (f > 1048576)) false (by simp; omega) (by kernel_rfl) <|
          R.fin mixed Try.func50 (by kernel_rfl)
    · rw [decide_eq_false (fun k => h k.2)]
      simp only [restS, ok20] at h
      exact
          R.call mixed (c_edgeOk (ax := x) (ay := y) (bx := x) (b_ := y) (px := x) (py := y) (by simp [ok3, hp])) (by kernel_rfl) <|
          RunsE.adv mixed 16 <| RunsE.guard 24 (bif 0 != 0 then true else decide (z < 0)) (by kernel_rfl)
           (fun h0 =>
             R.finIs mixed Try.func50 (Value.bool false) (by kernel_rfl) (by first | rfl | (exfalso; simp at *; omega))
           )
           (fun h0 =>
             RunsE.adv mixed 5 <| RunsE.branch (bif false then true else decide (z > 65535)) (by kernel_rfl)
              (fun h1 =>
                R.finIs mixed Try.func50 (Value.bool false) (by kernel_rfl) (by first | rfl | (exfalso; simp at *; omega))
              )
              (fun h1 =>
                RunsE.adv mixed 29 <| RunsE.guard 36 (decide (a < -1048576)) (by kernel_rfl)
                 (fun h2 =>
                   R.finIs mixed Try.func50 (Value.bool false) (by kernel_rfl) (by first | rfl | (exfalso; simp at *; omega))
                 )
                 (fun h2 =>
                   RunsE.adv mixed 4 <| RunsE.branch (bif false then true else decide (a > 1048576)) (by kernel_rfl)
                    (fun h3 =>
                      R.finIs mixed Try.func50 (Value.bool false) (by kernel_rfl) (by first | rfl | (exfalso; simp at *; omega))
                    )
                    (fun h3 =>
                      RunsE.adv mixed 26 <| RunsE.guard 36 (decide (b < -1048576)) (by kernel_rfl)
                       (fun h4 =>
                         R.finIs mixed Try.func50 (Value.bool false) (by kernel_rfl) (by first | rfl | (exfalso; simp at *; omega))
                       )
                       (fun h4 =>
                         RunsE.adv mixed 4 <| RunsE.branch (bif false then true else decide (b > 1048576)) (by kernel_rfl)
                          (fun h5 =>
                            R.finIs mixed Try.func50 (Value.bool false) (by kernel_rfl) (by first | rfl | (exfalso; simp at *; omega))
                          )
                          (fun h5 =>
                            RunsE.adv mixed 26 <| RunsE.guard 36 (decide (c < -1048576)) (by kernel_rfl)
                             (fun h6 =>
                               R.finIs mixed Try.func50 (Value.bool false) (by kernel_rfl) (by first | rfl | (exfalso; simp at *; omega))
                             )
                             (fun h6 =>
                               RunsE.adv mixed 4 <| RunsE.branch (bif false then true else decide (c > 1048576)) (by kernel_rfl)
                                (fun h7 =>
                                  R.finIs mixed Try.func50 (Value.bool false) (by kernel_rfl) (by first | rfl | (exfalso; simp at *; omega))
                                )
                                (fun h7 =>
                                  RunsE.adv mixed 26 <| RunsE.guard 36 (decide (d < -1048576)) (by kernel_rfl)
                                   (fun h8 =>
                                     R.finIs mixed Try.func50 (Value.bool false) (by kernel_rfl) (by first | rfl | (exfalso; simp at *; omega))
                                   )
                                   (fun h8 =>
                                     RunsE.adv mixed 4 <| RunsE.branch (bif false then true else decide (d > 1048576)) (by kernel_rfl)
                                      (fun h9 =>
                                        R.finIs mixed Try.func50 (Value.bool false) (by kernel_rfl) (by first | rfl | (exfalso; simp at *; omega))
                                      )
                                      (fun h9 =>
                                        RunsE.adv mixed 26 <| RunsE.guard 36 (decide (e < -1048576)) (by kernel_rfl)
                                         (fun h10 =>
                                           R.finIs mixed Try.func50 (Value.bool false) (by kernel_rfl) (by first | rfl | (exfalso; simp at *; omega))
                                         )
                                         (fun h10 =>
                                           RunsE.adv mixed 4 <| RunsE.branch (bif false then true else decide (e > 1048576)) (by kernel_rfl)
                                            (fun h11 =>
                                              R.finIs mixed Try.func50 (Value.bool false) (by kernel_rfl) (by first | rfl | (exfalso; simp at *; omega))
                                            )
                                            (fun h11 =>
                                              RunsE.adv mixed 26 <| RunsE.guard 36 (decide (f < -1048576)) (by kernel_rfl)
                                               (fun h12 =>
                                                 R.finIs mixed Try.func50 (Value.bool false) (by kernel_rfl) (by first | rfl | (exfalso; simp at *; omega))
                                               )
                                               (fun h12 =>
                                                 RunsE.adv mixed 4 <| RunsE.branch (bif false then true else decide (f > 1048576)) (by kernel_rfl)
                                                  (fun h13 =>
                                                    R.finIs mixed Try.func50 (Value.bool false) (by kernel_rfl) (by first | rfl | (exfalso; simp at *; omega))
                                                  )
                                                  (fun h13 =>
                                                    R.finIs mixed Try.func50 (Value.bool true) (by kernel_rfl) (by first | rfl | (exfalso; simp at *; omega))
                                                  )
                                               )
                                            )
                                         )
                                      )
                                   )
                                )
                             )
                          )
                       )
                    )
                 )
              )
           )

/-! ### Boxes -/
def lowI (a b : Int) : Int := if a < b then a else b
def highI (a b : Int) : Int := if a > b then a else b
def cmn (a b : Int) : Int := if b < a then b else a
def cmx (a b : Int) : Int := if b > a then b else a
theorem cmn3 (a b c : Int) : cmn (cmn (cmn a a) b) c = lowI (lowI a b) c := by
  unfold cmn lowI
  repeat' split
  all_goals omega
theorem cmx3 (a b c : Int) : cmx (cmx (cmx a a) b) c = highI (highI a b) c := by
  unfold cmx highI
  repeat' split
  all_goals omega
theorem low3 {a b c m : Int} (ha : -m ≤ a ∧ a ≤ m) (hb : -m ≤ b ∧ b ≤ m) (hc : -m ≤ c ∧ c ≤ m) : (-m ≤ lowI (lowI a b) c ∧ lowI (lowI a b) c ≤ m) ∧ (-m ≤ highI (highI a b) c ∧ highI (highI a b) c ≤ m) := by
  unfold lowI highI
  repeat' split
  all_goals omega
def bx0 (a b c : Int) : Int := (lowI (lowI a b) c + 7) / 16
def bx1 (a b c : Int) : Int := (highI (highI a b) c - 8) / 16 + 1

theorem c_span {lo hi : Int} (h1 : -524288 ≤ lo ∧ lo ≤ 524288) (h2 : -524288 ≤ hi ∧ hi ≤ 524288) : Con Try.prog 71 [.int .i64 lo, .int .i64 hi] (.tuple ⟨[.int .i64 ((lo + 7) / 16), .int .i64 ((hi - 8) / 16 + 1)]⟩) := by
  have e1 : (IntKind.i64.wrap (IntKind.i64.wrap (IntKind.i64.wrap (lo - 8) + 16) - 1)).fdiv 16 = (lo + 7) / 16 := by
    rw [Int.fdiv_eq_ediv_of_nonneg _ (by omega), wrap_i64_of (n := lo - 8) (by omega) (by omega), wrap_i64_of (n := lo - 8 + 16) (by omega) (by omega), wrap_i64_of (by omega) (by omega)]
    omega
  have e2 : IntKind.i64.wrap ((IntKind.i64.wrap (hi - 8)).fdiv 16 + 1) = (hi - 8) / 16 + 1 := by
    rw [Int.fdiv_eq_ediv_of_nonneg _ (by omega), wrap_i64_of (n := hi - 8) (by omega) (by omega), wrap_i64_of (by omega) (by omega)]
  rw [← e1, ← e2]
  exact Con.run Try.func71 (by kernel_rfl) rfl <| R.fin mixed Try.func71 (by kernel_rfl)

theorem c_ceil16 {a : Int} (a1 : -1073741824 ≤ a) (a2 : a ≤ 1073741824) : Con Try.prog 56 [.int .i64 a, .int .i64 16] (.int .i64 ((a + 15) / 16)) := by
  obtain ⟨e, h1, h2⟩ := tdiv_parts (a := a) (b := 16) (by omega)
  have hF := floor_tdiv (a := a) (b := 16) (by omega)
  have ht : -1073741824 ≤ a.tdiv 16 ∧ a.tdiv 16 ≤ 1073741824 := by omega
  have w1 : IntKind.i64.wrap (a.tdiv 16) = a.tdiv 16 := wrap_i64_of (by omega) (by omega)
  have w2 : IntKind.i64.wrap (a - IntKind.i64.wrap (IntKind.i64.wrap (a.tdiv 16) * 16)) = a.tmod 16 := by
    rw [w1, wrap_i64_of (n := a.tdiv 16 * 16) (by omega) (by omega), wrap_i64_of (by omega) (by omega)]
    omega
  have w3 : IntKind.i64.wrap (IntKind.i64.wrap (a.tdiv 16) + 1) = a.tdiv 16 + 1 := by rw [w1]; exact wrap_i64_of (by omega) (by omega)
  refine Con.run Try.func56 (by kernel_rfl) rfl <| R.guardIs mixed 10 (a == -9223372036854775808) false (by simp; omega) (by kernel_rfl) ?_
  rcases Decidable.em (a.tmod 16 > 0) with hm | hm
  · rw [show (a + 15) / 16 = IntKind.i64.wrap (IntKind.i64.wrap (a.tdiv 16) + 1) by rw [w3]; split at hF <;> omega]
    exact R.guardIs mixed 28 (decide (IntKind.i64.wrap (a - IntKind.i64.wrap (IntKind.i64.wrap (a.tdiv 16) * 16)) > 0)) true (by rw [w2]; exact decide_eq_true hm) (by kernel_rfl) <| R.fin mixed Try.func56 (by kernel_rfl)
  · rw [show (a + 15) / 16 = IntKind.i64.wrap (a.tdiv 16) by rw [w1]; split at hF <;> omega]
    refine R.guardIs mixed 28 (decide (IntKind.i64.wrap (a - IntKind.i64.wrap (IntKind.i64.wrap (a.tdiv 16) * 16)) > 0)) false (by rw [w2]; exact decide_eq_false hm) (by kernel_rfl) ?_
    rcases Decidable.em (a.tmod 16 < 0) with hn | hn
    · exact R.guardIs mixed 7 (decide (IntKind.i64.wrap (a - IntKind.i64.wrap (IntKind.i64.wrap (a.tdiv 16) * 16)) < 0)) true (by rw [w2]; exact decide_eq_true hn) (by kernel_rfl) <| R.fin mixed Try.func56 (by kernel_rfl)
    · exact R.guardIs mixed 7 (decide (IntKind.i64.wrap (a - IntKind.i64.wrap (IntKind.i64.wrap (a.tdiv 16) * 16)) < 0)) false (by rw [w2]; exact decide_eq_false hn) (by kernel_rfl) <| R.fin mixed Try.func56 (by kernel_rfl)

theorem okP_b {x y : Int} (h : okP x y = true) : (-524288 ≤ x ∧ x ≤ 524288) ∧ (-524288 ≤ y ∧ y ≤ 524288) := by
  rw [okP_iff] at h; omega

section
variable {x0 y0 z0 a0 b0 c0 d0 e0 f0 x1 y1 z1 a1 b1 c1 d1 e1 f1 x2 y2 z2 a2 b2 c2 d2 e2 f2 : Int}
theorem c_box (h0 : okP x0 y0 = true) (h1 : okP x1 y1 = true) (h2 : okP x2 y2 = true) : Con Try.prog 52 [S27 x0 y0 z0 a0 b0 c0 d0 e0 f0 x1 y1 z1 a1 b1 c1 d1 e1 f1 x2 y2 z2 a2 b2 c2 d2 e2 f2] (R4 (bx0 x0 x1 x2) (bx0 y0 y1 y2) (bx1 x0 x1 x2) (bx1 y0 y1 y2)) := by
  have p0 := okP_b h0
  have p1 := okP_b h1
  have p2 := okP_b h2
  have X := low3 (m := 524288) p0.1 p1.1 p2.1
  have Y := low3 (m := 524288) p0.2 p1.2 p2.2
  rw [← cmn3, ← cmx3] at X Y
  unfold bx0 bx1
  rw [← cmn3, ← cmx3, ← cmn3, ← cmx3]
  exact Con.run Try.func52 (by kernel_rfl) rfl <| R.call mixed (c_span X.1 X.2) (by kernel_rfl) <| R.call mixed (c_span Y.1 Y.2) (by kernel_rfl) <| R.fin mixed Try.func52 (by kernel_rfl)

theorem c_rbox (h0 : okP x0 y0 = true) (h1 : okP x1 y1 = true) (h2 : okP x2 y2 = true) : Con Try.prog 31 [S27 x0 y0 z0 a0 b0 c0 d0 e0 f0 x1 y1 z1 a1 b1 c1 d1 e1 f1 x2 y2 z2 a2 b2 c2 d2 e2 f2] (R4 (bx0 x0 x1 x2) (bx0 y0 y1 y2) (bx1 x0 x1 x2) (bx1 y0 y1 y2)) := by
  have p0 := okP_b h0
  have p1 := okP_b h1
  have p2 := okP_b h2
  have X := low3 (m := 524288) p0.1 p1.1 p2.1
  have Y := low3 (m := 524288) p0.2 p1.2 p2.2
  have l1 : Con Try.prog 54 [.int .i64 x0, .int .i64 x1] (.int .i64 (lowI x0 x1)) := c_low x0 x1
  have l2 : Con Try.prog 54 [.int .i64 (lowI x0 x1), .int .i64 x2] (.int .i64 (lowI (lowI x0 x1) x2)) := c_low (lowI x0 x1) x2
  have l3 : Con Try.prog 55 [.int .i64 x0, .int .i64 x1] (.int .i64 (highI x0 x1)) := c_high x0 x1
  have l4 : Con Try.prog 55 [.int .i64 (highI x0 x1), .int .i64 x2] (.int .i64 (highI (highI x0 x1) x2)) := c_high (highI x0 x1) x2
  have l5 : Con Try.prog 54 [.int .i64 y0, .int .i64 y1] (.int .i64 (lowI y0 y1)) := c_low y0 y1
  have l6 : Con Try.prog 54 [.int .i64 (lowI y0 y1), .int .i64 y2] (.int .i64 (lowI (lowI y0 y1) y2)) := c_low (lowI y0 y1) y2
  have l7 : Con Try.prog 55 [.int .i64 y0, .int .i64 y1] (.int .i64 (highI y0 y1)) := c_high y0 y1
  have l8 : Con Try.prog 55 [.int .i64 (highI y0 y1), .int .i64 y2] (.int .i64 (highI (highI y0 y1) y2)) := c_high (highI y0 y1) y2
  unfold bx0 bx1
  generalize lowI (lowI x0 x1) x2 = LX at *
  generalize lowI (lowI y0 y1) y2 = LY at *
  generalize highI (highI x0 x1) x2 = HX at *
  generalize highI (highI y0 y1) y2 = HY at *
  have wx : IntKind.i64.wrap (LX - 8) = LX - 8 := wrap_i64_of (by omega) (by omega)
  have wy : IntKind.i64.wrap (LY - 8) = LY - 8 := wrap_i64_of (by omega) (by omega)
  have wX : IntKind.i64.wrap (HX - 8) = HX - 8 := wrap_i64_of (by omega) (by omega)
  have wY : IntKind.i64.wrap (HY - 8) = HY - 8 := wrap_i64_of (by omega) (by omega)
  have q1 : Con Try.prog 56 [.int .i64 (IntKind.i64.wrap (LX - 8)), .int .i64 16] (.int .i64 ((LX + 7) / 16)) := (c_ceil16 (a := LX - 8) (by omega) (by omega)).val (by rw [wx]) (by congr 2; omega)
  have q2 : Con Try.prog 56 [.int .i64 (IntKind.i64.wrap (LY - 8)), .int .i64 16] (.int .i64 ((LY + 7) / 16)) := (c_ceil16 (a := LY - 8) (by omega) (by omega)).val (by rw [wy]) (by congr 2; omega)
  have q3 : Con Try.prog 29 [.int .i64 (IntKind.i64.wrap (HX - 8)), .int .i64 16] (.int .i64 ((HX - 8) / 16)) := (c_floor1 (HX - 8) 16 (by omega) (by omega) (by omega) (by omega)).val (by rw [wX]) rfl
  have q4 : Con Try.prog 29 [.int .i64 (IntKind.i64.wrap (HY - 8)), .int .i64 16] (.int .i64 ((HY - 8) / 16)) := (c_floor1 (HY - 8) 16 (by omega) (by omega) (by omega) (by omega)).val (by rw [wY]) rfl
  rw [show (HX - 8) / 16 + 1 = IntKind.i64.wrap ((HX - 8) / 16 + 1) from (wrap_i64_of (by omega) (by omega)).symm, show (HY - 8) / 16 + 1 = IntKind.i64.wrap ((HY - 8) / 16 + 1) from (wrap_i64_of (by omega) (by omega)).symm]
  exact Con.run Try.func31 (by kernel_rfl) rfl <| R.call mixed l1 (by kernel_rfl) <| R.call mixed l2 (by kernel_rfl) <| R.call mixed l3 (by kernel_rfl) <| R.call mixed l4 (by kernel_rfl) <| R.call mixed l5 (by kernel_rfl) <| R.call mixed l6 (by kernel_rfl) <|
    R.call mixed l7 (by kernel_rfl) <| R.call mixed l8 (by kernel_rfl) <| R.call mixed q1 (by kernel_rfl) <| R.call mixed q2 (by kernel_rfl) <| R.call mixed q3 (by kernel_rfl) <| R.call mixed q4 (by kernel_rfl) <| R.fin mixed Try.func31 (by kernel_rfl)
end

/-! ### Set up -/
section
variable {x0 y0 z0 a0 b0 c0 d0 e0 f0 x1 y1 z1 a1 b1 c1 d1 e1 f1 x2 y2 z2 a2 b2 c2 d2 e2 f2 N B0 B1 B2 B3 : Int}
def may3 (x0 y0 z0 a0 b0 c0 d0 e0 f0 x1 y1 z1 a1 b1 c1 d1 e1 f1 x2 y2 z2 a2 b2 c2 d2 e2 f2 : Int) : Prop := mayS x0 y0 z0 a0 b0 c0 d0 e0 f0 ∧ mayS x1 y1 z1 a1 b1 c1 d1 e1 f1 ∧ mayS x2 y2 z2 a2 b2 c2 d2 e2 f2
instance (x0 y0 z0 a0 b0 c0 d0 e0 f0 x1 y1 z1 a1 b1 c1 d1 e1 f1 x2 y2 z2 a2 b2 c2 d2 e2 f2 : Int) : Decidable (may3 x0 y0 z0 a0 b0 c0 d0 e0 f0 x1 y1 z1 a1 b1 c1 d1 e1 f1 x2 y2 z2 a2 b2 c2 d2 e2 f2) := by unfold may3; infer_instance
end

end Go.Proofs.Ytegmkkpdckolkaa.Tri
