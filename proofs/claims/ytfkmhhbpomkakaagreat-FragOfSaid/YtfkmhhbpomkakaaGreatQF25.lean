/- Several texts in one: TAy, TBy, TCy. -/
import Derived.Test.YtfkmhhbpomkakaaGreatQF11
import Derived.Test.YtfkmhhbpomkakaaGreatQF24
namespace Go.Proofs.YtfkmhhbpomkakaaGreat.Tri

section
open Go Go.Dt Go.Proofs Go.Proofs.YtfkmhhbpomkakaaGreat.Wide Go.Proofs.YtfkmhhbpomkakaaGreat.Bary
set_option linter.unusedVariables false
set_option linter.unusedSimpArgs false

abbrev S9 (x y z a b c d e f : Int) : Value := .agg ⟨[.int .i64 x, .int .i64 y, .int .i64 z, .int .i64 a, .int .i64 b, .int .i64 c, .int .i64 d, .int .i64 e, .int .i64 f]⟩
abbrev S27 (x0 y0 z0 a0 b0 c0 d0 e0 f0 x1 y1 z1 a1 b1 c1 d1 e1 f1 x2 y2 z2 a2 b2 c2 d2 e2 f2 : Int) : Value := .agg ⟨[.int .i64 x0, .int .i64 y0, .int .i64 z0, .int .i64 a0, .int .i64 b0, .int .i64 c0, .int .i64 d0, .int .i64 e0, .int .i64 f0, .int .i64 x1, .int .i64 y1, .int .i64 z1, .int .i64 a1, .int .i64 b1, .int .i64 c1, .int .i64 d1, .int .i64 e1, .int .i64 f1, .int .i64 x2, .int .i64 y2, .int .i64 z2, .int .i64 a2, .int .i64 b2, .int .i64 c2, .int .i64 d2, .int .i64 e2, .int .i64 f2]⟩
abbrev T32 (x0 y0 z0 a0 b0 c0 d0 e0 f0 x1 y1 z1 a1 b1 c1 d1 e1 f1 x2 y2 z2 a2 b2 c2 d2 e2 f2 ar X0 Y0 X1 Y1 : Int) : Value := .agg ⟨[.int .i64 x0, .int .i64 y0, .int .i64 z0, .int .i64 a0, .int .i64 b0, .int .i64 c0, .int .i64 d0, .int .i64 e0, .int .i64 f0, .int .i64 x1, .int .i64 y1, .int .i64 z1, .int .i64 a1, .int .i64 b1, .int .i64 c1, .int .i64 d1, .int .i64 e1, .int .i64 f1, .int .i64 x2, .int .i64 y2, .int .i64 z2, .int .i64 a2, .int .i64 b2, .int .i64 c2, .int .i64 d2, .int .i64 e2, .int .i64 f2, .int .i64 ar, .int .i64 X0, .int .i64 Y0, .int .i64 X1, .int .i64 Y1]⟩
abbrev R4 (X0 Y0 X1 Y1 : Int) : Value := .agg ⟨[.int .i64 X0, .int .i64 Y0, .int .i64 X1, .int .i64 Y1]⟩
def ok20 (n : Int) : Prop := -1048576 ≤ n ∧ n ≤ 1048576
def restS (z a b c d e f : Int) : Prop := (0 ≤ z ∧ z ≤ 65535) ∧ ok20 a ∧ ok20 b ∧ ok20 c ∧ ok20 d ∧ ok20 e ∧ ok20 f
def mayS (x y z a b c d e f : Int) : Prop := okP x y = true ∧ restS z a b c d e f
instance (z a b c d e f : Int) : Decidable (restS z a b c d e f) := by unfold restS ok20; infer_instance
instance (x y z a b c d e f : Int) : Decidable (mayS x y z a b c d e f) := by unfold mayS; infer_instance

theorem c_mayS (x y z a b c d e f : Int) : Con Tryz.prog 13 [S9 x y z a b c d e f] (.bool (decide (mayS x y z a b c d e f))) := by
  refine Con.run Tryz.func13 (by kernel_rfl) rfl ?_
  cases hp : okP x y with
  | false =>
    rw [decide_eq_false (fun h => by rw [h.1] at hp; cases hp)]
    exact R.call mixed (c_edgeNo (ax := x) (ay := y) (bx := x) (b_ := y) (px := x) (py := y) (by simp [ok3, hp])) (by kernel_rfl) <| R.fin mixed Tryz.func13 (by kernel_rfl)
  | true =>
    rcases Decidable.em (restS z a b c d e f) with h | h
    · rw [decide_eq_true ⟨hp, h⟩]
      simp only [restS, ok20] at h
      exact
          R.call mixed (c_edgeOk (ax := x) (ay := y) (bx := x) (b_ := y) (px := x) (py := y) (by simp [ok3, hp])) (by kernel_rfl) <|
          R.guardIs mixed 16 (bif 0 != 0 then true else decide (z < 0)) false (by simp; omega) (by kernel_rfl) <|
          R.cond mixed 5 (bif false then true else decide (z > 65535)) false (by simp; omega) (by kernel_rfl) <|
          R.guardIs mixed 29 (decide (a < -1048576)) false (by simp; omega) (by kernel_rfl) <|
          R.cond mixed 4 (bif false then true else decide (a > 1048576)) false (by simp; omega) (by kernel_rfl) <|
          R.guardIs mixed 26 (decide (b < -1048576)) false (by simp; omega) (by kernel_rfl) <|
          R.cond mixed 4 (bif false then true else decide (b > 1048576)) false (by simp; omega) (by kernel_rfl) <|
          R.guardIs mixed 26 (decide (c < -1048576)) false (by simp; omega) (by kernel_rfl) <|
          R.cond mixed 4 (bif false then true else decide (c > 1048576)) false (by simp; omega) (by kernel_rfl) <|
          R.guardIs mixed 26 (decide (d < -1048576)) false (by simp; omega) (by kernel_rfl) <|
          R.cond mixed 4 (bif false then true else decide (d > 1048576)) false (by simp; omega) (by kernel_rfl) <|
          R.guardIs mixed 26 (decide (e < -1048576)) false (by simp; omega) (by kernel_rfl) <|
          R.cond mixed 4 (bif false then true else decide (e > 1048576)) false (by simp; omega) (by kernel_rfl) <|
          R.guardIs mixed 26 (decide (f < -1048576)) false (by simp; omega) (by kernel_rfl) <|
          R.cond mixed 4 (bif false then true else decide (f > 1048576)) false (by simp; omega) (by kernel_rfl) <|
          R.fin mixed Tryz.func13 (by kernel_rfl)
    · rw [decide_eq_false (fun k => h k.2)]
      simp only [restS, ok20] at h
      exact
          R.call mixed (c_edgeOk (ax := x) (ay := y) (bx := x) (b_ := y) (px := x) (py := y) (by simp [ok3, hp])) (by kernel_rfl) <|
          RunsE.adv mixed 16 <| RunsE.guard 24 (bif 0 != 0 then true else decide (z < 0)) (by kernel_rfl)
           (fun h0 =>
             R.finIs mixed Tryz.func13 (Value.bool false) (by kernel_rfl) (by first | rfl | (exfalso; simp at *; omega))
           )
           (fun h0 =>
             RunsE.adv mixed 5 <| RunsE.branch (bif false then true else decide (z > 65535)) (by kernel_rfl)
              (fun h1 =>
                R.finIs mixed Tryz.func13 (Value.bool false) (by kernel_rfl) (by first | rfl | (exfalso; simp at *; omega))
              )
              (fun h1 =>
                RunsE.adv mixed 29 <| RunsE.guard 36 (decide (a < -1048576)) (by kernel_rfl)
                 (fun h2 =>
                   R.finIs mixed Tryz.func13 (Value.bool false) (by kernel_rfl) (by first | rfl | (exfalso; simp at *; omega))
                 )
                 (fun h2 =>
                   RunsE.adv mixed 4 <| RunsE.branch (bif false then true else decide (a > 1048576)) (by kernel_rfl)
                    (fun h3 =>
                      R.finIs mixed Tryz.func13 (Value.bool false) (by kernel_rfl) (by first | rfl | (exfalso; simp at *; omega))
                    )
                    (fun h3 =>
                      RunsE.adv mixed 26 <| RunsE.guard 36 (decide (b < -1048576)) (by kernel_rfl)
                       (fun h4 =>
                         R.finIs mixed Tryz.func13 (Value.bool false) (by kernel_rfl) (by first | rfl | (exfalso; simp at *; omega))
                       )
                       (fun h4 =>
                         RunsE.adv mixed 4 <| RunsE.branch (bif false then true else decide (b > 1048576)) (by kernel_rfl)
                          (fun h5 =>
                            R.finIs mixed Tryz.func13 (Value.bool false) (by kernel_rfl) (by first | rfl | (exfalso; simp at *; omega))
                          )
                          (fun h5 =>
                            RunsE.adv mixed 26 <| RunsE.guard 36 (decide (c < -1048576)) (by kernel_rfl)
                             (fun h6 =>
                               R.finIs mixed Tryz.func13 (Value.bool false) (by kernel_rfl) (by first | rfl | (exfalso; simp at *; omega))
                             )
                             (fun h6 =>
                               RunsE.adv mixed 4 <| RunsE.branch (bif false then true else decide (c > 1048576)) (by kernel_rfl)
                                (fun h7 =>
                                  R.finIs mixed Tryz.func13 (Value.bool false) (by kernel_rfl) (by first | rfl | (exfalso; simp at *; omega))
                                )
                                (fun h7 =>
                                  RunsE.adv mixed 26 <| RunsE.guard 36 (decide (d < -1048576)) (by kernel_rfl)
                                   (fun h8 =>
                                     R.finIs mixed Tryz.func13 (Value.bool false) (by kernel_rfl) (by first | rfl | (exfalso; simp at *; omega))
                                   )
                                   (fun h8 =>
                                     RunsE.adv mixed 4 <| RunsE.branch (bif false then true else decide (d > 1048576)) (by kernel_rfl)
                                      (fun h9 =>
                                        R.finIs mixed Tryz.func13 (Value.bool false) (by kernel_rfl) (by first | rfl | (exfalso; simp at *; omega))
                                      )
                                      (fun h9 =>
                                        RunsE.adv mixed 26 <| RunsE.guard 36 (decide (e < -1048576)) (by kernel_rfl)
                                         (fun h10 =>
                                           R.finIs mixed Tryz.func13 (Value.bool false) (by kernel_rfl) (by first | rfl | (exfalso; simp at *; omega))
                                         )
                                         (fun h10 =>
                                           RunsE.adv mixed 4 <| RunsE.branch (bif false then true else decide (e > 1048576)) (by kernel_rfl)
                                            (fun h11 =>
                                              R.finIs mixed Tryz.func13 (Value.bool false) (by kernel_rfl) (by first | rfl | (exfalso; simp at *; omega))
                                            )
                                            (fun h11 =>
                                              RunsE.adv mixed 26 <| RunsE.guard 36 (decide (f < -1048576)) (by kernel_rfl)
                                               (fun h12 =>
                                                 R.finIs mixed Tryz.func13 (Value.bool false) (by kernel_rfl) (by first | rfl | (exfalso; simp at *; omega))
                                               )
                                               (fun h12 =>
                                                 RunsE.adv mixed 4 <| RunsE.branch (bif false then true else decide (f > 1048576)) (by kernel_rfl)
                                                  (fun h13 =>
                                                    R.finIs mixed Tryz.func13 (Value.bool false) (by kernel_rfl) (by first | rfl | (exfalso; simp at *; omega))
                                                  )
                                                  (fun h13 =>
                                                    R.finIs mixed Tryz.func13 (Value.bool true) (by kernel_rfl) (by first | rfl | (exfalso; simp at *; omega))
                                                  )
                                               )
                                            )
                                         )
                                      )
                                   )
                                )
                             )
                          )
                       )
                    )
                 )
              )
           )

theorem c_rmayS (x y z a b c d e f : Int) : Con Tryz.prog 4 [S9 x y z a b c d e f] (.bool (decide (mayS x y z a b c d e f))) := by
  refine Con.run Tryz.func4 (by kernel_rfl) rfl ?_
  cases hp : okP x y with
  | false =>
    rw [decide_eq_false (fun h => by rw [h.1] at hp; cases hp)]
    exact R.call mixed ((c_mayP x y).val rfl (by rw [hp])) (by kernel_rfl) <| R.fin mixed Tryz.func4 (by kernel_rfl)
  | true =>
    rcases Decidable.em (restS z a b c d e f) with h | h
    · rw [decide_eq_true ⟨hp, h⟩]
      simp only [restS, ok20] at h
      exact
          R.call mixed ((c_mayP x y).val rfl (by rw [hp])) (by kernel_rfl) <|
          R.guardIs mixed 7 (bif !true then true else decide (z < 0)) false (by simp; omega) (by kernel_rfl) <|
          R.cond mixed 5 (bif false then true else decide (z > 65535)) false (by simp; omega) (by kernel_rfl) <|
          R.guardIs mixed 26 (decide (a < -1048576)) false (by simp; omega) (by kernel_rfl) <|
          R.cond mixed 7 (bif false then true else decide (a > 1048576)) false (by simp; omega) (by kernel_rfl) <|
          R.guardIs mixed 26 (decide (b < -1048576)) false (by simp; omega) (by kernel_rfl) <|
          R.cond mixed 7 (bif false then true else decide (b > 1048576)) false (by simp; omega) (by kernel_rfl) <|
          R.guardIs mixed 26 (decide (c < -1048576)) false (by simp; omega) (by kernel_rfl) <|
          R.cond mixed 7 (bif false then true else decide (c > 1048576)) false (by simp; omega) (by kernel_rfl) <|
          R.guardIs mixed 26 (decide (d < -1048576)) false (by simp; omega) (by kernel_rfl) <|
          R.cond mixed 7 (bif false then true else decide (d > 1048576)) false (by simp; omega) (by kernel_rfl) <|
          R.guardIs mixed 26 (decide (e < -1048576)) false (by simp; omega) (by kernel_rfl) <|
          R.cond mixed 7 (bif false then true else decide (e > 1048576)) false (by simp; omega) (by kernel_rfl) <|
          R.guardIs mixed 26 (decide (f < -1048576)) false (by simp; omega) (by kernel_rfl) <|
          R.cond mixed 7 (bif false then true else decide (f > 1048576)) false (by simp; omega) (by kernel_rfl) <|
          R.fin mixed Tryz.func4 (by kernel_rfl)
    · rw [decide_eq_false (fun k => h k.2)]
      simp only [restS, ok20] at h
      exact
          R.call mixed ((c_mayP x y).val rfl (by rw [hp])) (by kernel_rfl) <|
          RunsE.adv mixed 7 <| RunsE.guard 13 (bif !true then true else decide (z < 0)) (by kernel_rfl)
           (fun h0 =>
             R.finIs mixed Tryz.func4 (Value.bool false) (by kernel_rfl) (by first | rfl | (exfalso; simp at *; omega))
           )
           (fun h0 =>
             RunsE.adv mixed 5 <| RunsE.branch (bif false then true else decide (z > 65535)) (by kernel_rfl)
              (fun h1 =>
                R.finIs mixed Tryz.func4 (Value.bool false) (by kernel_rfl) (by first | rfl | (exfalso; simp at *; omega))
              )
              (fun h1 =>
                RunsE.adv mixed 26 <| RunsE.guard 27 (decide (a < -1048576)) (by kernel_rfl)
                 (fun h2 =>
                   R.finIs mixed Tryz.func4 (Value.bool false) (by kernel_rfl) (by first | rfl | (exfalso; simp at *; omega))
                 )
                 (fun h2 =>
                   RunsE.adv mixed 7 <| RunsE.branch (bif false then true else decide (a > 1048576)) (by kernel_rfl)
                    (fun h3 =>
                      R.finIs mixed Tryz.func4 (Value.bool false) (by kernel_rfl) (by first | rfl | (exfalso; simp at *; omega))
                    )
                    (fun h3 =>
                      RunsE.adv mixed 26 <| RunsE.guard 27 (decide (b < -1048576)) (by kernel_rfl)
                       (fun h4 =>
                         R.finIs mixed Tryz.func4 (Value.bool false) (by kernel_rfl) (by first | rfl | (exfalso; simp at *; omega))
                       )
                       (fun h4 =>
                         RunsE.adv mixed 7 <| RunsE.branch (bif false then true else decide (b > 1048576)) (by kernel_rfl)
                          (fun h5 =>
                            R.finIs mixed Tryz.func4 (Value.bool false) (by kernel_rfl) (by first | rfl | (exfalso; simp at *; omega))
                          )
                          (fun h5 =>
                            RunsE.adv mixed 26 <| RunsE.guard 27 (decide (c < -1048576)) (by kernel_rfl)
                             (fun h6 =>
                               R.finIs mixed Tryz.func4 (Value.bool false) (by kernel_rfl) (by first | rfl | (exfalso; simp at *; omega))
                             )
                             (fun h6 =>
                               RunsE.adv mixed 7 <| RunsE.branch (bif false then true else decide (c > 1048576)) (by kernel_rfl)
                                (fun h7 =>
                                  R.finIs mixed Tryz.func4 (Value.bool false) (by kernel_rfl) (by first | rfl | (exfalso; simp at *; omega))
                                )
                                (fun h7 =>
                                  RunsE.adv mixed 26 <| RunsE.guard 27 (decide (d < -1048576)) (by kernel_rfl)
                                   (fun h8 =>
                                     R.finIs mixed Tryz.func4 (Value.bool false) (by kernel_rfl) (by first | rfl | (exfalso; simp at *; omega))
                                   )
                                   (fun h8 =>
                                     RunsE.adv mixed 7 <| RunsE.branch (bif false then true else decide (d > 1048576)) (by kernel_rfl)
                                      (fun h9 =>
                                        R.finIs mixed Tryz.func4 (Value.bool false) (by kernel_rfl) (by first | rfl | (exfalso; simp at *; omega))
                                      )
                                      (fun h9 =>
                                        RunsE.adv mixed 26 <| RunsE.guard 27 (decide (e < -1048576)) (by kernel_rfl)
                                         (fun h10 =>
                                           R.finIs mixed Tryz.func4 (Value.bool false) (by kernel_rfl) (by first | rfl | (exfalso; simp at *; omega))
                                         )
                                         (fun h10 =>
                                           RunsE.adv mixed 7 <| RunsE.branch (bif false then true else decide (e > 1048576)) (by kernel_rfl)
                                            (fun h11 =>
                                              R.finIs mixed Tryz.func4 (Value.bool false) (by kernel_rfl) (by first | rfl | (exfalso; simp at *; omega))
                                            )
                                            (fun h11 =>
                                              RunsE.adv mixed 26 <| RunsE.guard 27 (decide (f < -1048576)) (by kernel_rfl)
                                               (fun h12 =>
                                                 R.finIs mixed Tryz.func4 (Value.bool false) (by kernel_rfl) (by first | rfl | (exfalso; simp at *; omega))
                                               )
                                               (fun h12 =>
                                                 RunsE.adv mixed 7 <| RunsE.branch (bif false then true else decide (f > 1048576)) (by kernel_rfl)
                                                  (fun h13 =>
                                                    R.finIs mixed Tryz.func4 (Value.bool false) (by kernel_rfl) (by first | rfl | (exfalso; simp at *; omega))
                                                  )
                                                  (fun h13 =>
                                                    R.finIs mixed Tryz.func4 (Value.bool true) (by kernel_rfl) (by first | rfl | (exfalso; simp at *; omega))
                                                  )
                                               )
                                            )
                                         )
                                      )
                                   )
                                )
                             )
                          )
                       )
                    )
                 )
              )
           )

/-! ### Boxes -/
def lowI (a b : Int) : Int := if a < b then a else b
def highI (a b : Int) : Int := if a > b then a else b
def cmn (a b : Int) : Int := if b < a then b else a
def cmx (a b : Int) : Int := if b > a then b else a
theorem cmn3 (a b c : Int) : cmn (cmn (cmn a a) b) c = lowI (lowI a b) c := by
  unfold cmn lowI
  repeat' split
  all_goals omega
theorem cmx3 (a b c : Int) : cmx (cmx (cmx a a) b) c = highI (highI a b) c := by
  unfold cmx highI
  repeat' split
  all_goals omega
theorem low3 {a b c m : Int} (ha : -m ≤ a ∧ a ≤ m) (hb : -m ≤ b ∧ b ≤ m) (hc : -m ≤ c ∧ c ≤ m) : (-m ≤ lowI (lowI a b) c ∧ lowI (lowI a b) c ≤ m) ∧ (-m ≤ highI (highI a b) c ∧ highI (highI a b) c ≤ m) := by
  unfold lowI highI
  repeat' split
  all_goals omega
def bx0 (a b c : Int) : Int := (lowI (lowI a b) c + 7) / 16
def bx1 (a b c : Int) : Int := (highI (highI a b) c - 8) / 16 + 1

theorem c_span {lo hi : Int} (h1 : -524288 ≤ lo ∧ lo ≤ 524288) (h2 : -524288 ≤ hi ∧ hi ≤ 524288) : Con Tryz.prog 44 [.int .i64 lo, .int .i64 hi] (.tuple ⟨[.int .i64 ((lo + 7) / 16), .int .i64 ((hi - 8) / 16 + 1)]⟩) := by
  have e1 : (IntKind.i64.wrap (IntKind.i64.wrap (IntKind.i64.wrap (lo - 8) + 16) - 1)).fdiv 16 = (lo + 7) / 16 := by
    rw [Int.fdiv_eq_ediv_of_nonneg _ (by omega), wrap_i64_of (n := lo - 8) (by omega) (by omega), wrap_i64_of (n := lo - 8 + 16) (by omega) (by omega), wrap_i64_of (by omega) (by omega)]
    omega
  have e2 : IntKind.i64.wrap ((IntKind.i64.wrap (hi - 8)).fdiv 16 + 1) = (hi - 8) / 16 + 1 := by
    rw [Int.fdiv_eq_ediv_of_nonneg _ (by omega), wrap_i64_of (n := hi - 8) (by omega) (by omega), wrap_i64_of (by omega) (by omega)]
  rw [← e1, ← e2]
  exact Con.run Tryz.func44 (by kernel_rfl) rfl <| R.fin mixed Tryz.func44 (by kernel_rfl)

theorem okP_b {x y : Int} (h : okP x y = true) : (-524288 ≤ x ∧ x ≤ 524288) ∧ (-524288 ≤ y ∧ y ≤ 524288) := by
  rw [okP_iff] at h; omega

section
variable {x0 y0 z0 a0 b0 c0 d0 e0 f0 x1 y1 z1 a1 b1 c1 d1 e1 f1 x2 y2 z2 a2 b2 c2 d2 e2 f2 : Int}
theorem c_box (h0 : okP x0 y0 = true) (h1 : okP x1 y1 = true) (h2 : okP x2 y2 = true) : Con Tryz.prog 15 [S27 x0 y0 z0 a0 b0 c0 d0 e0 f0 x1 y1 z1 a1 b1 c1 d1 e1 f1 x2 y2 z2 a2 b2 c2 d2 e2 f2] (R4 (bx0 x0 x1 x2) (bx0 y0 y1 y2) (bx1 x0 x1 x2) (bx1 y0 y1 y2)) := by
  have p0 := okP_b h0
  have p1 := okP_b h1
  have p2 := okP_b h2
  have X := low3 (m := 524288) p0.1 p1.1 p2.1
  have Y := low3 (m := 524288) p0.2 p1.2 p2.2
  rw [← cmn3, ← cmx3] at X Y
  unfold bx0 bx1
  rw [← cmn3, ← cmx3, ← cmn3, ← cmx3]
  exact Con.run Tryz.func15 (by kernel_rfl) rfl <| R.call mixed (c_span X.1 X.2) (by kernel_rfl) <| R.call mixed (c_span Y.1 Y.2) (by kernel_rfl) <| R.fin mixed Tryz.func15 (by kernel_rfl)

end

/-! ### Set up -/
section
variable {x0 y0 z0 a0 b0 c0 d0 e0 f0 x1 y1 z1 a1 b1 c1 d1 e1 f1 x2 y2 z2 a2 b2 c2 d2 e2 f2 N B0 B1 B2 B3 : Int}
def may3 (x0 y0 z0 a0 b0 c0 d0 e0 f0 x1 y1 z1 a1 b1 c1 d1 e1 f1 x2 y2 z2 a2 b2 c2 d2 e2 f2 : Int) : Prop := mayS x0 y0 z0 a0 b0 c0 d0 e0 f0 ∧ mayS x1 y1 z1 a1 b1 c1 d1 e1 f1 ∧ mayS x2 y2 z2 a2 b2 c2 d2 e2 f2
instance (x0 y0 z0 a0 b0 c0 d0 e0 f0 x1 y1 z1 a1 b1 c1 d1 e1 f1 x2 y2 z2 a2 b2 c2 d2 e2 f2 : Int) : Decidable (may3 x0 y0 z0 a0 b0 c0 d0 e0 f0 x1 y1 z1 a1 b1 c1 d1 e1 f1 x2 y2 z2 a2 b2 c2 d2 e2 f2) := by unfold may3; infer_instance
end

end

section
open Go Go.Dt Go.Proofs Go.Proofs.YtfkmhhbpomkakaaGreat.Wide Go.Proofs.YtfkmhhbpomkakaaGreat.Bary
set_option linter.unusedVariables false
set_option linter.unusedSimpArgs false

def tcells (x0 y0 z0 a0 b0 c0 d0 e0 f0 x1 y1 z1 a1 b1 c1 d1 e1 f1 x2 y2 z2 a2 b2 c2 d2 e2 f2 ar X0 Y0 X1 Y1 : Int) : List Value := [.int .i64 x0, .int .i64 y0, .int .i64 z0, .int .i64 a0, .int .i64 b0, .int .i64 c0, .int .i64 d0, .int .i64 e0, .int .i64 f0, .int .i64 x1, .int .i64 y1, .int .i64 z1, .int .i64 a1, .int .i64 b1, .int .i64 c1, .int .i64 d1, .int .i64 e1, .int .i64 f1, .int .i64 x2, .int .i64 y2, .int .i64 z2, .int .i64 a2, .int .i64 b2, .int .i64 c2, .int .i64 d2, .int .i64 e2, .int .i64 f2, .int .i64 ar, .int .i64 X0, .int .i64 Y0, .int .i64 X1, .int .i64 Y1]
def p_ (b : Nat) : Value := .pointer (some ⟨b, 0, none⟩)
def wcells (w0 w1 w2 : Int) : Blk := .cells [.int .i64 w0, .int .i64 w1, .int .i64 w2] 0 false
theorem b20 {n : Int} (h : ok20 n) : (-9223372036854775808 ≤ n ∧ n ≤ 9223372036854775807) ∧ (-1073741824 ≤ n ∧ n ≤ 1073741824) := by unfold ok20 at h; omega
theorem ofA0 (x y z a b c d e f : Int) : ConM Tryz.prog 51 [S9 x y z a b c d e f, p_ 0] [.cells [.int .i64 0] 0 false] (.int .i64 a) (List.replicate 1 .gone) := ConM.reads Tryz.func51 (by kernel_rfl) rfl <| R.fin mixed Tryz.func51 (by kernel_rfl)
theorem ofA1 (x y z a b c d e f : Int) : ConM Tryz.prog 51 [S9 x y z a b c d e f, p_ 0] [.cells [.int .i64 1] 0 false] (.int .i64 b) (List.replicate 1 .gone) := ConM.reads Tryz.func51 (by kernel_rfl) rfl <| R.fin mixed Tryz.func51 (by kernel_rfl)
theorem ofA2 (x y z a b c d e f : Int) : ConM Tryz.prog 51 [S9 x y z a b c d e f, p_ 0] [.cells [.int .i64 2] 0 false] (.int .i64 c) (List.replicate 1 .gone) := ConM.reads Tryz.func51 (by kernel_rfl) rfl <| R.fin mixed Tryz.func51 (by kernel_rfl)
theorem ofA3 (x y z a b c d e f : Int) : ConM Tryz.prog 51 [S9 x y z a b c d e f, p_ 0] [.cells [.int .i64 3] 0 false] (.int .i64 d) (List.replicate 1 .gone) := ConM.reads Tryz.func51 (by kernel_rfl) rfl <| R.fin mixed Tryz.func51 (by kernel_rfl)
theorem ofA4 (x y z a b c d e f : Int) : ConM Tryz.prog 51 [S9 x y z a b c d e f, p_ 0] [.cells [.int .i64 4] 0 false] (.int .i64 e) (List.replicate 1 .gone) := ConM.reads Tryz.func51 (by kernel_rfl) rfl <| R.fin mixed Tryz.func51 (by kernel_rfl)
theorem ofA5 (x y z a b c d e f : Int) : ConM Tryz.prog 51 [S9 x y z a b c d e f, p_ 0] [.cells [.int .i64 5] 0 false] (.int .i64 f) (List.replicate 1 .gone) := ConM.reads Tryz.func51 (by kernel_rfl) rfl <| R.fin mixed Tryz.func51 (by kernel_rfl)
theorem ofZ (x y z a b c d e f : Int) : ConM Tryz.prog 52 [S9 x y z a b c d e f] [] (.int .i64 z) (List.replicate 0 .gone) := ConM.reads Tryz.func52 (by kernel_rfl) rfl <| R.fin mixed Tryz.func52 (by kernel_rfl)

section
variable {x0 y0 z0 a0 b0 c0 d0 e0 f0 x1 y1 z1 a1 b1 c1 d1 e1 f1 x2 y2 z2 a2 b2 c2 d2 e2 f2 ar X0 Y0 X1 Y1 w0 w1 w2 : Int}
theorem mixA0 (h : mayM w0 w1 w2 a0 a1 a2) (h0 : ok20 a0) (h1 : ok20 a1) (h2 : ok20 a2) : ConM Tryz.prog 49 [.func (.func 51) ⟨[]⟩ ⟨[p_ 2]⟩, p_ 0, p_ 1] [wcells w0 w1 w2, .cells (tcells x0 y0 z0 a0 b0 c0 d0 e0 f0 x1 y1 z1 a1 b1 c1 d1 e1 f1 x2 y2 z2 a2 b2 c2 d2 e2 f2 ar X0 Y0 X1 Y1) 0 false, .cells [.int .i64 0] 0 false]
    (.int .i64 (mixed_ w0 w1 w2 a0 a1 a2)) (List.replicate 3 .gone) := by
  have hw := h
  unfold mayM Bary.okM at hw
  have cm := c_mix (w0 := w0) (w1 := w1) (w2 := w2) (v0 := a0) (v1 := a1) (v2 := a2) (by omega) (by omega) (by omega) (b20 h0).1 (b20 h1).1 (b20 h2).1 h
  exact ConM.reads Tryz.func49 (by kernel_rfl) rfl <| R.callM mixed [.win 2 0 1 false] (ofA0 x0 y0 z0 a0 b0 c0 d0 e0 f0) (by kernel_rfl) (by kernel_rfl) rfl <| R.callM mixed [.win 2 0 1 false] (ofA0 x1 y1 z1 a1 b1 c1 d1 e1 f1) (by kernel_rfl) (by kernel_rfl) rfl <|
    R.callM mixed [.win 2 0 1 false] (ofA0 x2 y2 z2 a2 b2 c2 d2 e2 f2) (by kernel_rfl) (by kernel_rfl) rfl <| R.call mixed cm (by kernel_rfl) <| R.fin mixed Tryz.func49 (by kernel_rfl)
theorem mixA1 (h : mayM w0 w1 w2 b0 b1 b2) (h0 : ok20 b0) (h1 : ok20 b1) (h2 : ok20 b2) : ConM Tryz.prog 49 [.func (.func 51) ⟨[]⟩ ⟨[p_ 2]⟩, p_ 0, p_ 1] [wcells w0 w1 w2, .cells (tcells x0 y0 z0 a0 b0 c0 d0 e0 f0 x1 y1 z1 a1 b1 c1 d1 e1 f1 x2 y2 z2 a2 b2 c2 d2 e2 f2 ar X0 Y0 X1 Y1) 0 false, .cells [.int .i64 1] 0 false]
    (.int .i64 (mixed_ w0 w1 w2 b0 b1 b2)) (List.replicate 3 .gone) := by
  have hw := h
  unfold mayM Bary.okM at hw
  have cm := c_mix (w0 := w0) (w1 := w1) (w2 := w2) (v0 := b0) (v1 := b1) (v2 := b2) (by omega) (by omega) (by omega) (b20 h0).1 (b20 h1).1 (b20 h2).1 h
  exact ConM.reads Tryz.func49 (by kernel_rfl) rfl <| R.callM mixed [.win 2 0 1 false] (ofA1 x0 y0 z0 a0 b0 c0 d0 e0 f0) (by kernel_rfl) (by kernel_rfl) rfl <| R.callM mixed [.win 2 0 1 false] (ofA1 x1 y1 z1 a1 b1 c1 d1 e1 f1) (by kernel_rfl) (by kernel_rfl) rfl <|
    R.callM mixed [.win 2 0 1 false] (ofA1 x2 y2 z2 a2 b2 c2 d2 e2 f2) (by kernel_rfl) (by kernel_rfl) rfl <| R.call mixed cm (by kernel_rfl) <| R.fin mixed Tryz.func49 (by kernel_rfl)
theorem mixA2 (h : mayM w0 w1 w2 c0 c1 c2) (h0 : ok20 c0) (h1 : ok20 c1) (h2 : ok20 c2) : ConM Tryz.prog 49 [.func (.func 51) ⟨[]⟩ ⟨[p_ 2]⟩, p_ 0, p_ 1] [wcells w0 w1 w2, .cells (tcells x0 y0 z0 a0 b0 c0 d0 e0 f0 x1 y1 z1 a1 b1 c1 d1 e1 f1 x2 y2 z2 a2 b2 c2 d2 e2 f2 ar X0 Y0 X1 Y1) 0 false, .cells [.int .i64 2] 0 false]
    (.int .i64 (mixed_ w0 w1 w2 c0 c1 c2)) (List.replicate 3 .gone) := by
  have hw := h
  unfold mayM Bary.okM at hw
  have cm := c_mix (w0 := w0) (w1 := w1) (w2 := w2) (v0 := c0) (v1 := c1) (v2 := c2) (by omega) (by omega) (by omega) (b20 h0).1 (b20 h1).1 (b20 h2).1 h
  exact ConM.reads Tryz.func49 (by kernel_rfl) rfl <| R.callM mixed [.win 2 0 1 false] (ofA2 x0 y0 z0 a0 b0 c0 d0 e0 f0) (by kernel_rfl) (by kernel_rfl) rfl <| R.callM mixed [.win 2 0 1 false] (ofA2 x1 y1 z1 a1 b1 c1 d1 e1 f1) (by kernel_rfl) (by kernel_rfl) rfl <|
    R.callM mixed [.win 2 0 1 false] (ofA2 x2 y2 z2 a2 b2 c2 d2 e2 f2) (by kernel_rfl) (by kernel_rfl) rfl <| R.call mixed cm (by kernel_rfl) <| R.fin mixed Tryz.func49 (by kernel_rfl)
theorem mixA3 (h : mayM w0 w1 w2 d0 d1 d2) (h0 : ok20 d0) (h1 : ok20 d1) (h2 : ok20 d2) : ConM Tryz.prog 49 [.func (.func 51) ⟨[]⟩ ⟨[p_ 2]⟩, p_ 0, p_ 1] [wcells w0 w1 w2, .cells (tcells x0 y0 z0 a0 b0 c0 d0 e0 f0 x1 y1 z1 a1 b1 c1 d1 e1 f1 x2 y2 z2 a2 b2 c2 d2 e2 f2 ar X0 Y0 X1 Y1) 0 false, .cells [.int .i64 3] 0 false]
    (.int .i64 (mixed_ w0 w1 w2 d0 d1 d2)) (List.replicate 3 .gone) := by
  have hw := h
  unfold mayM Bary.okM at hw
  have cm := c_mix (w0 := w0) (w1 := w1) (w2 := w2) (v0 := d0) (v1 := d1) (v2 := d2) (by omega) (by omega) (by omega) (b20 h0).1 (b20 h1).1 (b20 h2).1 h
  exact ConM.reads Tryz.func49 (by kernel_rfl) rfl <| R.callM mixed [.win 2 0 1 false] (ofA3 x0 y0 z0 a0 b0 c0 d0 e0 f0) (by kernel_rfl) (by kernel_rfl) rfl <| R.callM mixed [.win 2 0 1 false] (ofA3 x1 y1 z1 a1 b1 c1 d1 e1 f1) (by kernel_rfl) (by kernel_rfl) rfl <|
    R.callM mixed [.win 2 0 1 false] (ofA3 x2 y2 z2 a2 b2 c2 d2 e2 f2) (by kernel_rfl) (by kernel_rfl) rfl <| R.call mixed cm (by kernel_rfl) <| R.fin mixed Tryz.func49 (by kernel_rfl)
theorem mixA4 (h : mayM w0 w1 w2 e0 e1 e2) (h0 : ok20 e0) (h1 : ok20 e1) (h2 : ok20 e2) : ConM Tryz.prog 49 [.func (.func 51) ⟨[]⟩ ⟨[p_ 2]⟩, p_ 0, p_ 1] [wcells w0 w1 w2, .cells (tcells x0 y0 z0 a0 b0 c0 d0 e0 f0 x1 y1 z1 a1 b1 c1 d1 e1 f1 x2 y2 z2 a2 b2 c2 d2 e2 f2 ar X0 Y0 X1 Y1) 0 false, .cells [.int .i64 4] 0 false]
    (.int .i64 (mixed_ w0 w1 w2 e0 e1 e2)) (List.replicate 3 .gone) := by
  have hw := h
  unfold mayM Bary.okM at hw
  have cm := c_mix (w0 := w0) (w1 := w1) (w2 := w2) (v0 := e0) (v1 := e1) (v2 := e2) (by omega) (by omega) (by omega) (b20 h0).1 (b20 h1).1 (b20 h2).1 h
  exact ConM.reads Tryz.func49 (by kernel_rfl) rfl <| R.callM mixed [.win 2 0 1 false] (ofA4 x0 y0 z0 a0 b0 c0 d0 e0 f0) (by kernel_rfl) (by kernel_rfl) rfl <| R.callM mixed [.win 2 0 1 false] (ofA4 x1 y1 z1 a1 b1 c1 d1 e1 f1) (by kernel_rfl) (by kernel_rfl) rfl <|
    R.callM mixed [.win 2 0 1 false] (ofA4 x2 y2 z2 a2 b2 c2 d2 e2 f2) (by kernel_rfl) (by kernel_rfl) rfl <| R.call mixed cm (by kernel_rfl) <| R.fin mixed Tryz.func49 (by kernel_rfl)
theorem mixA5 (h : mayM w0 w1 w2 f0 f1 f2) (h0 : ok20 f0) (h1 : ok20 f1) (h2 : ok20 f2) : ConM Tryz.prog 49 [.func (.func 51) ⟨[]⟩ ⟨[p_ 2]⟩, p_ 0, p_ 1] [wcells w0 w1 w2, .cells (tcells x0 y0 z0 a0 b0 c0 d0 e0 f0 x1 y1 z1 a1 b1 c1 d1 e1 f1 x2 y2 z2 a2 b2 c2 d2 e2 f2 ar X0 Y0 X1 Y1) 0 false, .cells [.int .i64 5] 0 false]
    (.int .i64 (mixed_ w0 w1 w2 f0 f1 f2)) (List.replicate 3 .gone) := by
  have hw := h
  unfold mayM Bary.okM at hw
  have cm := c_mix (w0 := w0) (w1 := w1) (w2 := w2) (v0 := f0) (v1 := f1) (v2 := f2) (by omega) (by omega) (by omega) (b20 h0).1 (b20 h1).1 (b20 h2).1 h
  exact ConM.reads Tryz.func49 (by kernel_rfl) rfl <| R.callM mixed [.win 2 0 1 false] (ofA5 x0 y0 z0 a0 b0 c0 d0 e0 f0) (by kernel_rfl) (by kernel_rfl) rfl <| R.callM mixed [.win 2 0 1 false] (ofA5 x1 y1 z1 a1 b1 c1 d1 e1 f1) (by kernel_rfl) (by kernel_rfl) rfl <|
    R.callM mixed [.win 2 0 1 false] (ofA5 x2 y2 z2 a2 b2 c2 d2 e2 f2) (by kernel_rfl) (by kernel_rfl) rfl <| R.call mixed cm (by kernel_rfl) <| R.fin mixed Tryz.func49 (by kernel_rfl)
theorem mixZ (h : mayM w0 w1 w2 z0 z1 z2) : ConM Tryz.prog 49 [.func (.func 52) ⟨[]⟩ ⟨[]⟩, p_ 0, p_ 1] [wcells w0 w1 w2, .cells (tcells x0 y0 z0 a0 b0 c0 d0 e0 f0 x1 y1 z1 a1 b1 c1 d1 e1 f1 x2 y2 z2 a2 b2 c2 d2 e2 f2 ar X0 Y0 X1 Y1) 0 false] (.int .i64 (mixed_ w0 w1 w2 z0 z1 z2)) (List.replicate 2 .gone) := by
  have hw := h
  unfold mayM Bary.okM at hw
  have cm := c_mix (w0 := w0) (w1 := w1) (w2 := w2) (v0 := z0) (v1 := z1) (v2 := z2) (by omega) (by omega) (by omega) (by omega) (by omega) (by omega) h
  exact ConM.reads Tryz.func49 (by kernel_rfl) rfl <| R.callM mixed [] (ofZ x0 y0 z0 a0 b0 c0 d0 e0 f0) (by kernel_rfl) (by kernel_rfl) rfl <| R.callM mixed [] (ofZ x1 y1 z1 a1 b1 c1 d1 e1 f1) (by kernel_rfl) (by kernel_rfl) rfl <|
    R.callM mixed [] (ofZ x2 y2 z2 a2 b2 c2 d2 e2 f2) (by kernel_rfl) (by kernel_rfl) rfl <| R.call mixed cm (by kernel_rfl) <| R.fin mixed Tryz.func49 (by kernel_rfl)

abbrev A6 (a b c d e f : Int) : Value := .agg ⟨[.int .i64 a, .int .i64 b, .int .i64 c, .int .i64 d, .int .i64 e, .int .i64 f]⟩
theorem c_points : Con Tryz.prog 48 [T32 x0 y0 z0 a0 b0 c0 d0 e0 f0 x1 y1 z1 a1 b1 c1 d1 e1 f1 x2 y2 z2 a2 b2 c2 d2 e2 f2 ar X0 Y0 X1 Y1] (T6 x0 y0 x1 y1 x2 y2) := Con.run Tryz.func48 (by kernel_rfl) rfl <| R.fin mixed Tryz.func48 (by kernel_rfl)

/-- What a triangle has at a pixel that it has. -/
theorem at_ {px py mx my : Int} (h0 : okP x0 y0 = true) (h1 : okP x1 y1 = true) (h2 : okP x2 y2 = true) (hm : okP mx my = true) (r0 : restS z0 a0 b0 c0 d0 e0 f0) (r1 : restS z1 a1 b1 c1 d1 e1 f1) (r2 : restS z2 a2 b2 c2 d2 e2 f2)
    (hH : Con Tryz.prog 45 [T32 x0 y0 z0 a0 b0 c0 d0 e0 f0 x1 y1 z1 a1 b1 c1 d1 e1 f1 x2 y2 z2 a2 b2 c2 d2 e2 f2 ar X0 Y0 X1 Y1, .int .i64 px, .int .i64 py] (.bool true)) (hM : Con Tryz.prog 46 [.int .i64 px, .int .i64 py] (.tuple ⟨[PT mx my, .int .i64 0]⟩))
    (hs0 : sideR x1 y1 x2 y2 mx my = w0) (hs1 : sideR x2 y2 x0 y0 mx my = w1) (hs2 : sideR x0 y0 x1 y1 mx my = w2) (q0 : 0 ≤ w0) (q1 : 0 ≤ w1) (q2 : 0 ≤ w2) (qs : 0 < w0 + w1 + w2) (u0 : w0 ≤ 4398046511104) (u1 : w1 ≤ 4398046511104) (u2 : w2 ≤ 4398046511104) :
    Con Tryz.prog 16 [T32 x0 y0 z0 a0 b0 c0 d0 e0 f0 x1 y1 z1 a1 b1 c1 d1 e1 f1 x2 y2 z2 a2 b2 c2 d2 e2 f2 ar X0 Y0 X1 Y1, .int .i64 px, .int .i64 py] (.tuple ⟨[.int .i64 (mixed_ w0 w1 w2 z0 z1 z2), A6 (mixed_ w0 w1 w2 a0 a1 a2) (mixed_ w0 w1 w2 b0 b1 b2) (mixed_ w0 w1 w2 c0 c1 c2) (mixed_ w0 w1 w2 d0 d1 d2) (mixed_ w0 w1 w2 e0 e1 e2) (mixed_ w0 w1 w2 f0 f1 f2), .bool true]⟩) := by
  have hw := c_weights h0 h1 h2 hm
  rw [hs0, hs1, hs2] at hw
  obtain ⟨k0, ka0, kb0, kc0, kd0, ke0, kf0⟩ := r0
  obtain ⟨k1, ka1, kb1, kc1, kd1, ke1, kf1⟩ := r1
  obtain ⟨k2, ka2, kb2, kc2, kd2, ke2, kf2⟩ := r2
  have M : ∀ {v0 v1 v2 : Int}, (-1073741824 ≤ v0 ∧ v0 ≤ 1073741824) → (-1073741824 ≤ v1 ∧ v1 ≤ 1073741824) → (-1073741824 ≤ v2 ∧ v2 ≤ 1073741824) → mayM w0 w1 w2 v0 v1 v2 := fun a b c => ⟨⟨q0, u0, a.1, a.2⟩, ⟨q1, u1, b.1, b.2⟩, ⟨q2, u2, c.1, c.2⟩, qs⟩
  exact Con.run Tryz.func16 (by kernel_rfl) rfl <| R.call mixed hH (by kernel_rfl) <| R.call mixed hM (by kernel_rfl) <| R.call mixed (@c_points x0 y0 z0 a0 b0 c0 d0 e0 f0 x1 y1 z1 a1 b1 c1 d1 e1 f1 x2 y2 z2 a2 b2 c2 d2 e2 f2 ar X0 Y0 X1 Y1) (by kernel_rfl) <| R.call mixed hw (by kernel_rfl) <|
    R.callM mixed [.win 3 0 3 false, .win 0 0 32 false, .win 5 0 1 false] (@mixA0 x0 y0 z0 a0 b0 c0 d0 e0 f0 x1 y1 z1 a1 b1 c1 d1 e1 f1 x2 y2 z2 a2 b2 c2 d2 e2 f2 ar X0 Y0 X1 Y1 w0 w1 w2 (M (b20 ka0).2 (b20 ka1).2 (b20 ka2).2) ka0 ka1 ka2) (by kernel_rfl) (by kernel_rfl) rfl <|
    R.callM mixed [.win 3 0 3 false, .win 0 0 32 false, .win 6 0 1 false] (@mixA1 x0 y0 z0 a0 b0 c0 d0 e0 f0 x1 y1 z1 a1 b1 c1 d1 e1 f1 x2 y2 z2 a2 b2 c2 d2 e2 f2 ar X0 Y0 X1 Y1 w0 w1 w2 (M (b20 kb0).2 (b20 kb1).2 (b20 kb2).2) kb0 kb1 kb2) (by kernel_rfl) (by kernel_rfl) rfl <|
    R.callM mixed [.win 3 0 3 false, .win 0 0 32 false, .win 7 0 1 false] (@mixA2 x0 y0 z0 a0 b0 c0 d0 e0 f0 x1 y1 z1 a1 b1 c1 d1 e1 f1 x2 y2 z2 a2 b2 c2 d2 e2 f2 ar X0 Y0 X1 Y1 w0 w1 w2 (M (b20 kc0).2 (b20 kc1).2 (b20 kc2).2) kc0 kc1 kc2) (by kernel_rfl) (by kernel_rfl) rfl <|
    R.callM mixed [.win 3 0 3 false, .win 0 0 32 false, .win 8 0 1 false] (@mixA3 x0 y0 z0 a0 b0 c0 d0 e0 f0 x1 y1 z1 a1 b1 c1 d1 e1 f1 x2 y2 z2 a2 b2 c2 d2 e2 f2 ar X0 Y0 X1 Y1 w0 w1 w2 (M (b20 kd0).2 (b20 kd1).2 (b20 kd2).2) kd0 kd1 kd2) (by kernel_rfl) (by kernel_rfl) rfl <|
    R.callM mixed [.win 3 0 3 false, .win 0 0 32 false, .win 9 0 1 false] (@mixA4 x0 y0 z0 a0 b0 c0 d0 e0 f0 x1 y1 z1 a1 b1 c1 d1 e1 f1 x2 y2 z2 a2 b2 c2 d2 e2 f2 ar X0 Y0 X1 Y1 w0 w1 w2 (M (b20 ke0).2 (b20 ke1).2 (b20 ke2).2) ke0 ke1 ke2) (by kernel_rfl) (by kernel_rfl) rfl <|
    R.callM mixed [.win 3 0 3 false, .win 0 0 32 false, .win 10 0 1 false] (@mixA5 x0 y0 z0 a0 b0 c0 d0 e0 f0 x1 y1 z1 a1 b1 c1 d1 e1 f1 x2 y2 z2 a2 b2 c2 d2 e2 f2 ar X0 Y0 X1 Y1 w0 w1 w2 (M (b20 kf0).2 (b20 kf1).2 (b20 kf2).2) kf0 kf1 kf2) (by kernel_rfl) (by kernel_rfl) rfl <|
    R.callM mixed [.win 3 0 3 false, .win 0 0 32 false] (@mixZ x0 y0 z0 a0 b0 c0 d0 e0 f0 x1 y1 z1 a1 b1 c1 d1 e1 f1 x2 y2 z2 a2 b2 c2 d2 e2 f2 ar X0 Y0 X1 Y1 w0 w1 w2 (@M z0 z1 z2 (by omega) (by omega) (by omega))) (by kernel_rfl) (by kernel_rfl) rfl <| R.fin mixed Tryz.func16 (by kernel_rfl)
end

end

section
open Go Go.Dt Go.Proofs Go.Proofs.YtfkmhhbpomkakaaGreat.Wide Go.Proofs.YtfkmhhbpomkakaaGreat.Bary
set_option linter.unusedVariables false
set_option linter.unusedSimpArgs false

section
variable {x0 y0 z0 a0 b0 c0 d0 e0 f0 x1 y1 z1 a1 b1 c1 d1 e1 f1 x2 y2 z2 a2 b2 c2 d2 e2 f2 : Int}
end

end

end Go.Proofs.YtfkmhhbpomkakaaGreat.Tri
