/- Several texts in one: CA, CB. -/
import Derived.Test.YtfkmhhbpomkakaaQA11
import Derived.Test.YtfkmhhbpomkakaaQA22
namespace Go.Proofs.Ytfkmhhbpomkakaa.Clip

section
open Go Go.Dt Go.Proofs Go.Proofs.Ytfkmhhbpomkakaa.Wide
set_option linter.unusedVariables false
set_option linter.unusedSimpArgs false

abbrev C10 (x y z w a b c d e f : Int) : Value := .agg ⟨[.int .i64 x, .int .i64 y, .int .i64 z, .int .i64 w, .int .i64 a, .int .i64 b, .int .i64 c, .int .i64 d, .int .i64 e, .int .i64 f]⟩
abbrev V4 (x y z w : Int) : Value := .agg ⟨[.int .i64 x, .int .i64 y, .int .i64 z, .int .i64 w]⟩
def ok30 (n : Int) : Prop := -1073741824 ≤ n ∧ n ≤ 1073741824
def ok20 (n : Int) : Prop := -1048576 ≤ n ∧ n ≤ 1048576
def mayV (x y z w : Int) : Prop := ok30 x ∧ ok30 y ∧ ok30 z ∧ ok30 w
def mayC (x y z w a b c d e f : Int) : Prop := mayV x y z w ∧ ok20 a ∧ ok20 b ∧ ok20 c ∧ ok20 d ∧ ok20 e ∧ ok20 f
instance (n : Int) : Decidable (ok30 n) := by unfold ok30; infer_instance
instance (x y z w : Int) : Decidable (mayV x y z w) := by unfold mayV ok30; infer_instance
instance (x y z w a b c d e f : Int) : Decidable (mayC x y z w a b c d e f) := by unfold mayC mayV ok30 ok20; infer_instance

theorem c_may (x y z w a b c d e f : Int) : Con Try.prog 48 [C10 x y z w a b c d e f] (.bool (decide (mayC x y z w a b c d e f))) := by
  refine Con.run Try.func48 (by kernel_rfl) rfl ?_
  rcases Decidable.em (mayC x y z w a b c d e f) with h | h
  · rw [decide_eq_true h]
    simp only [mayC, mayV, ok30, ok20] at h
    exact
            R.guardIs mixed 46 (decide (x < -1073741824)) false (by simp; omega) (by kernel_rfl) <|
            R.cond mixed 4 (bif false then true else decide (x > 1073741824)) false (by simp; omega) (by kernel_rfl) <|
            R.guardIs mixed 27 (decide (y < -1073741824)) false (by simp; omega) (by kernel_rfl) <|
            R.cond mixed 4 (bif false then true else decide (y > 1073741824)) false (by simp; omega) (by kernel_rfl) <|
            R.guardIs mixed 27 (decide (z < -1073741824)) false (by simp; omega) (by kernel_rfl) <|
            R.cond mixed 4 (bif false then true else decide (z > 1073741824)) false (by simp; omega) (by kernel_rfl) <|
            R.guardIs mixed 27 (decide (w < -1073741824)) false (by simp; omega) (by kernel_rfl) <|
            R.cond mixed 4 (bif false then true else decide (w > 1073741824)) false (by simp; omega) (by kernel_rfl) <|
            R.guardIs mixed 42 (decide (a < -1048576)) false (by simp; omega) (by kernel_rfl) <|
            R.cond mixed 4 (bif false then true else decide (a > 1048576)) false (by simp; omega) (by kernel_rfl) <|
            R.guardIs mixed 26 (decide (b < -1048576)) false (by simp; omega) (by kernel_rfl) <|
            R.cond mixed 4 (bif false then true else decide (b > 1048576)) false (by simp; omega) (by kernel_rfl) <|
            R.guardIs mixed 26 (decide (c < -1048576)) false (by simp; omega) (by kernel_rfl) <|
            R.cond mixed 4 (bif false then true else decide (c > 1048576)) false (by simp; omega) (by kernel_rfl) <|
            R.guardIs mixed 26 (decide (d < -1048576)) false (by simp; omega) (by kernel_rfl) <|
            R.cond mixed 4 (bif false then true else decide (d > 1048576)) false (by simp; omega) (by kernel_rfl) <|
            R.guardIs mixed 26 (decide (e < -1048576)) false (by simp; omega) (by kernel_rfl) <|
            R.cond mixed 4 (bif false then true else decide (e > 1048576)) false (by simp; omega) (by kernel_rfl) <|
            R.guardIs mixed 26 (decide (f < -1048576)) false (by simp; omega) (by kernel_rfl) <|
            R.cond mixed 4 (bif false then true else decide (f > 1048576)) false (by simp; omega) (by kernel_rfl) <|
            R.fin mixed Try.func48 (by kernel_rfl)

  · rw [decide_eq_false h]
    simp only [mayC, mayV, ok30, ok20] at h
    exact
          RunsE.adv mixed 46 <| RunsE.guard 27 (decide (x < -1073741824)) (by kernel_rfl)
           (fun h0 =>
             R.finIs mixed Try.func48 (Value.bool false) (by kernel_rfl) (by first | rfl | (exfalso; simp at *; omega))
           )
           (fun h0 =>
             RunsE.adv mixed 4 <| RunsE.branch (bif false then true else decide (x > 1073741824)) (by kernel_rfl)
              (fun h1 =>
                R.finIs mixed Try.func48 (Value.bool false) (by kernel_rfl) (by first | rfl | (exfalso; simp at *; omega))
              )
              (fun h1 =>
                RunsE.adv mixed 27 <| RunsE.guard 27 (decide (y < -1073741824)) (by kernel_rfl)
                 (fun h2 =>
                   R.finIs mixed Try.func48 (Value.bool false) (by kernel_rfl) (by first | rfl | (exfalso; simp at *; omega))
                 )
                 (fun h2 =>
                   RunsE.adv mixed 4 <| RunsE.branch (bif false then true else decide (y > 1073741824)) (by kernel_rfl)
                    (fun h3 =>
                      R.finIs mixed Try.func48 (Value.bool false) (by kernel_rfl) (by first | rfl | (exfalso; simp at *; omega))
                    )
                    (fun h3 =>
                      RunsE.adv mixed 27 <| RunsE.guard 27 (decide (z < -1073741824)) (by kernel_rfl)
                       (fun h4 =>
                         R.finIs mixed Try.func48 (Value.bool false) (by kernel_rfl) (by first | rfl | (exfalso; simp at *; omega))
                       )
                       (fun h4 =>
                         RunsE.adv mixed 4 <| RunsE.branch (bif false then true else decide (z > 1073741824)) (by kernel_rfl)
                          (fun h5 =>
                            R.finIs mixed Try.func48 (Value.bool false) (by kernel_rfl) (by first | rfl | (exfalso; simp at *; omega))
                          )
                          (fun h5 =>
                            RunsE.adv mixed 27 <| RunsE.guard 27 (decide (w < -1073741824)) (by kernel_rfl)
                             (fun h6 =>
                               R.finIs mixed Try.func48 (Value.bool false) (by kernel_rfl) (by first | rfl | (exfalso; simp at *; omega))
                             )
                             (fun h6 =>
                               RunsE.adv mixed 4 <| RunsE.branch (bif false then true else decide (w > 1073741824)) (by kernel_rfl)
                                (fun h7 =>
                                  R.finIs mixed Try.func48 (Value.bool false) (by kernel_rfl) (by first | rfl | (exfalso; simp at *; omega))
                                )
                                (fun h7 =>
                                  RunsE.adv mixed 42 <| RunsE.guard 39 (decide (a < -1048576)) (by kernel_rfl)
                                   (fun h8 =>
                                     R.finIs mixed Try.func48 (Value.bool false) (by kernel_rfl) (by first | rfl | (exfalso; simp at *; omega))
                                   )
                                   (fun h8 =>
                                     RunsE.adv mixed 4 <| RunsE.branch (bif false then true else decide (a > 1048576)) (by kernel_rfl)
                                      (fun h9 =>
                                        R.finIs mixed Try.func48 (Value.bool false) (by kernel_rfl) (by first | rfl | (exfalso; simp at *; omega))
                                      )
                                      (fun h9 =>
                                        RunsE.adv mixed 26 <| RunsE.guard 39 (decide (b < -1048576)) (by kernel_rfl)
                                         (fun h10 =>
                                           R.finIs mixed Try.func48 (Value.bool false) (by kernel_rfl) (by first | rfl | (exfalso; simp at *; omega))
                                         )
                                         (fun h10 =>
                                           RunsE.adv mixed 4 <| RunsE.branch (bif false then true else decide (b > 1048576)) (by kernel_rfl)
                                            (fun h11 =>
                                              R.finIs mixed Try.func48 (Value.bool false) (by kernel_rfl) (by first | rfl | (exfalso; simp at *; omega))
                                            )
                                            (fun h11 =>
                                              RunsE.adv mixed 26 <| RunsE.guard 39 (decide (c < -1048576)) (by kernel_rfl)
                                               (fun h12 =>
                                                 R.finIs mixed Try.func48 (Value.bool false) (by kernel_rfl) (by first | rfl | (exfalso; simp at *; omega))
                                               )
                                               (fun h12 =>
                                                 RunsE.adv mixed 4 <| RunsE.branch (bif false then true else decide (c > 1048576)) (by kernel_rfl)
                                                  (fun h13 =>
                                                    R.finIs mixed Try.func48 (Value.bool false) (by kernel_rfl) (by first | rfl | (exfalso; simp at *; omega))
                                                  )
                                                  (fun h13 =>
                                                    RunsE.adv mixed 26 <| RunsE.guard 39 (decide (d < -1048576)) (by kernel_rfl)
                                                     (fun h14 =>
                                                       R.finIs mixed Try.func48 (Value.bool false) (by kernel_rfl) (by first | rfl | (exfalso; simp at *; omega))
                                                     )
                                                     (fun h14 =>
                                                       RunsE.adv mixed 4 <| RunsE.branch (bif false then true else decide (d > 1048576)) (by kernel_rfl)
                                                        (fun h15 =>
                                                          R.finIs mixed Try.func48 (Value.bool false) (by kernel_rfl) (by first | rfl | (exfalso; simp at *; omega))
                                                        )
                                                        (fun h15 =>
                                                          RunsE.adv mixed 26 <| RunsE.guard 39 (decide (e < -1048576)) (by kernel_rfl)
                                                           (fun h16 =>
                                                             R.finIs mixed Try.func48 (Value.bool false) (by kernel_rfl) (by first | rfl | (exfalso; simp at *; omega))
                                                           )
                                                           (fun h16 =>
                                                             RunsE.adv mixed 4 <| RunsE.branch (bif false then true else decide (e > 1048576)) (by kernel_rfl)
                                                              (fun h17 =>
                                                                R.finIs mixed Try.func48 (Value.bool false) (by kernel_rfl) (by first | rfl | (exfalso; simp at *; omega))
                                                              )
                                                              (fun h17 =>
                                                                RunsE.adv mixed 26 <| RunsE.guard 39 (decide (f < -1048576)) (by kernel_rfl)
                                                                 (fun h18 =>
                                                                   R.finIs mixed Try.func48 (Value.bool false) (by kernel_rfl) (by first | rfl | (exfalso; simp at *; omega))
                                                                 )
                                                                 (fun h18 =>
                                                                   RunsE.adv mixed 4 <| RunsE.branch (bif false then true else decide (f > 1048576)) (by kernel_rfl)
                                                                    (fun h19 =>
                                                                      R.finIs mixed Try.func48 (Value.bool false) (by kernel_rfl) (by first | rfl | (exfalso; simp at *; omega))
                                                                    )
                                                                    (fun h19 =>
                                                                      R.finIs mixed Try.func48 (Value.bool true) (by kernel_rfl) (by first | rfl | (exfalso; simp at *; omega))
                                                                    )
                                                                 )
                                                              )
                                                           )
                                                        )
                                                     )
                                                  )
                                               )
                                            )
                                         )
                                      )
                                   )
                                )
                             )
                          )
                       )
                    )
                 )
              )
           )

theorem c_within (n : Int) : Con Try.prog 97 [.int .i64 n, .int .i64 1073741824] (.bool (decide (ok30 n))) := by
  refine Con.run Try.func97 (by kernel_rfl) rfl (R.guard mixed 11 (decide (n ≥ -1073741824)) (by kernel_rfl) (fun h => ?_) (fun h => ?_))
  · exact R.finIs mixed Try.func97 (.bool (bif true then decide (n ≤ 1073741824) else false)) (by kernel_rfl) (by simp at h; simp [ok30, h])
  · exact R.finIs mixed Try.func97 (.bool false) (by kernel_rfl) (by simp at h; rw [decide_eq_false (by unfold ok30; omega)])

theorem c_within' {n : Int} {o : Bool} (h : decide (ok30 n) = o) : Con Try.prog 97 [.int .i64 n, .int .i64 1073741824] (.bool o) := h ▸ c_within n

theorem c_fits (x y z w : Int) : Con Try.prog 50 [V4 x y z w] (.bool (decide (mayV x y z w))) := by
  refine Con.run Try.func50 (by kernel_rfl) rfl ?_
  rcases Decidable.em (ok30 x) with h1 | h1
  · rcases Decidable.em (ok30 y) with h2 | h2
    · rcases Decidable.em (ok30 z) with h3 | h3
      · have e : decide (mayV x y z w) = decide (ok30 w) := by rw [decide_eq_decide]; unfold mayV; exact ⟨fun h => h.2.2.2, fun h => ⟨h1, h2, h3, h⟩⟩
        rw [e]
        exact R.call mixed (c_within' (decide_eq_true h1)) (by kernel_rfl) <| R.call mixed (c_within' (decide_eq_true h2)) (by kernel_rfl) <| R.call mixed (c_within' (decide_eq_true h3)) (by kernel_rfl) <| R.call mixed (c_within w) (by kernel_rfl) <| R.fin mixed Try.func50 (by kernel_rfl)
      · rw [decide_eq_false (fun h => h3 h.2.2.1)]
        exact R.call mixed (c_within' (decide_eq_true h1)) (by kernel_rfl) <| R.call mixed (c_within' (decide_eq_true h2)) (by kernel_rfl) <| R.call mixed (c_within' (decide_eq_false h3)) (by kernel_rfl) <| R.fin mixed Try.func50 (by kernel_rfl)
    · rw [decide_eq_false (fun h => h2 h.2.1)]
      exact R.call mixed (c_within' (decide_eq_true h1)) (by kernel_rfl) <| R.call mixed (c_within' (decide_eq_false h2)) (by kernel_rfl) <| R.fin mixed Try.func50 (by kernel_rfl)
  · rw [decide_eq_false (fun h => h1 h.1)]
    exact R.call mixed (c_within' (decide_eq_false h1)) (by kernel_rfl) <| R.fin mixed Try.func50 (by kernel_rfl)

theorem c_fits' {x y z w : Int} {o : Bool} (h : decide (mayV x y z w) = o) : Con Try.prog 50 [V4 x y z w] (.bool o) := h ▸ c_fits x y z w

theorem c_rmayC (x y z w a b c d e f : Int) : Con Try.prog 16 [C10 x y z w a b c d e f] (.bool (decide (mayC x y z w a b c d e f))) := by
  refine Con.run Try.func16 (by kernel_rfl) rfl ?_
  rcases Decidable.em (mayV x y z w) with hv | hv
  · rcases Decidable.em (mayC x y z w a b c d e f) with h | h
    · rw [decide_eq_true h]
      have h' := h.2
      simp only [ok20] at h'
      exact
            R.call mixed (c_fits' (decide_eq_true hv)) (by kernel_rfl) <|
            R.guardIs mixed 29 (decide (a < -1048576)) false (by simp; omega) (by kernel_rfl) <|
            R.cond mixed 7 (bif false then true else decide (a > 1048576)) false (by simp; omega) (by kernel_rfl) <|
            R.guardIs mixed 26 (decide (b < -1048576)) false (by simp; omega) (by kernel_rfl) <|
            R.cond mixed 7 (bif false then true else decide (b > 1048576)) false (by simp; omega) (by kernel_rfl) <|
            R.guardIs mixed 26 (decide (c < -1048576)) false (by simp; omega) (by kernel_rfl) <|
            R.cond mixed 7 (bif false then true else decide (c > 1048576)) false (by simp; omega) (by kernel_rfl) <|
            R.guardIs mixed 26 (decide (d < -1048576)) false (by simp; omega) (by kernel_rfl) <|
            R.cond mixed 7 (bif false then true else decide (d > 1048576)) false (by simp; omega) (by kernel_rfl) <|
            R.guardIs mixed 26 (decide (e < -1048576)) false (by simp; omega) (by kernel_rfl) <|
            R.cond mixed 7 (bif false then true else decide (e > 1048576)) false (by simp; omega) (by kernel_rfl) <|
            R.guardIs mixed 26 (decide (f < -1048576)) false (by simp; omega) (by kernel_rfl) <|
            R.cond mixed 7 (bif false then true else decide (f > 1048576)) false (by simp; omega) (by kernel_rfl) <|
            R.fin mixed Try.func16 (by kernel_rfl)

    · rw [decide_eq_false h]
      have h' : ¬ (ok20 a ∧ ok20 b ∧ ok20 c ∧ ok20 d ∧ ok20 e ∧ ok20 f) := fun k => h ⟨hv, k⟩
      simp only [ok20] at h'
      clear h
      exact
          R.call mixed (c_fits' (decide_eq_true hv)) (by kernel_rfl) <|
          RunsE.adv mixed 29 <| RunsE.guard 17 (decide (a < -1048576)) (by kernel_rfl)
           (fun h0 =>
             R.finIs mixed Try.func16 (Value.bool false) (by kernel_rfl) (by first | rfl | (exfalso; simp at *; omega))
           )
           (fun h0 =>
             RunsE.adv mixed 7 <| RunsE.branch (bif false then true else decide (a > 1048576)) (by kernel_rfl)
              (fun h1 =>
                R.finIs mixed Try.func16 (Value.bool false) (by kernel_rfl) (by first | rfl | (exfalso; simp at *; omega))
              )
              (fun h1 =>
                RunsE.adv mixed 26 <| RunsE.guard 17 (decide (b < -1048576)) (by kernel_rfl)
                 (fun h2 =>
                   R.finIs mixed Try.func16 (Value.bool false) (by kernel_rfl) (by first | rfl | (exfalso; simp at *; omega))
                 )
                 (fun h2 =>
                   RunsE.adv mixed 7 <| RunsE.branch (bif false then true else decide (b > 1048576)) (by kernel_rfl)
                    (fun h3 =>
                      R.finIs mixed Try.func16 (Value.bool false) (by kernel_rfl) (by first | rfl | (exfalso; simp at *; omega))
                    )
                    (fun h3 =>
                      RunsE.adv mixed 26 <| RunsE.guard 17 (decide (c < -1048576)) (by kernel_rfl)
                       (fun h4 =>
                         R.finIs mixed Try.func16 (Value.bool false) (by kernel_rfl) (by first | rfl | (exfalso; simp at *; omega))
                       )
                       (fun h4 =>
                         RunsE.adv mixed 7 <| RunsE.branch (bif false then true else decide (c > 1048576)) (by kernel_rfl)
                          (fun h5 =>
                            R.finIs mixed Try.func16 (Value.bool false) (by kernel_rfl) (by first | rfl | (exfalso; simp at *; omega))
                          )
                          (fun h5 =>
                            RunsE.adv mixed 26 <| RunsE.guard 17 (decide (d < -1048576)) (by kernel_rfl)
                             (fun h6 =>
                               R.finIs mixed Try.func16 (Value.bool false) (by kernel_rfl) (by first | rfl | (exfalso; simp at *; omega))
                             )
                             (fun h6 =>
                               RunsE.adv mixed 7 <| RunsE.branch (bif false then true else decide (d > 1048576)) (by kernel_rfl)
                                (fun h7 =>
                                  R.finIs mixed Try.func16 (Value.bool false) (by kernel_rfl) (by first | rfl | (exfalso; simp at *; omega))
                                )
                                (fun h7 =>
                                  RunsE.adv mixed 26 <| RunsE.guard 17 (decide (e < -1048576)) (by kernel_rfl)
                                   (fun h8 =>
                                     R.finIs mixed Try.func16 (Value.bool false) (by kernel_rfl) (by first | rfl | (exfalso; simp at *; omega))
                                   )
                                   (fun h8 =>
                                     RunsE.adv mixed 7 <| RunsE.branch (bif false then true else decide (e > 1048576)) (by kernel_rfl)
                                      (fun h9 =>
                                        R.finIs mixed Try.func16 (Value.bool false) (by kernel_rfl) (by first | rfl | (exfalso; simp at *; omega))
                                      )
                                      (fun h9 =>
                                        RunsE.adv mixed 26 <| RunsE.guard 17 (decide (f < -1048576)) (by kernel_rfl)
                                         (fun h10 =>
                                           R.finIs mixed Try.func16 (Value.bool false) (by kernel_rfl) (by first | rfl | (exfalso; simp at *; omega))
                                         )
                                         (fun h10 =>
                                           RunsE.adv mixed 7 <| RunsE.branch (bif false then true else decide (f > 1048576)) (by kernel_rfl)
                                            (fun h11 =>
                                              R.finIs mixed Try.func16 (Value.bool false) (by kernel_rfl) (by first | rfl | (exfalso; simp at *; omega))
                                            )
                                            (fun h11 =>
                                              R.finIs mixed Try.func16 (Value.bool true) (by kernel_rfl) (by first | rfl | (exfalso; simp at *; omega))
                                            )
                                         )
                                      )
                                   )
                                )
                             )
                          )
                       )
                    )
                 )
              )
           )

  · rw [decide_eq_false (fun h => hv h.1)]
    exact R.call mixed (c_fits' (decide_eq_false hv)) (by kernel_rfl) <| R.fin mixed Try.func16 (by kernel_rfl)

/-! ### How far -/
def farI (k x y z w : Int) : Int := if k = 1 then z + w else if k = 2 then w - z else if k = 3 then 4 * w - x else if k = 4 then 4 * w + x else if k = 5 then 4 * w - y else if k = 6 then 4 * w + y else w - 1
theorem farI_bounds {k x y z w : Int} (h : mayV x y z w) : -5368709121 ≤ farI k x y z w ∧ farI k x y z w ≤ 5368709121 := by
  simp only [mayV, ok30] at h
  unfold farI
  repeat' split
  all_goals omega

theorem c_far {k x y z w : Int} (hk : 0 ≤ k ∧ k ≤ 6) (h : mayV x y z w) : Con Try.prog 49 [.int .i64 k, V4 x y z w] (.int .i64 (farI k x y z w)) := by
  simp only [mayV, ok30] at h
  have e4 : IntKind.i64.wrap (4 * w) = 4 * w := wrap_i64_of (by omega) (by omega)
  have hk' : k = 0 ∨ k = 1 ∨ k = 2 ∨ k = 3 ∨ k = 4 ∨ k = 5 ∨ k = 6 := by omega
  rcases hk' with rfl | rfl | rfl | rfl | rfl | rfl | rfl
  · exact Con.run Try.func49 (by kernel_rfl) rfl (R.finIs mixed Try.func49 (.int .i64 (IntKind.i64.wrap (w - 1))) (by kernel_rfl) (by rw [wrap_i64_of (by omega) (by omega)]; simp [farI]))
  · exact Con.run Try.func49 (by kernel_rfl) rfl (R.finIs mixed Try.func49 (.int .i64 (IntKind.i64.wrap (z + w))) (by kernel_rfl) (by rw [wrap_i64_of (by omega) (by omega)]; simp [farI]))
  · exact Con.run Try.func49 (by kernel_rfl) rfl (R.finIs mixed Try.func49 (.int .i64 (IntKind.i64.wrap (w - z))) (by kernel_rfl) (by rw [wrap_i64_of (by omega) (by omega)]; simp [farI]))
  · exact Con.run Try.func49 (by kernel_rfl) rfl (R.finIs mixed Try.func49 (.int .i64 (IntKind.i64.wrap (IntKind.i64.wrap (4 * w) - x))) (by kernel_rfl) (by rw [e4, wrap_i64_of (by omega) (by omega)]; simp [farI]))
  · exact Con.run Try.func49 (by kernel_rfl) rfl (R.finIs mixed Try.func49 (.int .i64 (IntKind.i64.wrap (IntKind.i64.wrap (4 * w) + x))) (by kernel_rfl) (by rw [e4, wrap_i64_of (by omega) (by omega)]; simp [farI]))
  · exact Con.run Try.func49 (by kernel_rfl) rfl (R.finIs mixed Try.func49 (.int .i64 (IntKind.i64.wrap (IntKind.i64.wrap (4 * w) - y))) (by kernel_rfl) (by rw [e4, wrap_i64_of (by omega) (by omega)]; simp [farI]))
  · exact Con.run Try.func49 (by kernel_rfl) rfl (R.finIs mixed Try.func49 (.int .i64 (IntKind.i64.wrap (IntKind.i64.wrap (4 * w) + y))) (by kernel_rfl) (by rw [e4, wrap_i64_of (by omega) (by omega)]; simp [farI]))

theorem c_rfar {k x y z w : Int} (hk : 0 ≤ k ∧ k ≤ 6) (h : mayV x y z w) : Con Try.prog 17 [.int .i64 k, V4 x y z w] (.int .i64 (farI k x y z w)) := by
  simp only [mayV, ok30] at h
  have e4 : IntKind.i64.wrap (4 * w) = 4 * w := wrap_i64_of (by omega) (by omega)
  have hk' : k = 0 ∨ k = 1 ∨ k = 2 ∨ k = 3 ∨ k = 4 ∨ k = 5 ∨ k = 6 := by omega
  rcases hk' with rfl | rfl | rfl | rfl | rfl | rfl | rfl
  · exact Con.run Try.func17 (by kernel_rfl) rfl (R.finIs mixed Try.func17 (.int .i64 (IntKind.i64.wrap (w - 1))) (by kernel_rfl) (by rw [wrap_i64_of (by omega) (by omega)]; simp [farI]))
  · exact Con.run Try.func17 (by kernel_rfl) rfl (R.finIs mixed Try.func17 (.int .i64 (IntKind.i64.wrap (z + w))) (by kernel_rfl) (by rw [wrap_i64_of (by omega) (by omega)]; simp [farI]))
  · exact Con.run Try.func17 (by kernel_rfl) rfl (R.finIs mixed Try.func17 (.int .i64 (IntKind.i64.wrap (w - z))) (by kernel_rfl) (by rw [wrap_i64_of (by omega) (by omega)]; simp [farI]))
  · exact Con.run Try.func17 (by kernel_rfl) rfl (R.finIs mixed Try.func17 (.int .i64 (IntKind.i64.wrap (IntKind.i64.wrap (4 * w) - x))) (by kernel_rfl) (by rw [e4, wrap_i64_of (by omega) (by omega)]; simp [farI]))
  · exact Con.run Try.func17 (by kernel_rfl) rfl (R.finIs mixed Try.func17 (.int .i64 (IntKind.i64.wrap (IntKind.i64.wrap (4 * w) + x))) (by kernel_rfl) (by rw [e4, wrap_i64_of (by omega) (by omega)]; simp [farI]))
  · exact Con.run Try.func17 (by kernel_rfl) rfl (R.finIs mixed Try.func17 (.int .i64 (IntKind.i64.wrap (IntKind.i64.wrap (4 * w) - y))) (by kernel_rfl) (by rw [e4, wrap_i64_of (by omega) (by omega)]; simp [farI]))
  · exact Con.run Try.func17 (by kernel_rfl) rfl (R.finIs mixed Try.func17 (.int .i64 (IntKind.i64.wrap (IntKind.i64.wrap (4 * w) + y))) (by kernel_rfl) (by rw [e4, wrap_i64_of (by omega) (by omega)]; simp [farI]))

/-! ### Between -/
def bet (n m d e : Int) : Int := n + (m - n) * d / (d - e)
structure Sep (d e : Int) : Prop where
  d0 : 0 ≤ d
  d1 : d ≤ 5368709121
  e0 : e < 0
  e1 : -5368709121 ≤ e
theorem step_range {q d e : Int} (s : Sep d e) (h1 : -2147483648 ≤ q) (h2 : q ≤ 2147483648) : (0 ≤ q → 0 ≤ q * d / (d - e) ∧ q * d / (d - e) ≤ q) ∧ (q ≤ 0 → q ≤ q * d / (d - e) ∧ q * d / (d - e) ≤ 0) := by
  have s0 := s.d0; have s1 := s.d1; have s2 := s.e0; have s3 := s.e1
  have hD : 0 < d - e := by omega
  refine ⟨fun hq => ⟨Int.ediv_nonneg (Int.mul_nonneg hq s0) (by omega), ?_⟩, fun hq => ⟨?_, ?_⟩⟩
  · have : q * d ≤ q * (d - e) := Int.mul_le_mul_of_nonneg_left (by omega) hq
    exact Int.lt_add_one_iff.1 (Int.ediv_lt_of_lt_mul hD (by rw [Int.add_mul, Int.one_mul]; omega))
  · refine Int.le_ediv_of_mul_le hD ?_
    have : (-q) * d ≤ (-q) * (d - e) := Int.mul_le_mul_of_nonneg_left (by omega) (by omega)
    rw [Int.neg_mul, Int.neg_mul] at this
    omega
  · refine Int.lt_add_one_iff.1 (Int.ediv_lt_of_lt_mul hD ?_)
    have : 0 ≤ (-q) * d := Int.mul_nonneg (by omega) s0
    rw [Int.neg_mul] at this
    omega
theorem bet_range {n m d e M : Int} (s : Sep d e) (h1 : -M ≤ n ∧ n ≤ M) (h2 : -M ≤ m ∧ m ≤ M) (hM : M ≤ 1073741824) : -M ≤ bet n m d e ∧ bet n m d e ≤ M := by
  have := step_range (q := m - n) s (by omega) (by omega)
  unfold bet
  rcases Int.le_total 0 (m - n) with h | h
  · have := this.1 h; omega
  · have := this.2 h; omega
theorem bet_fits {n m d e : Int} (s : Sep d e) (h1 : ok30 n) (h2 : ok30 m) : floorN (IntKind.i64.wrap (m - n) * d) (IntKind.i64.wrap (d - e)) = (m - n) * d / (d - e) ∧ rfloorN (IntKind.i64.wrap (m - n) * d) (IntKind.i64.wrap (d - e)) = (m - n) * d / (d - e) := by
  have s0 := s.d0; have s1 := s.d1; have s2 := s.e0; have s3 := s.e1
  simp only [ok30] at h1 h2
  rw [wrap_i64_of (n := m - n) (by omega) (by omega), wrap_i64_of (n := d - e) (by omega) (by omega)]
  have hr := step_range (q := m - n) s (by omega) (by omega)
  have e1 : ((m - n) * d).fdiv (d - e) = (m - n) * d / (d - e) := Int.fdiv_eq_ediv_of_nonneg _ (by omega)
  have hf : fits (((m - n) * d).fdiv (d - e)) = true := by
    rw [e1]
    simp only [fits, Bool.and_eq_true, decide_eq_true_eq]
    rcases Int.le_total 0 (m - n) with h | h
    · have := hr.1 h; omega
    · have := hr.2 h; omega
  have hne : d - e ≠ 0 := by omega
  exact ⟨by rw [(mulDiv_in hne hf).1, e1], by rw [rfloorN_fits hf hne, e1]⟩

theorem c_go1 {n m d e : Int} (s : Sep d e) (h1 : ok30 n) (h2 : ok30 m) : ConM Try.prog 94 [.int .i64 n, .int .i64 m, .pointer (some ⟨0, 0, none⟩), .pointer (some ⟨1, 0, none⟩)] [.cells [.int .i64 d] 0 false, .cells [.int .i64 e] 0 false] (.int .i64 (bet n m d e)) (List.replicate 2 .gone) := by
  have s0 := s.d0; have s1 := s.d1; have s2 := s.e0; have s3 := s.e1
  have hb := bet_range (M := 1073741824) s h1 h2 (by omega)
  have e1 : bet n m d e = IntKind.i64.wrap (n + floorN (IntKind.i64.wrap (m - n) * d) (IntKind.i64.wrap (d - e))) := by
    rw [(bet_fits s h1 h2).1]
    exact (wrap_i64_of (n := n + (m - n) * d / (d - e)) (by unfold bet at hb; omega) (by unfold bet at hb; omega)).symm
  rw [e1]
  simp only [ok30] at h1 h2
  exact ConM.reads Try.func94 (by kernel_rfl) rfl <| R.call mixed (c_mulDiv (IntKind.i64.wrap (m - n)) d (IntKind.i64.wrap (d - e)) (wrap_i64_lo _) (wrap_i64_hi _) (by omega) (by omega) (wrap_i64_lo _) (wrap_i64_hi _)) (by kernel_rfl) <| R.fin mixed Try.func94 (by kernel_rfl)

theorem c_between {n m d e : Int} (s : Sep d e) (h1 : ok30 n) (h2 : ok30 m) : Con Try.prog 51 [.int .i64 n, .int .i64 m, .int .i64 d, .int .i64 e] (.int .i64 (bet n m d e)) := by
  have s0 := s.d0; have s1 := s.d1; have s2 := s.e0; have s3 := s.e1
  have hb := bet_range (M := 1073741824) s h1 h2 (by omega)
  have e1 : bet n m d e = IntKind.i64.wrap (n + rfloorN (IntKind.i64.wrap (m - n) * d) (IntKind.i64.wrap (d - e))) := by
    rw [(bet_fits s h1 h2).2]
    exact (wrap_i64_of (n := n + (m - n) * d / (d - e)) (by unfold bet at hb; omega) (by unfold bet at hb; omega)).symm
  rw [e1]
  simp only [ok30] at h1 h2
  have hne : IntKind.i64.wrap (d - e) ≠ 0 := by rw [wrap_i64_of (by omega) (by omega)]; omega
  exact Con.run Try.func51 (by kernel_rfl) rfl <| R.call mixed (c_rmulDiv (IntKind.i64.wrap (m - n)) d (IntKind.i64.wrap (d - e)) (wrap_i64_lo _) (wrap_i64_hi _) (by omega) (by omega) (wrap_i64_lo _) (wrap_i64_hi _) hne) (by kernel_rfl) <| R.fin mixed Try.func51 (by kernel_rfl)

/-! ### Cuts -/
def mx (k X W : Int) : Int := if k = 3 then 4 * W else if k = 4 then -(4 * W) else X
def my (k Y W : Int) : Int := if k = 5 then 4 * W else if k = 6 then -(4 * W) else Y
def mz (k Z W : Int) : Int := if k = 1 then -W else if k = 2 then W else Z
def mw (k W : Int) : Int := if k = 0 then 1 else W

/-- The meeting place of a plane of the guard band lies where it may. -/
theorem meet4 {x x' w w' d e : Int} (s : Sep d e) (hx : ok30 x) (hx' : ok30 x') (hd : d = 4 * w - x) (he : e = 4 * w' - x') : -268435456 ≤ bet w w' d e ∧ bet w w' d e ≤ 268435456 := by
  have s0 := s.d0; have s1 := s.d1; have s2 := s.e0; have s3 := s.e1
  simp only [ok30] at hx hx'
  have hD : 0 < d - e := by omega
  have e1 : bet w w' d e = (w * (d - e) + (w' - w) * d) / (d - e) := by
    unfold bet
    rw [Int.mul_comm w, Int.mul_add_ediv_left _ _ (by omega)]
  have h1 : d * e = 4 * (w * e) - x * e := by
    conv => lhs; rw [hd]
    rw [Int.sub_mul, Int.mul_assoc]
  have h2 : d * e = 4 * (w' * d) - x' * d := by
    conv => lhs; rw [he]
    rw [Int.mul_comm d, Int.sub_mul, Int.mul_assoc]
  have h3 : w * (d - e) + (w' - w) * d = w' * d - w * e := by
    rw [Int.mul_sub, Int.sub_mul]; omega
  have b1 : x' * d ≤ 1073741824 * d := Int.mul_le_mul_of_nonneg_right hx'.2 s0
  have b2 : -1073741824 * d ≤ x' * d := Int.mul_le_mul_of_nonneg_right hx'.1 s0
  have b3 : x * (-e) ≤ 1073741824 * (-e) := Int.mul_le_mul_of_nonneg_right hx.2 (by omega)
  have b4 : -1073741824 * (-e) ≤ x * (-e) := Int.mul_le_mul_of_nonneg_right hx.1 (by omega)
  rw [Int.mul_neg x e] at b3 b4
  rw [e1, h3]
  clear e1 h3
  generalize w' * d = p1 at *
  generalize w * e = p2 at *
  generalize x' * d = p3 at *
  generalize x * e = p4 at *
  constructor
  · refine Int.le_ediv_of_mul_le hD ?_
    omega
  · refine Int.lt_add_one_iff.1 (Int.ediv_lt_of_lt_mul hD ?_)
    omega

theorem c_meet {k x y z w : Int} (hk : 0 ≤ k ∧ k ≤ 6) (hw : ok30 w) : Con Try.prog 96 [.int .i64 k, V4 x y z w] (V4 (mx k x w) (my k y w) (mz k z w) (mw k w)) := by
  simp only [ok30] at hw
  have e4 : IntKind.i64.wrap (4 * w) = 4 * w := wrap_i64_of (by omega) (by omega)
  have e5 : IntKind.i64.wrap (-4 * w) = -(4 * w) := by rw [wrap_i64_of (by omega) (by omega)]; omega
  have e6 : IntKind.i64.wrap (-w) = -w := wrap_i64_of (by omega) (by omega)
  have hk' : k = 0 ∨ k = 1 ∨ k = 2 ∨ k = 3 ∨ k = 4 ∨ k = 5 ∨ k = 6 := by omega
  rcases hk' with rfl | rfl | rfl | rfl | rfl | rfl | rfl
  · exact Con.run Try.func96 (by kernel_rfl) rfl (R.finIs mixed Try.func96 (V4 x y z 1) (by kernel_rfl) (by simp [mx, my, mz, mw, e4, e5, e6]))
  · exact Con.run Try.func96 (by kernel_rfl) rfl (R.finIs mixed Try.func96 (V4 x y (IntKind.i64.wrap (0 - w)) w) (by kernel_rfl) (by simp [mx, my, mz, mw, e4, e5, e6]))
  · exact Con.run Try.func96 (by kernel_rfl) rfl (R.finIs mixed Try.func96 (V4 x y w w) (by kernel_rfl) (by simp [mx, my, mz, mw, e4, e5, e6]))
  · exact Con.run Try.func96 (by kernel_rfl) rfl (R.finIs mixed Try.func96 (V4 (IntKind.i64.wrap (4 * w)) y z w) (by kernel_rfl) (by simp [mx, my, mz, mw, e4, e5, e6]))
  · exact Con.run Try.func96 (by kernel_rfl) rfl (R.finIs mixed Try.func96 (V4 (IntKind.i64.wrap (-4 * w)) y z w) (by kernel_rfl) (by simp [mx, my, mz, mw, e4, e5, e6]))
  · exact Con.run Try.func96 (by kernel_rfl) rfl (R.finIs mixed Try.func96 (V4 x (IntKind.i64.wrap (4 * w)) z w) (by kernel_rfl) (by simp [mx, my, mz, mw, e4, e5, e6]))
  · exact Con.run Try.func96 (by kernel_rfl) rfl (R.finIs mixed Try.func96 (V4 x (IntKind.i64.wrap (-4 * w)) z w) (by kernel_rfl) (by simp [mx, my, mz, mw, e4, e5, e6]))

def cutV (k : Int) (X Y Z W A B C_ D_ E_ F : Int) : Value := C10 (mx k X W) (my k Y W) (mz k Z W) (mw k W) A B C_ D_ E_ F
theorem ok20_30 {n : Int} (h : ok20 n) : ok30 n := by simp only [ok20, ok30] at *; omega
section
variable {k x y z w a b c d_ e_ f x' y' z' w' a' b' c' d_' e_' f' : Int}
theorem cuts_ (hk : 0 ≤ k ∧ k ≤ 6) (h : mayC x y z w a b c d_ e_ f) (h' : mayC x' y' z' w' a' b' c' d_' e_' f') (hd : 0 ≤ farI k x y z w) (he : farI k x' y' z' w' < 0) :
    ∃ D E, D = farI k x y z w ∧ E = farI k x' y' z' w' ∧ Con Try.prog 47 [.int .i64 k, C10 x y z w a b c d_ e_ f, C10 x' y' z' w' a' b' c' d_' e_' f'] (cutV k (bet x x' D E) (bet y y' D E) (bet z z' D E) (bet w w' D E) (bet a a' D E) (bet b b' D E) (bet c c' D E) (bet d_ d_' D E) (bet e_ e_' D E) (bet f f' D E)) ∧
      Con Try.prog 18 [.int .i64 k, C10 x y z w a b c d_ e_ f, C10 x' y' z' w' a' b' c' d_' e_' f'] (cutV k (bet x x' D E) (bet y y' D E) (bet z z' D E) (bet w w' D E) (bet a a' D E) (bet b b' D E) (bet c c' D E) (bet d_ d_' D E) (bet e_ e_' D E) (bet f f' D E)) := by
  have fb := farI_bounds (k := k) h.1
  have fb' := farI_bounds (k := k) h'.1
  have s : Sep (farI k x y z w) (farI k x' y' z' w') := ⟨hd, fb.2, he, fb'.1⟩
  have cf := c_far hk h.1
  have cf' := c_far hk h'.1
  have rf := c_rfar hk h.1
  have rf' := c_rfar hk h'.1
  obtain ⟨⟨h0, h1, h2, h3⟩, i4, i5, i6, i7, i8, i9⟩ := h
  obtain ⟨⟨g0, g1, g2, g3⟩, j4, j5, j6, j7, j8, j9⟩ := h'
  have h4 := ok20_30 i4
  have g4 := ok20_30 j4
  have h5 := ok20_30 i5
  have g5 := ok20_30 j5
  have h6 := ok20_30 i6
  have g6 := ok20_30 j6
  have h7 := ok20_30 i7
  have g7 := ok20_30 j7
  have h8 := ok20_30 i8
  have g8 := ok20_30 j8
  have h9 := ok20_30 i9
  have g9 := ok20_30 j9
  refine ⟨_, _, rfl, rfl, ?_⟩
  generalize farI k x y z w = D at *
  generalize farI k x' y' z' w' = E at *
  have bw : ok30 (bet w w' D E) := bet_range s h3 g3 (by omega)
  have cm := c_meet (x := bet x x' D E) (y := bet y y' D E) (z := bet z z' D E) hk bw
  have bw' := bw
  simp only [ok30] at bw'
  have e4 : IntKind.i64.wrap (4 * bet w w' D E) = 4 * bet w w' D E := wrap_i64_of (by omega) (by omega)
  have e5 : IntKind.i64.wrap (-(4 * bet w w' D E)) = -(4 * bet w w' D E) := wrap_i64_of (by omega) (by omega)
  have e6 : IntKind.i64.wrap (-bet w w' D E) = -bet w w' D E := wrap_i64_of (by omega) (by omega)
  have hk' : k = 0 ∨ k = 1 ∨ k = 2 ∨ k = 3 ∨ k = 4 ∨ k = 5 ∨ k = 6 := by omega
  constructor
  · exact Con.run Try.func47 (by kernel_rfl) rfl <| R.call mixed cf (by kernel_rfl) <| R.call mixed cf' (by kernel_rfl) <|
      R.callM mixed [.win 3 0 1 false, .win 4 0 1 false] (c_go1 s h0 g0) (by kernel_rfl) (by kernel_rfl) rfl <| R.callM mixed [.win 3 0 1 false, .win 4 0 1 false] (c_go1 s h1 g1) (by kernel_rfl) (by kernel_rfl) rfl <| R.callM mixed [.win 3 0 1 false, .win 4 0 1 false] (c_go1 s h2 g2) (by kernel_rfl) (by kernel_rfl) rfl <| R.callM mixed [.win 3 0 1 false, .win 4 0 1 false] (c_go1 s h3 g3) (by kernel_rfl) (by kernel_rfl) rfl <|
      R.call mixed cm (by kernel_rfl) <|
      R.callM mixed [.win 3 0 1 false, .win 4 0 1 false] (c_go1 s h4 g4) (by kernel_rfl) (by kernel_rfl) rfl <| R.callM mixed [.win 3 0 1 false, .win 4 0 1 false] (c_go1 s h5 g5) (by kernel_rfl) (by kernel_rfl) rfl <| R.callM mixed [.win 3 0 1 false, .win 4 0 1 false] (c_go1 s h6 g6) (by kernel_rfl) (by kernel_rfl) rfl <| R.callM mixed [.win 3 0 1 false, .win 4 0 1 false] (c_go1 s h7 g7) (by kernel_rfl) (by kernel_rfl) rfl <| R.callM mixed [.win 3 0 1 false, .win 4 0 1 false] (c_go1 s h8 g8) (by kernel_rfl) (by kernel_rfl) rfl <| R.callM mixed [.win 3 0 1 false, .win 4 0 1 false] (c_go1 s h9 g9) (by kernel_rfl) (by kernel_rfl) rfl <|
      R.fin mixed Try.func47 (by kernel_rfl)
  · rcases hk' with rfl | rfl | rfl | rfl | rfl | rfl | rfl
    · exact Con.run Try.func18 (by kernel_rfl) rfl <| R.call mixed rf (by kernel_rfl) <| R.call mixed rf' (by kernel_rfl) <|
        R.call mixed (c_between s h0 g0) (by kernel_rfl) <| R.call mixed (c_between s h1 g1) (by kernel_rfl) <| R.call mixed (c_between s h2 g2) (by kernel_rfl) <| R.call mixed (c_between s h3 g3) (by kernel_rfl) <| R.call mixed (c_between s h4 g4) (by kernel_rfl) <| R.call mixed (c_between s h5 g5) (by kernel_rfl) <| R.call mixed (c_between s h6 g6) (by kernel_rfl) <| R.call mixed (c_between s h7 g7) (by kernel_rfl) <| R.call mixed (c_between s h8 g8) (by kernel_rfl) <| R.call mixed (c_between s h9 g9) (by kernel_rfl) <|
        R.finIs mixed Try.func18 (C10 (bet x x' D E) (bet y y' D E) (bet z z' D E) 1 (bet a a' D E) (bet b b' D E) (bet c c' D E) (bet d_ d_' D E) (bet e_ e_' D E) (bet f f' D E)) (by kernel_rfl) (by simp [cutV, mx, my, mz, mw, e4, e5, e6])
    · exact Con.run Try.func18 (by kernel_rfl) rfl <| R.call mixed rf (by kernel_rfl) <| R.call mixed rf' (by kernel_rfl) <|
        R.call mixed (c_between s h0 g0) (by kernel_rfl) <| R.call mixed (c_between s h1 g1) (by kernel_rfl) <| R.call mixed (c_between s h2 g2) (by kernel_rfl) <| R.call mixed (c_between s h3 g3) (by kernel_rfl) <| R.call mixed (c_between s h4 g4) (by kernel_rfl) <| R.call mixed (c_between s h5 g5) (by kernel_rfl) <| R.call mixed (c_between s h6 g6) (by kernel_rfl) <| R.call mixed (c_between s h7 g7) (by kernel_rfl) <| R.call mixed (c_between s h8 g8) (by kernel_rfl) <| R.call mixed (c_between s h9 g9) (by kernel_rfl) <|
        R.finIs mixed Try.func18 (C10 (bet x x' D E) (bet y y' D E) (IntKind.i64.wrap (0 - bet w w' D E)) (bet w w' D E) (bet a a' D E) (bet b b' D E) (bet c c' D E) (bet d_ d_' D E) (bet e_ e_' D E) (bet f f' D E)) (by kernel_rfl) (by simp [cutV, mx, my, mz, mw, e4, e5, e6])
    · exact Con.run Try.func18 (by kernel_rfl) rfl <| R.call mixed rf (by kernel_rfl) <| R.call mixed rf' (by kernel_rfl) <|
        R.call mixed (c_between s h0 g0) (by kernel_rfl) <| R.call mixed (c_between s h1 g1) (by kernel_rfl) <| R.call mixed (c_between s h2 g2) (by kernel_rfl) <| R.call mixed (c_between s h3 g3) (by kernel_rfl) <| R.call mixed (c_between s h4 g4) (by kernel_rfl) <| R.call mixed (c_between s h5 g5) (by kernel_rfl) <| R.call mixed (c_between s h6 g6) (by kernel_rfl) <| R.call mixed (c_between s h7 g7) (by kernel_rfl) <| R.call mixed (c_between s h8 g8) (by kernel_rfl) <| R.call mixed (c_between s h9 g9) (by kernel_rfl) <|
        R.finIs mixed Try.func18 (C10 (bet x x' D E) (bet y y' D E) (bet w w' D E) (bet w w' D E) (bet a a' D E) (bet b b' D E) (bet c c' D E) (bet d_ d_' D E) (bet e_ e_' D E) (bet f f' D E)) (by kernel_rfl) (by simp [cutV, mx, my, mz, mw, e4, e5, e6])
    · exact Con.run Try.func18 (by kernel_rfl) rfl <| R.call mixed rf (by kernel_rfl) <| R.call mixed rf' (by kernel_rfl) <|
        R.call mixed (c_between s h0 g0) (by kernel_rfl) <| R.call mixed (c_between s h1 g1) (by kernel_rfl) <| R.call mixed (c_between s h2 g2) (by kernel_rfl) <| R.call mixed (c_between s h3 g3) (by kernel_rfl) <| R.call mixed (c_between s h4 g4) (by kernel_rfl) <| R.call mixed (c_between s h5 g5) (by kernel_rfl) <| R.call mixed (c_between s h6 g6) (by kernel_rfl) <| R.call mixed (c_between s h7 g7) (by kernel_rfl) <| R.call mixed (c_between s h8 g8) (by kernel_rfl) <| R.call mixed (c_between s h9 g9) (by kernel_rfl) <|
        R.finIs mixed Try.func18 (C10 (IntKind.i64.wrap (4 * bet w w' D E)) (bet y y' D E) (bet z z' D E) (bet w w' D E) (bet a a' D E) (bet b b' D E) (bet c c' D E) (bet d_ d_' D E) (bet e_ e_' D E) (bet f f' D E)) (by kernel_rfl) (by simp [cutV, mx, my, mz, mw, e4, e5, e6])
    · exact Con.run Try.func18 (by kernel_rfl) rfl <| R.call mixed rf (by kernel_rfl) <| R.call mixed rf' (by kernel_rfl) <|
        R.call mixed (c_between s h0 g0) (by kernel_rfl) <| R.call mixed (c_between s h1 g1) (by kernel_rfl) <| R.call mixed (c_between s h2 g2) (by kernel_rfl) <| R.call mixed (c_between s h3 g3) (by kernel_rfl) <| R.call mixed (c_between s h4 g4) (by kernel_rfl) <| R.call mixed (c_between s h5 g5) (by kernel_rfl) <| R.call mixed (c_between s h6 g6) (by kernel_rfl) <| R.call mixed (c_between s h7 g7) (by kernel_rfl) <| R.call mixed (c_between s h8 g8) (by kernel_rfl) <| R.call mixed (c_between s h9 g9) (by kernel_rfl) <|
        R.finIs mixed Try.func18 (C10 (IntKind.i64.wrap (0 - IntKind.i64.wrap (4 * bet w w' D E))) (bet y y' D E) (bet z z' D E) (bet w w' D E) (bet a a' D E) (bet b b' D E) (bet c c' D E) (bet d_ d_' D E) (bet e_ e_' D E) (bet f f' D E)) (by kernel_rfl) (by simp [cutV, mx, my, mz, mw, e4, e5, e6])
    · exact Con.run Try.func18 (by kernel_rfl) rfl <| R.call mixed rf (by kernel_rfl) <| R.call mixed rf' (by kernel_rfl) <|
        R.call mixed (c_between s h0 g0) (by kernel_rfl) <| R.call mixed (c_between s h1 g1) (by kernel_rfl) <| R.call mixed (c_between s h2 g2) (by kernel_rfl) <| R.call mixed (c_between s h3 g3) (by kernel_rfl) <| R.call mixed (c_between s h4 g4) (by kernel_rfl) <| R.call mixed (c_between s h5 g5) (by kernel_rfl) <| R.call mixed (c_between s h6 g6) (by kernel_rfl) <| R.call mixed (c_between s h7 g7) (by kernel_rfl) <| R.call mixed (c_between s h8 g8) (by kernel_rfl) <| R.call mixed (c_between s h9 g9) (by kernel_rfl) <|
        R.finIs mixed Try.func18 (C10 (bet x x' D E) (IntKind.i64.wrap (4 * bet w w' D E)) (bet z z' D E) (bet w w' D E) (bet a a' D E) (bet b b' D E) (bet c c' D E) (bet d_ d_' D E) (bet e_ e_' D E) (bet f f' D E)) (by kernel_rfl) (by simp [cutV, mx, my, mz, mw, e4, e5, e6])
    · exact Con.run Try.func18 (by kernel_rfl) rfl <| R.call mixed rf (by kernel_rfl) <| R.call mixed rf' (by kernel_rfl) <|
        R.call mixed (c_between s h0 g0) (by kernel_rfl) <| R.call mixed (c_between s h1 g1) (by kernel_rfl) <| R.call mixed (c_between s h2 g2) (by kernel_rfl) <| R.call mixed (c_between s h3 g3) (by kernel_rfl) <| R.call mixed (c_between s h4 g4) (by kernel_rfl) <| R.call mixed (c_between s h5 g5) (by kernel_rfl) <| R.call mixed (c_between s h6 g6) (by kernel_rfl) <| R.call mixed (c_between s h7 g7) (by kernel_rfl) <| R.call mixed (c_between s h8 g8) (by kernel_rfl) <| R.call mixed (c_between s h9 g9) (by kernel_rfl) <|
        R.finIs mixed Try.func18 (C10 (bet x x' D E) (IntKind.i64.wrap (0 - IntKind.i64.wrap (4 * bet w w' D E))) (bet z z' D E) (bet w w' D E) (bet a a' D E) (bet b b' D E) (bet c c' D E) (bet d_ d_' D E) (bet e_ e_' D E) (bet f f' D E)) (by kernel_rfl) (by simp [cutV, mx, my, mz, mw, e4, e5, e6])
end

end

section
open Go Go.Dt Go.Proofs Go.Proofs.Ytfkmhhbpomkakaa.Wide
set_option linter.unusedVariables false
set_option linter.unusedSimpArgs false

section
variable {k x y z w a b c d_ e_ f x' y' z' w' a' b' c' d_' e_' f' : Int}
theorem may' {o : Bool} (h : decide (mayC x y z w a b c d_ e_ f) = o) : Con Try.prog 48 [C10 x y z w a b c d_ e_ f] (.bool o) := h ▸ c_may x y z w a b c d_ e_ f
theorem rmay' {o : Bool} (h : decide (mayC x y z w a b c d_ e_ f) = o) : Con Try.prog 16 [C10 x y z w a b c d_ e_ f] (.bool o) := h ▸ c_rmayC x y z w a b c d_ e_ f

theorem farBad (h : k < 0 ∨ 6 < k) : Con Try.prog 14 [.int .i64 k, C10 x y z w a b c d_ e_ f] (.tuple ⟨[.int .i64 0, .int .i64 2]⟩) := by
  refine Con.run Try.func14 (by kernel_rfl) rfl ?_
  rcases Decidable.em (k < 0) with h1 | h1
  · exact R.guardIs mixed 13 (decide (k < 0)) true (decide_eq_true h1) (by kernel_rfl) <| R.fin mixed Try.func14 (by kernel_rfl)
  · exact R.guardIs mixed 13 (decide (k < 0)) false (decide_eq_false h1) (by kernel_rfl) <| R.cond mixed 5 (bif false then true else decide (k ≥ 7)) true (by simp; omega) (by kernel_rfl) <| R.fin mixed Try.func14 (by kernel_rfl)
theorem farNo (hk : 0 ≤ k ∧ k ≤ 6) (h : ¬ mayC x y z w a b c d_ e_ f) : Con Try.prog 14 [.int .i64 k, C10 x y z w a b c d_ e_ f] (.tuple ⟨[.int .i64 0, .int .i64 3]⟩) :=
  Con.run Try.func14 (by kernel_rfl) rfl <| R.guardIs mixed 13 (decide (k < 0)) false (decide_eq_false (by omega)) (by kernel_rfl) <| R.cond mixed 5 (bif false then true else decide (k ≥ 7)) false (by simp; omega) (by kernel_rfl) <|
    R.call mixed (may' (decide_eq_false h)) (by kernel_rfl) <| R.fin mixed Try.func14 (by kernel_rfl)
theorem farOk (hk : 0 ≤ k ∧ k ≤ 6) (h : mayC x y z w a b c d_ e_ f) : Con Try.prog 14 [.int .i64 k, C10 x y z w a b c d_ e_ f] (.tuple ⟨[.int .i64 (farI k x y z w), .int .i64 0]⟩) :=
  Con.run Try.func14 (by kernel_rfl) rfl <| R.guardIs mixed 13 (decide (k < 0)) false (decide_eq_false (by omega)) (by kernel_rfl) <| R.cond mixed 5 (bif false then true else decide (k ≥ 7)) false (by simp; omega) (by kernel_rfl) <|
    R.call mixed (may' (decide_eq_true h)) (by kernel_rfl) <| R.call mixed (c_far hk h.1) (by kernel_rfl) <| R.fin mixed Try.func14 (by kernel_rfl)

theorem cutBad (h : k < 0 ∨ 6 < k) : Con Try.prog 13 [.int .i64 k, C10 x y z w a b c d_ e_ f, C10 x' y' z' w' a' b' c' d_' e_' f'] (.tuple ⟨[C10 0 0 0 0 0 0 0 0 0 0, .int .i64 2]⟩) :=
  Con.run Try.func13 (by kernel_rfl) rfl <| R.call mixed (@farBad k x y z w a b c d_ e_ f h) (by kernel_rfl) <| R.call mixed (@farBad k x' y' z' w' a' b' c' d_' e_' f' h) (by kernel_rfl) <| R.fin mixed Try.func13 (by kernel_rfl)
theorem cutNoA (hk : 0 ≤ k ∧ k ≤ 6) (h : ¬ mayC x y z w a b c d_ e_ f) : Con Try.prog 13 [.int .i64 k, C10 x y z w a b c d_ e_ f, C10 x' y' z' w' a' b' c' d_' e_' f'] (.tuple ⟨[C10 0 0 0 0 0 0 0 0 0 0, .int .i64 3]⟩) := by
  refine Con.run Try.func13 (by kernel_rfl) rfl <| R.call mixed (farNo hk h) (by kernel_rfl) ?_
  rcases Decidable.em (mayC x' y' z' w' a' b' c' d_' e_' f') with h2 | h2
  · exact R.call mixed (farOk hk h2) (by kernel_rfl) <| R.fin mixed Try.func13 (by kernel_rfl)
  · exact R.call mixed (farNo hk h2) (by kernel_rfl) <| R.fin mixed Try.func13 (by kernel_rfl)
theorem cutNoB (hk : 0 ≤ k ∧ k ≤ 6) (h : mayC x y z w a b c d_ e_ f) (h2 : ¬ mayC x' y' z' w' a' b' c' d_' e_' f') : Con Try.prog 13 [.int .i64 k, C10 x y z w a b c d_ e_ f, C10 x' y' z' w' a' b' c' d_' e_' f'] (.tuple ⟨[C10 0 0 0 0 0 0 0 0 0 0, .int .i64 3]⟩) :=
  Con.run Try.func13 (by kernel_rfl) rfl <| R.call mixed (farOk hk h) (by kernel_rfl) <| R.call mixed (farNo hk h2) (by kernel_rfl) <| R.fin mixed Try.func13 (by kernel_rfl)
theorem cutForm (hk : 0 ≤ k ∧ k ≤ 6) (h : mayC x y z w a b c d_ e_ f) (h2 : mayC x' y' z' w' a' b' c' d_' e_' f') (h3 : farI k x y z w < 0 ∨ 0 ≤ farI k x' y' z' w') : Con Try.prog 13 [.int .i64 k, C10 x y z w a b c d_ e_ f, C10 x' y' z' w' a' b' c' d_' e_' f'] (.tuple ⟨[C10 0 0 0 0 0 0 0 0 0 0, .int .i64 6]⟩) := by
  refine Con.run Try.func13 (by kernel_rfl) rfl <| R.call mixed (farOk hk h) (by kernel_rfl) <| R.call mixed (farOk hk h2) (by kernel_rfl) ?_
  rcases Decidable.em (farI k x y z w < 0) with h4 | h4
  · exact R.guardIs mixed 27 (decide (farI k x y z w < 0)) true (decide_eq_true h4) (by kernel_rfl) <| R.fin mixed Try.func13 (by kernel_rfl)
  · exact R.guardIs mixed 27 (decide (farI k x y z w < 0)) false (decide_eq_false h4) (by kernel_rfl) <| R.cond mixed 5 (bif false then true else decide (farI k x' y' z' w' ≥ 0)) true (by simp; omega) (by kernel_rfl) <| R.fin mixed Try.func13 (by kernel_rfl)
theorem cutOk (hk : 0 ≤ k ∧ k ≤ 6) (h : mayC x y z w a b c d_ e_ f) (h2 : mayC x' y' z' w' a' b' c' d_' e_' f') (hd : 0 ≤ farI k x y z w) (he : farI k x' y' z' w' < 0) {D E : Int} (hc : Con Try.prog 47 [.int .i64 k, C10 x y z w a b c d_ e_ f, C10 x' y' z' w' a' b' c' d_' e_' f'] (cutV k (bet x x' D E) (bet y y' D E) (bet z z' D E) (bet w w' D E) (bet a a' D E) (bet b b' D E) (bet c c' D E) (bet d_ d_' D E) (bet e_ e_' D E) (bet f f' D E))) :
    Con Try.prog 13 [.int .i64 k, C10 x y z w a b c d_ e_ f, C10 x' y' z' w' a' b' c' d_' e_' f'] (.tuple ⟨[cutV k (bet x x' D E) (bet y y' D E) (bet z z' D E) (bet w w' D E) (bet a a' D E) (bet b b' D E) (bet c c' D E) (bet d_ d_' D E) (bet e_ e_' D E) (bet f f' D E), .int .i64 0]⟩) :=
  Con.run Try.func13 (by kernel_rfl) rfl <| R.call mixed (farOk hk h) (by kernel_rfl) <| R.call mixed (farOk hk h2) (by kernel_rfl) <| R.guardIs mixed 27 (decide (farI k x y z w < 0)) false (decide_eq_false (by omega)) (by kernel_rfl) <|
    R.cond mixed 5 (bif false then true else decide (farI k x' y' z' w' ≥ 0)) false (by simp; omega) (by kernel_rfl) <| R.call mixed hc (by kernel_rfl) <| R.fin mixed Try.func13 (by kernel_rfl)

theorem far_zero (hk : 0 ≤ k ∧ k ≤ 6) (X Y Z W : Int) : farI k (mx k X W) (my k Y W) (mz k Z W) (mw k W) = 0 := by
  have hk' : k = 0 ∨ k = 1 ∨ k = 2 ∨ k = 3 ∨ k = 4 ∨ k = 5 ∨ k = 6 := by omega
  rcases hk' with rfl | rfl | rfl | rfl | rfl | rfl | rfl <;> simp [farI, mx, my, mz, mw] <;> omega

theorem cut_may {D E : Int} (hk : 0 ≤ k ∧ k ≤ 6) (h : mayC x y z w a b c d_ e_ f) (h' : mayC x' y' z' w' a' b' c' d_' e_' f') (s : Sep D E) (hD : D = farI k x y z w) (hE : E = farI k x' y' z' w') :
    mayC (mx k (bet x x' D E) (bet w w' D E)) (my k (bet y y' D E) (bet w w' D E)) (mz k (bet z z' D E) (bet w w' D E)) (mw k (bet w w' D E)) (bet a a' D E) (bet b b' D E) (bet c c' D E) (bet d_ d_' D E) (bet e_ e_' D E) (bet f f' D E) := by
  obtain ⟨⟨h0, h1, h2, h3⟩, i4, i5, i6, i7, i8, i9⟩ := h
  obtain ⟨⟨g0, g1, g2, g3⟩, j4, j5, j6, j7, j8, j9⟩ := h'
  have X := bet_range (M := 1073741824) s h0 g0 (by omega)
  have Y := bet_range (M := 1073741824) s h1 g1 (by omega)
  have Z := bet_range (M := 1073741824) s h2 g2 (by omega)
  have W := bet_range (M := 1073741824) s h3 g3 (by omega)
  refine ⟨?_, bet_range s i4 j4 (by omega), bet_range s i5 j5 (by omega), bet_range s i6 j6 (by omega), bet_range s i7 j7 (by omega), bet_range s i8 j8 (by omega), bet_range s i9 j9 (by omega)⟩
  have nx : ok30 (-x) := by simp only [ok30] at *; omega
  have nx' : ok30 (-x') := by simp only [ok30] at *; omega
  have ny : ok30 (-y) := by simp only [ok30] at *; omega
  have ny' : ok30 (-y') := by simp only [ok30] at *; omega
  have hk' : k = 0 ∨ k = 1 ∨ k = 2 ∨ k = 3 ∨ k = 4 ∨ k = 5 ∨ k = 6 := by omega
  rcases hk' with rfl | rfl | rfl | rfl | rfl | rfl | rfl
  · simp [mayV, ok30, mx, my, mz, mw]; omega
  · simp [mayV, ok30, mx, my, mz, mw]; omega
  · simp [mayV, ok30, mx, my, mz, mw]; omega
  · have M := meet4 s h0 g0 (w := w) (w' := w') (by simpa [farI] using hD) (by simpa [farI] using hE)
    simp [mayV, ok30, mx, my, mz, mw]; omega
  · have M := meet4 s nx nx' (w := w) (w' := w') (by simp [farI] at hD; omega) (by simp [farI] at hE; omega)
    simp [mayV, ok30, mx, my, mz, mw]; omega
  · have M := meet4 s h1 g1 (w := w) (w' := w') (by simpa [farI] using hD) (by simpa [farI] using hE)
    simp [mayV, ok30, mx, my, mz, mw]; omega
  · have M := meet4 s ny ny' (w := w) (w' := w') (by simp [farI] at hD; omega) (by simp [farI] at hE; omega)
    simp [mayV, ok30, mx, my, mz, mw]; omega

theorem c_awake15 : Con Try.prog 15 [] (.bool true) := by
  have ha : mayC 0 0 0 3 0 0 0 0 0 0 := by decide
  have hb : mayC 4 0 0 (-1) 0 0 0 0 0 0 := by decide
  have hc : mayC 1 0 0 2 0 0 0 0 0 0 := by decide
  obtain ⟨D, E, hD, hE, c1, _⟩ := cuts_ (k := 0) (by omega) ha hb (by decide) (by decide)
  subst hD hE
  exact Con.run Try.func15 (by kernel_rfl) rfl <| R.call mixed (cutOk (k := 0) (by omega) ha hb (by decide) (by decide) c1) (by kernel_rfl) <| R.call mixed (farOk (k := 3) (by omega) hc) (by kernel_rfl) <| R.fin mixed Try.func15 (by kernel_rfl)

theorem cutsLaw : RunsE Try.prog 3 0 (entry Try.f3 [.int .i64 k, C10 x y z w a b c d_ e_ f, C10 x' y' z' w' a' b' c' d_' e_' f'] []) (.bool true) := by
  rcases Decidable.em (k < 0 ∨ 6 < k) with hk | hk
  · refine R.call mixed (@cutBad k x y z w a b c d_ e_ f x' y' z' w' a' b' c' d_' e_' f' hk) (by kernel_rfl) <| R.call mixed (@farBad k x y z w a b c d_ e_ f hk) (by kernel_rfl) ?_
    rcases Decidable.em (k < 0) with h1 | h1
    · exact R.guardIs mixed 12 (decide (k < 0)) true (decide_eq_true h1) (by kernel_rfl) <| R.call mixed c_awake15 (by kernel_rfl) <| R.fin mixed Try.func3 (by kernel_rfl)
    · exact R.guardIs mixed 12 (decide (k < 0)) false (decide_eq_false h1) (by kernel_rfl) <| R.cond mixed 4 (bif false then true else decide (k > 6)) true (by simp; omega) (by kernel_rfl) <| R.call mixed c_awake15 (by kernel_rfl) <| R.fin mixed Try.func3 (by kernel_rfl)
  · have hk' : 0 ≤ k ∧ k ≤ 6 := by omega
    have k1 : decide (k < 0) = false := decide_eq_false (by omega)
    have k2 : (bif false then true else decide (k > 6)) = false := by simp; omega
    rcases Decidable.em (mayC x y z w a b c d_ e_ f) with ha | ha
    · have rf := c_rfar hk' ha.1
      rcases Decidable.em (mayC x' y' z' w' a' b' c' d_' e_' f') with hb | hb
      · have rf' := c_rfar hk' hb.1
        rcases Decidable.em (farI k x y z w < 0) with hd | hd
        · exact R.call mixed (cutForm hk' ha hb (.inl hd)) (by kernel_rfl) <| R.call mixed (farOk hk' ha) (by kernel_rfl) <| R.guardIs mixed 12 (decide (k < 0)) false k1 (by kernel_rfl) <| R.cond mixed 4 (bif false then true else decide (k > 6)) false k2 (by kernel_rfl) <|
            R.call mixed (rmay' (decide_eq_true ha)) (by kernel_rfl) <| R.call mixed rf (by kernel_rfl) <| R.cond mixed 3 (farI k x y z w != farI k x y z w) false (by simp) (by kernel_rfl) <| R.call mixed (rmay' (decide_eq_true hb)) (by kernel_rfl) <|
            R.guardIs mixed 10 (decide (farI k x y z w < 0)) true (decide_eq_true hd) (by kernel_rfl) <| R.call mixed c_awake15 (by kernel_rfl) <| R.fin mixed Try.func3 (by kernel_rfl)
        · rcases Decidable.em (0 ≤ farI k x' y' z' w') with he | he
          · exact R.call mixed (cutForm hk' ha hb (.inr he)) (by kernel_rfl) <| R.call mixed (farOk hk' ha) (by kernel_rfl) <| R.guardIs mixed 12 (decide (k < 0)) false k1 (by kernel_rfl) <| R.cond mixed 4 (bif false then true else decide (k > 6)) false k2 (by kernel_rfl) <|
              R.call mixed (rmay' (decide_eq_true ha)) (by kernel_rfl) <| R.call mixed rf (by kernel_rfl) <| R.cond mixed 3 (farI k x y z w != farI k x y z w) false (by simp) (by kernel_rfl) <| R.call mixed (rmay' (decide_eq_true hb)) (by kernel_rfl) <|
              R.guardIs mixed 10 (decide (farI k x y z w < 0)) false (decide_eq_false hd) (by kernel_rfl) <| R.call mixed rf' (by kernel_rfl) <| R.cond mixed 3 (bif false then true else decide (farI k x' y' z' w' ≥ 0)) true (by simp; omega) (by kernel_rfl) <|
              R.call mixed c_awake15 (by kernel_rfl) <| R.fin mixed Try.func3 (by kernel_rfl)
          · obtain ⟨D, E, hD, hE, c1, c2⟩ := cuts_ hk' ha hb (by omega) (by omega)
            have fb := farI_bounds (k := k) ha.1
            have fb' := farI_bounds (k := k) hb.1
            have s : Sep D E := ⟨by omega, by omega, by omega, by omega⟩
            have hm := cut_may hk' ha hb s hD hE
            have rz := (c_rfar hk' hm.1).val rfl (by rw [far_zero hk'])
            exact R.call mixed (cutOk hk' ha hb (by omega) (by omega) c1) (by kernel_rfl) <| R.call mixed (farOk hk' ha) (by kernel_rfl) <| R.guardIs mixed 12 (decide (k < 0)) false k1 (by kernel_rfl) <| R.cond mixed 4 (bif false then true else decide (k > 6)) false k2 (by kernel_rfl) <|
              R.call mixed (rmay' (decide_eq_true ha)) (by kernel_rfl) <| R.call mixed rf (by kernel_rfl) <| R.cond mixed 3 (farI k x y z w != farI k x y z w) false (by simp) (by kernel_rfl) <| R.call mixed (rmay' (decide_eq_true hb)) (by kernel_rfl) <|
              R.guardIs mixed 10 (decide (farI k x y z w < 0)) false (decide_eq_false hd) (by kernel_rfl) <| R.call mixed rf' (by kernel_rfl) <| R.cond mixed 3 (bif false then true else decide (farI k x' y' z' w' ≥ 0)) false (by simp; omega) (by kernel_rfl) <|
              R.call mixed c2 (by kernel_rfl) <|
              R.guardIs mixed 3 (eqs [(mx k (bet x x' D E) (bet w w' D E)), (my k (bet y y' D E) (bet w w' D E)), (mz k (bet z z' D E) (bet w w' D E)), (mw k (bet w w' D E))] [(mx k (bet x x' D E) (bet w w' D E)), (my k (bet y y' D E) (bet w w' D E)), (mz k (bet z z' D E) (bet w w' D E)), (mw k (bet w w' D E))] && (eqs [(bet a a' D E), (bet b b' D E), (bet c c' D E), (bet d_ d_' D E), (bet e_ e_' D E), (bet f f' D E)] [(bet a a' D E), (bet b b' D E), (bet c c' D E), (bet d_ d_' D E), (bet e_ e_' D E), (bet f f' D E)] && true)) true (by rw [eqs_self, eqs_self]; rfl) (by kernel_rfl) <|
              R.call mixed rz (by kernel_rfl) <| R.call mixed (rmay' (decide_eq_true hm)) (by kernel_rfl) <| R.call mixed c_awake15 (by kernel_rfl) <| R.fin mixed Try.func3 (by kernel_rfl)
      · exact R.call mixed (cutNoB hk' ha hb) (by kernel_rfl) <| R.call mixed (farOk hk' ha) (by kernel_rfl) <| R.guardIs mixed 12 (decide (k < 0)) false k1 (by kernel_rfl) <| R.cond mixed 4 (bif false then true else decide (k > 6)) false k2 (by kernel_rfl) <|
          R.call mixed (rmay' (decide_eq_true ha)) (by kernel_rfl) <| R.call mixed rf (by kernel_rfl) <| R.cond mixed 3 (farI k x y z w != farI k x y z w) false (by simp) (by kernel_rfl) <| R.call mixed (rmay' (decide_eq_false hb)) (by kernel_rfl) <|
          R.call mixed c_awake15 (by kernel_rfl) <| R.fin mixed Try.func3 (by kernel_rfl)
    · exact R.call mixed (@cutNoA k x y z w a b c d_ e_ f x' y' z' w' a' b' c' d_' e_' f' hk' ha) (by kernel_rfl) <| R.call mixed (farNo hk' ha) (by kernel_rfl) <| R.guardIs mixed 12 (decide (k < 0)) false k1 (by kernel_rfl) <| R.cond mixed 4 (bif false then true else decide (k > 6)) false k2 (by kernel_rfl) <|
        R.call mixed (rmay' (decide_eq_false ha)) (by kernel_rfl) <| R.call mixed c_awake15 (by kernel_rfl) <| R.fin mixed Try.func3 (by kernel_rfl)
end

theorem cutsFn (k x y z w a b c d_ e_ f x' y' z' w' a' b' c' d_' e_' f' : Int) : FnEq Try.prog 3 [.int .i64 k, C10 x y z w a b c d_ e_ f, C10 x' y' z' w' a' b' c' d_' e_' f'] [] (.bool true) [] := FnEq.run Try.func3 (by kernel_rfl) rfl cutsLaw

end

end Go.Proofs.Ytfkmhhbpomkakaa.Clip
