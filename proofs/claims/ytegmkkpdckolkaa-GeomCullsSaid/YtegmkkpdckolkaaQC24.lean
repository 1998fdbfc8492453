/- Several texts in one: CAz1, CBz1. -/
import Derived.Test.YtegmkkpdckolkaaQC11
import Derived.Test.YtegmkkpdckolkaaQC23
namespace Go.Proofs.Ytegmkkpdckolkaa.Clip

section
open Go Go.Dt Go.Proofs Go.Proofs.Ytegmkkpdckolkaa.Wide
set_option linter.unusedVariables false
set_option linter.unusedSimpArgs false

abbrev C10 (x y z w a b c d e f : Int) : Value := .agg ⟨[.int .i64 x, .int .i64 y, .int .i64 z, .int .i64 w, .int .i64 a, .int .i64 b, .int .i64 c, .int .i64 d, .int .i64 e, .int .i64 f]⟩
abbrev V4 (x y z w : Int) : Value := .agg ⟨[.int .i64 x, .int .i64 y, .int .i64 z, .int .i64 w]⟩
def ok30 (n : Int) : Prop := -1073741824 ≤ n ∧ n ≤ 1073741824
def ok20 (n : Int) : Prop := -1048576 ≤ n ∧ n ≤ 1048576
def mayV (x y z w : Int) : Prop := ok30 x ∧ ok30 y ∧ ok30 z ∧ ok30 w
def mayC (x y z w a b c d e f : Int) : Prop := mayV x y z w ∧ ok20 a ∧ ok20 b ∧ ok20 c ∧ ok20 d ∧ ok20 e ∧ ok20 f
instance (n : Int) : Decidable (ok30 n) := by unfold ok30; infer_instance
instance (x y z w : Int) : Decidable (mayV x y z w) := by unfold mayV ok30; infer_instance
instance (x y z w a b c d e f : Int) : Decidable (mayC x y z w a b c d e f) := by unfold mayC mayV ok30 ok20; infer_instance

theorem c_may (x y z w a b c d e f : Int) : Con Try.prog 77 [C10 x y z w a b c d e f] (.bool (decide (mayC x y z w a b c d e f))) := by
  refine Con.run Try.func77 (by kernel_rfl) rfl ?_
  rcases Decidable.em (mayC x y z w a b c d e f) with h | h
  · rw [decide_eq_true h]
    simp only [mayC, mayV, ok30, ok20] at h
    exact
            R.guardIs mixed 46 (decide (x < -1073741824)) false (by simp; omega) (by kernel_rfl) <|
            R.cond mixed 4 (bif false then true else decide (x > 1073741824)) false (by simp; omega) (by kernel_rfl) <|
            R.guardIs mixed 27 (decide (y < -1073741824)) false (by simp; omega) (by kernel_rfl) <|
            R.cond mixed 4 (bif false then true else decide (y > 1073741824)) false (by simp; omega) (by kernel_rfl) <|
            R.guardIs mixed 27 (decide (z < -1073741824)) false (by simp; omega) (by kernel_rfl) <|
            R.cond mixed 4 (bif false then true else decide (z > 1073741824)) false (by simp; omega) (by kernel_rfl) <|
            R.guardIs mixed 27 (decide (w < -1073741824)) false (by simp; omega) (by kernel_rfl) <|
            R.cond mixed 4 (bif false then true else decide (w > 1073741824)) false (by simp; omega) (by kernel_rfl) <|
            R.guardIs mixed 42 (decide (a < -1048576)) false (by simp; omega) (by kernel_rfl) <|
            R.cond mixed 4 (bif false then true else decide (a > 1048576)) false (by simp; omega) (by kernel_rfl) <|
            R.guardIs mixed 26 (decide (b < -1048576)) false (by simp; omega) (by kernel_rfl) <|
            R.cond mixed 4 (bif false then true else decide (b > 1048576)) false (by simp; omega) (by kernel_rfl) <|
            R.guardIs mixed 26 (decide (c < -1048576)) false (by simp; omega) (by kernel_rfl) <|
            R.cond mixed 4 (bif false then true else decide (c > 1048576)) false (by simp; omega) (by kernel_rfl) <|
            R.guardIs mixed 26 (decide (d < -1048576)) false (by simp; omega) (by kernel_rfl) <|
            R.cond mixed 4 (bif false then true else decide (d > 1048576)) false (by simp; omega) (by kernel_rfl) <|
            R.guardIs mixed 26 (decide (e < -1048576)) false (by simp; omega) (by kernel_rfl) <|
            R.cond mixed 4 (bif false then true else decide (e > 1048576)) false (by simp; omega) (by kernel_rfl) <|
            R.guardIs mixed 26 (decide (f < -1048576)) false (by simp; omega) (by kernel_rfl) <|
            R.cond mixed 4 (bif false then true else decide (f > 1048576)) false (by simp; omega) (by kernel_rfl) <|
            R.fin mixed Try.func77 (by kernel_rfl)

  · rw [decide_eq_false h]
    simp only [mayC, mayV, ok30, ok20] at h
    exact
          RunsE.adv mixed 46 <| RunsE.guard 27 (decide (x < -1073741824)) (by kernel_rfl)
           (fun h0 =>
             R.finIs mixed Try.func77 (Value.bool false) (by kernel_rfl) (by first | rfl | (exfalso; simp at *; omega))
           )
           (fun h0 =>
             RunsE.adv mixed 4 <| RunsE.branch (bif false then true else decide (x > 1073741824)) (by kernel_rfl)
              (fun h1 =>
                R.finIs mixed Try.func77 (Value.bool false) (by kernel_rfl) (by first | rfl | (exfalso; simp at *; omega))
              )
              (fun h1 =>
                RunsE.adv mixed 27 <| RunsE.guard 27 (decide (y < -1073741824)) (by kernel_rfl)
                 (fun h2 =>
                   R.finIs mixed Try.func77 (Value.bool false) (by kernel_rfl) (by first | rfl | (exfalso; simp at *; omega))
                 )
                 (fun h2 =>
                   RunsE.adv mixed 4 <| RunsE.branch (bif false then true else decide (y > 1073741824)) (by kernel_rfl)
                    (fun h3 =>
                      R.finIs mixed Try.func77 (Value.bool false) (by kernel_rfl) (by first | rfl | (exfalso; simp at *; omega))
                    )
                    (fun h3 =>
                      RunsE.adv mixed 27 <| RunsE.guard 27 (decide (z < -1073741824)) (by kernel_rfl)
                       (fun h4 =>
                         R.finIs mixed Try.func77 (Value.bool false) (by kernel_rfl) (by first | rfl | (exfalso; simp at *; omega))
                       )
                       (fun h4 =>
                         RunsE.adv mixed 4 <| RunsE.branch (bif false then true else decide (z > 1073741824)) (by kernel_rfl)
                          (fun h5 =>
                            R.finIs mixed Try.func77 (Value.bool false) (by kernel_rfl) (by first | rfl | (exfalso; simp at *; omega))
                          )
                          (fun h5 =>
                            RunsE.adv mixed 27 <| RunsE.guard 27 (decide (w < -1073741824)) (by kernel_rfl)
                             (fun h6 =>
                               R.finIs mixed Try.func77 (Value.bool false) (by kernel_rfl) (by first | rfl | (exfalso; simp at *; omega))
                             )
                             (fun h6 =>
                               RunsE.adv mixed 4 <| RunsE.branch (bif false then true else decide (w > 1073741824)) (by kernel_rfl)
                                (fun h7 =>
                                  R.finIs mixed Try.func77 (Value.bool false) (by kernel_rfl) (by first | rfl | (exfalso; simp at *; omega))
                                )
                                (fun h7 =>
                                  RunsE.adv mixed 42 <| RunsE.guard 39 (decide (a < -1048576)) (by kernel_rfl)
                                   (fun h8 =>
                                     R.finIs mixed Try.func77 (Value.bool false) (by kernel_rfl) (by first | rfl | (exfalso; simp at *; omega))
                                   )
                                   (fun h8 =>
                                     RunsE.adv mixed 4 <| RunsE.branch (bif false then true else decide (a > 1048576)) (by kernel_rfl)
                                      (fun h9 =>
                                        R.finIs mixed Try.func77 (Value.bool false) (by kernel_rfl) (by first | rfl | (exfalso; simp at *; omega))
                                      )
                                      (fun h9 =>
                                        RunsE.adv mixed 26 <| RunsE.guard 39 (decide (b < -1048576)) (by kernel_rfl)
                                         (fun h10 =>
                                           R.finIs mixed Try.func77 (Value.bool false) (by kernel_rfl) (by first | rfl | (exfalso; simp at *; omega))
                                         )
                                         (fun h10 =>
                                           RunsE.adv mixed 4 <| RunsE.branch (bif false then true else decide (b > 1048576)) (by kernel_rfl)
                                            (fun h11 =>
                                              R.finIs mixed Try.func77 (Value.bool false) (by kernel_rfl) (by first | rfl | (exfalso; simp at *; omega))
                                            )
                                            (fun h11 =>
                                              RunsE.adv mixed 26 <| RunsE.guard 39 (decide (c < -1048576)) (by kernel_rfl)
                                               (fun h12 =>
                                                 R.finIs mixed Try.func77 (Value.bool false) (by kernel_rfl) (by first | rfl | (exfalso; simp at *; omega))
                                               )
                                               (fun h12 =>
                                                 RunsE.adv mixed 4 <| RunsE.branch (bif false then true else decide (c > 1048576)) (by kernel_rfl)
                                                  (fun h13 =>
                                                    R.finIs mixed Try.func77 (Value.bool false) (by kernel_rfl) (by first | rfl | (exfalso; simp at *; omega))
                                                  )
                                                  (fun h13 =>
                                                    RunsE.adv mixed 26 <| RunsE.guard 39 (decide (d < -1048576)) (by kernel_rfl)
                                                     (fun h14 =>
                                                       R.finIs mixed Try.func77 (Value.bool false) (by kernel_rfl) (by first | rfl | (exfalso; simp at *; omega))
                                                     )
                                                     (fun h14 =>
                                                       RunsE.adv mixed 4 <| RunsE.branch (bif false then true else decide (d > 1048576)) (by kernel_rfl)
                                                        (fun h15 =>
                                                          R.finIs mixed Try.func77 (Value.bool false) (by kernel_rfl) (by first | rfl | (exfalso; simp at *; omega))
                                                        )
                                                        (fun h15 =>
                                                          RunsE.adv mixed 26 <| RunsE.guard 39 (decide (e < -1048576)) (by kernel_rfl)
                                                           (fun h16 =>
                                                             R.finIs mixed Try.func77 (Value.bool false) (by kernel_rfl) (by first | rfl | (exfalso; simp at *; omega))
                                                           )
                                                           (fun h16 =>
                                                             RunsE.adv mixed 4 <| RunsE.branch (bif false then true else decide (e > 1048576)) (by kernel_rfl)
                                                              (fun h17 =>
                                                                R.finIs mixed Try.func77 (Value.bool false) (by kernel_rfl) (by first | rfl | (exfalso; simp at *; omega))
                                                              )
                                                              (fun h17 =>
                                                                RunsE.adv mixed 26 <| RunsE.guard 39 (decide (f < -1048576)) (by kernel_rfl)
                                                                 (fun h18 =>
                                                                   R.finIs mixed Try.func77 (Value.bool false) (by kernel_rfl) (by first | rfl | (exfalso; simp at *; omega))
                                                                 )
                                                                 (fun h18 =>
                                                                   RunsE.adv mixed 4 <| RunsE.branch (bif false then true else decide (f > 1048576)) (by kernel_rfl)
                                                                    (fun h19 =>
                                                                      R.finIs mixed Try.func77 (Value.bool false) (by kernel_rfl) (by first | rfl | (exfalso; simp at *; omega))
                                                                    )
                                                                    (fun h19 =>
                                                                      R.finIs mixed Try.func77 (Value.bool true) (by kernel_rfl) (by first | rfl | (exfalso; simp at *; omega))
                                                                    )
                                                                 )
                                                              )
                                                           )
                                                        )
                                                     )
                                                  )
                                               )
                                            )
                                         )
                                      )
                                   )
                                )
                             )
                          )
                       )
                    )
                 )
              )
           )

/-! ### How far -/
def farI (k x y z w : Int) : Int := if k = 1 then z + w else if k = 2 then w - z else if k = 3 then 4 * w - x else if k = 4 then 4 * w + x else if k = 5 then 4 * w - y else if k = 6 then 4 * w + y else w - 1
theorem farI_bounds {k x y z w : Int} (h : mayV x y z w) : -5368709121 ≤ farI k x y z w ∧ farI k x y z w ≤ 5368709121 := by
  simp only [mayV, ok30] at h
  unfold farI
  repeat' split
  all_goals omega

theorem c_far {k x y z w : Int} (hk : 0 ≤ k ∧ k ≤ 6) (h : mayV x y z w) : Con Try.prog 78 [.int .i64 k, V4 x y z w] (.int .i64 (farI k x y z w)) := by
  simp only [mayV, ok30] at h
  have e4 : IntKind.i64.wrap (4 * w) = 4 * w := wrap_i64_of (by omega) (by omega)
  have hk' : k = 0 ∨ k = 1 ∨ k = 2 ∨ k = 3 ∨ k = 4 ∨ k = 5 ∨ k = 6 := by omega
  rcases hk' with rfl | rfl | rfl | rfl | rfl | rfl | rfl
  · exact Con.run Try.func78 (by kernel_rfl) rfl (R.finIs mixed Try.func78 (.int .i64 (IntKind.i64.wrap (w - 1))) (by kernel_rfl) (by rw [wrap_i64_of (by omega) (by omega)]; simp [farI]))
  · exact Con.run Try.func78 (by kernel_rfl) rfl (R.finIs mixed Try.func78 (.int .i64 (IntKind.i64.wrap (z + w))) (by kernel_rfl) (by rw [wrap_i64_of (by omega) (by omega)]; simp [farI]))
  · exact Con.run Try.func78 (by kernel_rfl) rfl (R.finIs mixed Try.func78 (.int .i64 (IntKind.i64.wrap (w - z))) (by kernel_rfl) (by rw [wrap_i64_of (by omega) (by omega)]; simp [farI]))
  · exact Con.run Try.func78 (by kernel_rfl) rfl (R.finIs mixed Try.func78 (.int .i64 (IntKind.i64.wrap (IntKind.i64.wrap (4 * w) - x))) (by kernel_rfl) (by rw [e4, wrap_i64_of (by omega) (by omega)]; simp [farI]))
  · exact Con.run Try.func78 (by kernel_rfl) rfl (R.finIs mixed Try.func78 (.int .i64 (IntKind.i64.wrap (IntKind.i64.wrap (4 * w) + x))) (by kernel_rfl) (by rw [e4, wrap_i64_of (by omega) (by omega)]; simp [farI]))
  · exact Con.run Try.func78 (by kernel_rfl) rfl (R.finIs mixed Try.func78 (.int .i64 (IntKind.i64.wrap (IntKind.i64.wrap (4 * w) - y))) (by kernel_rfl) (by rw [e4, wrap_i64_of (by omega) (by omega)]; simp [farI]))
  · exact Con.run Try.func78 (by kernel_rfl) rfl (R.finIs mixed Try.func78 (.int .i64 (IntKind.i64.wrap (IntKind.i64.wrap (4 * w) + y))) (by kernel_rfl) (by rw [e4, wrap_i64_of (by omega) (by omega)]; simp [farI]))

theorem c_rfar {k x y z w : Int} (hk : 0 ≤ k ∧ k ≤ 6) (h : mayV x y z w) : Con Try.prog 11 [.int .i64 k, V4 x y z w] (.int .i64 (farI k x y z w)) := by
  simp only [mayV, ok30] at h
  have e4 : IntKind.i64.wrap (4 * w) = 4 * w := wrap_i64_of (by omega) (by omega)
  have hk' : k = 0 ∨ k = 1 ∨ k = 2 ∨ k = 3 ∨ k = 4 ∨ k = 5 ∨ k = 6 := by omega
  rcases hk' with rfl | rfl | rfl | rfl | rfl | rfl | rfl
  · exact Con.run Try.func11 (by kernel_rfl) rfl (R.finIs mixed Try.func11 (.int .i64 (IntKind.i64.wrap (w - 1))) (by kernel_rfl) (by rw [wrap_i64_of (by omega) (by omega)]; simp [farI]))
  · exact Con.run Try.func11 (by kernel_rfl) rfl (R.finIs mixed Try.func11 (.int .i64 (IntKind.i64.wrap (z + w))) (by kernel_rfl) (by rw [wrap_i64_of (by omega) (by omega)]; simp [farI]))
  · exact Con.run Try.func11 (by kernel_rfl) rfl (R.finIs mixed Try.func11 (.int .i64 (IntKind.i64.wrap (w - z))) (by kernel_rfl) (by rw [wrap_i64_of (by omega) (by omega)]; simp [farI]))
  · exact Con.run Try.func11 (by kernel_rfl) rfl (R.finIs mixed Try.func11 (.int .i64 (IntKind.i64.wrap (IntKind.i64.wrap (4 * w) - x))) (by kernel_rfl) (by rw [e4, wrap_i64_of (by omega) (by omega)]; simp [farI]))
  · exact Con.run Try.func11 (by kernel_rfl) rfl (R.finIs mixed Try.func11 (.int .i64 (IntKind.i64.wrap (IntKind.i64.wrap (4 * w) + x))) (by kernel_rfl) (by rw [e4, wrap_i64_of (by omega) (by omega)]; simp [farI]))
  · exact Con.run Try.func11 (by kernel_rfl) rfl (R.finIs mixed Try.func11 (.int .i64 (IntKind.i64.wrap (IntKind.i64.wrap (4 * w) - y))) (by kernel_rfl) (by rw [e4, wrap_i64_of (by omega) (by omega)]; simp [farI]))
  · exact Con.run Try.func11 (by kernel_rfl) rfl (R.finIs mixed Try.func11 (.int .i64 (IntKind.i64.wrap (IntKind.i64.wrap (4 * w) + y))) (by kernel_rfl) (by rw [e4, wrap_i64_of (by omega) (by omega)]; simp [farI]))

/-! ### Between -/
def bet (n m d e : Int) : Int := n + (m - n) * d / (d - e)
structure Sep (d e : Int) : Prop where
  d0 : 0 ≤ d
  d1 : d ≤ 5368709121
  e0 : e < 0
  e1 : -5368709121 ≤ e
theorem step_range {q d e : Int} (s : Sep d e) (h1 : -2147483648 ≤ q) (h2 : q ≤ 2147483648) : (0 ≤ q → 0 ≤ q * d / (d - e) ∧ q * d / (d - e) ≤ q) ∧ (q ≤ 0 → q ≤ q * d / (d - e) ∧ q * d / (d - e) ≤ 0) := by
  have s0 := s.d0; have s1 := s.d1; have s2 := s.e0; have s3 := s.e1
  have hD : 0 < d - e := by omega
  refine ⟨fun hq => ⟨Int.ediv_nonneg (Int.mul_nonneg hq s0) (by omega), ?_⟩, fun hq => ⟨?_, ?_⟩⟩
  · have : q * d ≤ q * (d - e) := Int.mul_le_mul_of_nonneg_left (by omega) hq
    exact Int.lt_add_one_iff.1 (Int.ediv_lt_of_lt_mul hD (by rw [Int.add_mul, Int.one_mul]; omega))
  · refine Int.le_ediv_of_mul_le hD ?_
    have : (-q) * d ≤ (-q) * (d - e) := Int.mul_le_mul_of_nonneg_left (by omega) (by omega)
    rw [Int.neg_mul, Int.neg_mul] at this
    omega
  · refine Int.lt_add_one_iff.1 (Int.ediv_lt_of_lt_mul hD ?_)
    have : 0 ≤ (-q) * d := Int.mul_nonneg (by omega) s0
    rw [Int.neg_mul] at this
    omega
theorem bet_range {n m d e M : Int} (s : Sep d e) (h1 : -M ≤ n ∧ n ≤ M) (h2 : -M ≤ m ∧ m ≤ M) (hM : M ≤ 1073741824) : -M ≤ bet n m d e ∧ bet n m d e ≤ M := by
  have := step_range (q := m - n) s (by omega) (by omega)
  unfold bet
  rcases Int.le_total 0 (m - n) with h | h
  · have := this.1 h; omega
  · have := this.2 h; omega
theorem bet_fits {n m d e : Int} (s : Sep d e) (h1 : ok30 n) (h2 : ok30 m) : floorN (IntKind.i64.wrap (m - n) * d) (IntKind.i64.wrap (d - e)) = (m - n) * d / (d - e) ∧ rfloorN (IntKind.i64.wrap (m - n) * d) (IntKind.i64.wrap (d - e)) = (m - n) * d / (d - e) := by
  have s0 := s.d0; have s1 := s.d1; have s2 := s.e0; have s3 := s.e1
  simp only [ok30] at h1 h2
  rw [wrap_i64_of (n := m - n) (by omega) (by omega), wrap_i64_of (n := d - e) (by omega) (by omega)]
  have hr := step_range (q := m - n) s (by omega) (by omega)
  have e1 : ((m - n) * d).fdiv (d - e) = (m - n) * d / (d - e) := Int.fdiv_eq_ediv_of_nonneg _ (by omega)
  have hf : fits (((m - n) * d).fdiv (d - e)) = true := by
    rw [e1]
    simp only [fits, Bool.and_eq_true, decide_eq_true_eq]
    rcases Int.le_total 0 (m - n) with h | h
    · have := hr.1 h; omega
    · have := hr.2 h; omega
  have hne : d - e ≠ 0 := by omega
  exact ⟨by rw [(mulDiv_in hne hf).1, e1], by rw [rfloorN_fits hf hne, e1]⟩

theorem c_go1 {n m d e : Int} (s : Sep d e) (h1 : ok30 n) (h2 : ok30 m) : ConM Try.prog 83 [.int .i64 n, .int .i64 m, .pointer (some ⟨0, 0, none⟩), .pointer (some ⟨1, 0, none⟩)] [.cells [.int .i64 d] 0 false, .cells [.int .i64 e] 0 false] (.int .i64 (bet n m d e)) (List.replicate 2 .gone) := by
  have s0 := s.d0; have s1 := s.d1; have s2 := s.e0; have s3 := s.e1
  have hb := bet_range (M := 1073741824) s h1 h2 (by omega)
  have e1 : bet n m d e = IntKind.i64.wrap (n + floorN (IntKind.i64.wrap (m - n) * d) (IntKind.i64.wrap (d - e))) := by
    rw [(bet_fits s h1 h2).1]
    exact (wrap_i64_of (n := n + (m - n) * d / (d - e)) (by unfold bet at hb; omega) (by unfold bet at hb; omega)).symm
  rw [e1]
  simp only [ok30] at h1 h2
  exact ConM.reads Try.func83 (by kernel_rfl) rfl <| R.call mixed (c_mulDiv (IntKind.i64.wrap (m - n)) d (IntKind.i64.wrap (d - e)) (wrap_i64_lo _) (wrap_i64_hi _) (by omega) (by omega) (wrap_i64_lo _) (wrap_i64_hi _)) (by kernel_rfl) <| R.fin mixed Try.func83 (by kernel_rfl)

/-! ### Cuts -/
def mx (k X W : Int) : Int := if k = 3 then 4 * W else if k = 4 then -(4 * W) else X
def my (k Y W : Int) : Int := if k = 5 then 4 * W else if k = 6 then -(4 * W) else Y
def mz (k Z W : Int) : Int := if k = 1 then -W else if k = 2 then W else Z
def mw (k W : Int) : Int := if k = 0 then 1 else W

/-- The meeting place of a plane of the guard band lies where it may. -/
theorem meet4 {x x' w w' d e : Int} (s : Sep d e) (hx : ok30 x) (hx' : ok30 x') (hd : d = 4 * w - x) (he : e = 4 * w' - x') : -268435456 ≤ bet w w' d e ∧ bet w w' d e ≤ 268435456 := by
  have s0 := s.d0; have s1 := s.d1; have s2 := s.e0; have s3 := s.e1
  simp only [ok30] at hx hx'
  have hD : 0 < d - e := by omega
  have e1 : bet w w' d e = (w * (d - e) + (w' - w) * d) / (d - e) := by
    unfold bet
    rw [Int.mul_comm w, Int.mul_add_ediv_left _ _ (by omega)]
  have h1 : d * e = 4 * (w * e) - x * e := by
    conv => lhs; rw [hd]
    rw [Int.sub_mul, Int.mul_assoc]
  have h2 : d * e = 4 * (w' * d) - x' * d := by
    conv => lhs; rw [he]
    rw [Int.mul_comm d, Int.sub_mul, Int.mul_assoc]
  have h3 : w * (d - e) + (w' - w) * d = w' * d - w * e := by
    rw [Int.mul_sub, Int.sub_mul]; omega
  have b1 : x' * d ≤ 1073741824 * d := Int.mul_le_mul_of_nonneg_right hx'.2 s0
  have b2 : -1073741824 * d ≤ x' * d := Int.mul_le_mul_of_nonneg_right hx'.1 s0
  have b3 : x * (-e) ≤ 1073741824 * (-e) := Int.mul_le_mul_of_nonneg_right hx.2 (by omega)
  have b4 : -1073741824 * (-e) ≤ x * (-e) := Int.mul_le_mul_of_nonneg_right hx.1 (by omega)
  rw [Int.mul_neg x e] at b3 b4
  rw [e1, h3]
  clear e1 h3
  generalize w' * d = p1 at *
  generalize w * e = p2 at *
  generalize x' * d = p3 at *
  generalize x * e = p4 at *
  constructor
  · refine Int.le_ediv_of_mul_le hD ?_
    omega
  · refine Int.lt_add_one_iff.1 (Int.ediv_lt_of_lt_mul hD ?_)
    omega

theorem c_meet {k x y z w : Int} (hk : 0 ≤ k ∧ k ≤ 6) (hw : ok30 w) : Con Try.prog 85 [.int .i64 k, V4 x y z w] (V4 (mx k x w) (my k y w) (mz k z w) (mw k w)) := by
  simp only [ok30] at hw
  have e4 : IntKind.i64.wrap (4 * w) = 4 * w := wrap_i64_of (by omega) (by omega)
  have e5 : IntKind.i64.wrap (-4 * w) = -(4 * w) := by rw [wrap_i64_of (by omega) (by omega)]; omega
  have e6 : IntKind.i64.wrap (-w) = -w := wrap_i64_of (by omega) (by omega)
  have hk' : k = 0 ∨ k = 1 ∨ k = 2 ∨ k = 3 ∨ k = 4 ∨ k = 5 ∨ k = 6 := by omega
  rcases hk' with rfl | rfl | rfl | rfl | rfl | rfl | rfl
  · exact Con.run Try.func85 (by kernel_rfl) rfl (R.finIs mixed Try.func85 (V4 x y z 1) (by kernel_rfl) (by simp [mx, my, mz, mw, e4, e5, e6]))
  · exact Con.run Try.func85 (by kernel_rfl) rfl (R.finIs mixed Try.func85 (V4 x y (IntKind.i64.wrap (0 - w)) w) (by kernel_rfl) (by simp [mx, my, mz, mw, e4, e5, e6]))
  · exact Con.run Try.func85 (by kernel_rfl) rfl (R.finIs mixed Try.func85 (V4 x y w w) (by kernel_rfl) (by simp [mx, my, mz, mw, e4, e5, e6]))
  · exact Con.run Try.func85 (by kernel_rfl) rfl (R.finIs mixed Try.func85 (V4 (IntKind.i64.wrap (4 * w)) y z w) (by kernel_rfl) (by simp [mx, my, mz, mw, e4, e5, e6]))
  · exact Con.run Try.func85 (by kernel_rfl) rfl (R.finIs mixed Try.func85 (V4 (IntKind.i64.wrap (-4 * w)) y z w) (by kernel_rfl) (by simp [mx, my, mz, mw, e4, e5, e6]))
  · exact Con.run Try.func85 (by kernel_rfl) rfl (R.finIs mixed Try.func85 (V4 x (IntKind.i64.wrap (4 * w)) z w) (by kernel_rfl) (by simp [mx, my, mz, mw, e4, e5, e6]))
  · exact Con.run Try.func85 (by kernel_rfl) rfl (R.finIs mixed Try.func85 (V4 x (IntKind.i64.wrap (-4 * w)) z w) (by kernel_rfl) (by simp [mx, my, mz, mw, e4, e5, e6]))

def cutV (k : Int) (X Y Z W A B C_ D_ E_ F : Int) : Value := C10 (mx k X W) (my k Y W) (mz k Z W) (mw k W) A B C_ D_ E_ F
theorem ok20_30 {n : Int} (h : ok20 n) : ok30 n := by simp only [ok20, ok30] at *; omega
section
variable {k x y z w a b c d_ e_ f x' y' z' w' a' b' c' d_' e_' f' : Int}
theorem cuts_ (hk : 0 ≤ k ∧ k ≤ 6) (h : mayC x y z w a b c d_ e_ f) (h' : mayC x' y' z' w' a' b' c' d_' e_' f') (hd : 0 ≤ farI k x y z w) (he : farI k x' y' z' w' < 0) :
    ∃ D E, D = farI k x y z w ∧ E = farI k x' y' z' w' ∧ Con Try.prog 79 [.int .i64 k, C10 x y z w a b c d_ e_ f, C10 x' y' z' w' a' b' c' d_' e_' f'] (cutV k (bet x x' D E) (bet y y' D E) (bet z z' D E) (bet w w' D E) (bet a a' D E) (bet b b' D E) (bet c c' D E) (bet d_ d_' D E) (bet e_ e_' D E) (bet f f' D E)) := by
  have fb := farI_bounds (k := k) h.1
  have fb' := farI_bounds (k := k) h'.1
  have s : Sep (farI k x y z w) (farI k x' y' z' w') := ⟨hd, fb.2, he, fb'.1⟩
  have cf := c_far hk h.1
  have cf' := c_far hk h'.1
  obtain ⟨⟨h0, h1, h2, h3⟩, i4, i5, i6, i7, i8, i9⟩ := h
  obtain ⟨⟨g0, g1, g2, g3⟩, j4, j5, j6, j7, j8, j9⟩ := h'
  have h4 := ok20_30 i4
  have g4 := ok20_30 j4
  have h5 := ok20_30 i5
  have g5 := ok20_30 j5
  have h6 := ok20_30 i6
  have g6 := ok20_30 j6
  have h7 := ok20_30 i7
  have g7 := ok20_30 j7
  have h8 := ok20_30 i8
  have g8 := ok20_30 j8
  have h9 := ok20_30 i9
  have g9 := ok20_30 j9
  refine ⟨_, _, rfl, rfl, ?_⟩
  generalize farI k x y z w = D at *
  generalize farI k x' y' z' w' = E at *
  have bw : ok30 (bet w w' D E) := bet_range s h3 g3 (by omega)
  have cm := c_meet (x := bet x x' D E) (y := bet y y' D E) (z := bet z z' D E) hk bw
  have bw' := bw
  simp only [ok30] at bw'
  have e4 : IntKind.i64.wrap (4 * bet w w' D E) = 4 * bet w w' D E := wrap_i64_of (by omega) (by omega)
  have e5 : IntKind.i64.wrap (-(4 * bet w w' D E)) = -(4 * bet w w' D E) := wrap_i64_of (by omega) (by omega)
  have e6 : IntKind.i64.wrap (-bet w w' D E) = -bet w w' D E := wrap_i64_of (by omega) (by omega)
  have hk' : k = 0 ∨ k = 1 ∨ k = 2 ∨ k = 3 ∨ k = 4 ∨ k = 5 ∨ k = 6 := by omega
  exact Con.run Try.func79 (by kernel_rfl) rfl <| R.call mixed cf (by kernel_rfl) <| R.call mixed cf' (by kernel_rfl) <|
      R.callM mixed [.win 3 0 1 false, .win 4 0 1 false] (c_go1 s h0 g0) (by kernel_rfl) (by kernel_rfl) rfl <| R.callM mixed [.win 3 0 1 false, .win 4 0 1 false] (c_go1 s h1 g1) (by kernel_rfl) (by kernel_rfl) rfl <| R.callM mixed [.win 3 0 1 false, .win 4 0 1 false] (c_go1 s h2 g2) (by kernel_rfl) (by kernel_rfl) rfl <| R.callM mixed [.win 3 0 1 false, .win 4 0 1 false] (c_go1 s h3 g3) (by kernel_rfl) (by kernel_rfl) rfl <|
      R.call mixed cm (by kernel_rfl) <|
      R.callM mixed [.win 3 0 1 false, .win 4 0 1 false] (c_go1 s h4 g4) (by kernel_rfl) (by kernel_rfl) rfl <| R.callM mixed [.win 3 0 1 false, .win 4 0 1 false] (c_go1 s h5 g5) (by kernel_rfl) (by kernel_rfl) rfl <| R.callM mixed [.win 3 0 1 false, .win 4 0 1 false] (c_go1 s h6 g6) (by kernel_rfl) (by kernel_rfl) rfl <| R.callM mixed [.win 3 0 1 false, .win 4 0 1 false] (c_go1 s h7 g7) (by kernel_rfl) (by kernel_rfl) rfl <| R.callM mixed [.win 3 0 1 false, .win 4 0 1 false] (c_go1 s h8 g8) (by kernel_rfl) (by kernel_rfl) rfl <| R.callM mixed [.win 3 0 1 false, .win 4 0 1 false] (c_go1 s h9 g9) (by kernel_rfl) (by kernel_rfl) rfl <|
      R.fin mixed Try.func79 (by kernel_rfl)
end

end

section
open Go Go.Dt Go.Proofs Go.Proofs.Ytegmkkpdckolkaa.Wide
set_option linter.unusedVariables false
set_option linter.unusedSimpArgs false

section
variable {k x y z w a b c d_ e_ f x' y' z' w' a' b' c' d_' e_' f' : Int}
theorem far_zero (hk : 0 ≤ k ∧ k ≤ 6) (X Y Z W : Int) : farI k (mx k X W) (my k Y W) (mz k Z W) (mw k W) = 0 := by
  have hk' : k = 0 ∨ k = 1 ∨ k = 2 ∨ k = 3 ∨ k = 4 ∨ k = 5 ∨ k = 6 := by omega
  rcases hk' with rfl | rfl | rfl | rfl | rfl | rfl | rfl <;> simp [farI, mx, my, mz, mw] <;> omega

theorem cut_may {D E : Int} (hk : 0 ≤ k ∧ k ≤ 6) (h : mayC x y z w a b c d_ e_ f) (h' : mayC x' y' z' w' a' b' c' d_' e_' f') (s : Sep D E) (hD : D = farI k x y z w) (hE : E = farI k x' y' z' w') :
    mayC (mx k (bet x x' D E) (bet w w' D E)) (my k (bet y y' D E) (bet w w' D E)) (mz k (bet z z' D E) (bet w w' D E)) (mw k (bet w w' D E)) (bet a a' D E) (bet b b' D E) (bet c c' D E) (bet d_ d_' D E) (bet e_ e_' D E) (bet f f' D E) := by
  obtain ⟨⟨h0, h1, h2, h3⟩, i4, i5, i6, i7, i8, i9⟩ := h
  obtain ⟨⟨g0, g1, g2, g3⟩, j4, j5, j6, j7, j8, j9⟩ := h'
  have X := bet_range (M := 1073741824) s h0 g0 (by omega)
  have Y := bet_range (M := 1073741824) s h1 g1 (by omega)
  have Z := bet_range (M := 1073741824) s h2 g2 (by omega)
  have W := bet_range (M := 1073741824) s h3 g3 (by omega)
  refine ⟨?_, bet_range s i4 j4 (by omega), bet_range s i5 j5 (by omega), bet_range s i6 j6 (by omega), bet_range s i7 j7 (by omega), bet_range s i8 j8 (by omega), bet_range s i9 j9 (by omega)⟩
  have nx : ok30 (-x) := by simp only [ok30] at *; omega
  have nx' : ok30 (-x') := by simp only [ok30] at *; omega
  have ny : ok30 (-y) := by simp only [ok30] at *; omega
  have ny' : ok30 (-y') := by simp only [ok30] at *; omega
  have hk' : k = 0 ∨ k = 1 ∨ k = 2 ∨ k = 3 ∨ k = 4 ∨ k = 5 ∨ k = 6 := by omega
  rcases hk' with rfl | rfl | rfl | rfl | rfl | rfl | rfl
  · simp [mayV, ok30, mx, my, mz, mw]; omega
  · simp [mayV, ok30, mx, my, mz, mw]; omega
  · simp [mayV, ok30, mx, my, mz, mw]; omega
  · have M := meet4 s h0 g0 (w := w) (w' := w') (by simpa [farI] using hD) (by simpa [farI] using hE)
    simp [mayV, ok30, mx, my, mz, mw]; omega
  · have M := meet4 s nx nx' (w := w) (w' := w') (by simp [farI] at hD; omega) (by simp [farI] at hE; omega)
    simp [mayV, ok30, mx, my, mz, mw]; omega
  · have M := meet4 s h1 g1 (w := w) (w' := w') (by simpa [farI] using hD) (by simpa [farI] using hE)
    simp [mayV, ok30, mx, my, mz, mw]; omega
  · have M := meet4 s ny ny' (w := w) (w' := w') (by simp [farI] at hD; omega) (by simp [farI] at hE; omega)
    simp [mayV, ok30, mx, my, mz, mw]; omega

end

end

end Go.Proofs.Ytegmkkpdckolkaa.Clip
