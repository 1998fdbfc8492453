/- States: which may be. -/
import Derived.Test.YtfkmhhbpomkakaaFA
namespace Go.Proofs.Ytfkmhhbpomkakaa.Frag
open Go Go.Dt Go.Proofs
set_option linter.unusedVariables false
set_option linter.unusedSimpArgs false

abbrev M16 (m0 m1 m2 m3 m4 m5 m6 m7 m8 m9 m10 m11 m12 m13 m14 m15 : Int) : Value := .agg ⟨[.int .i64 m0, .int .i64 m1, .int .i64 m2, .int .i64 m3, .int .i64 m4, .int .i64 m5, .int .i64 m6, .int .i64 m7, .int .i64 m8, .int .i64 m9, .int .i64 m10, .int .i64 m11, .int .i64 m12, .int .i64 m13, .int .i64 m14, .int .i64 m15]⟩
abbrev R4 (a b c d : Int) : Value := .agg ⟨[.int .i64 a, .int .i64 b, .int .i64 c, .int .i64 d]⟩
abbrev S7 (a b c d e f g : Int) : Value := .agg ⟨[.int .i64 a, .int .i64 b, .int .i64 c, .int .i64 d, .int .i64 e, .int .i64 f, .int .i64 g]⟩
def w24 (n : Int) : Bool := decide (-16777216 ≤ n) && decide (n ≤ 16777216)
def mayM (m0 m1 m2 m3 m4 m5 m6 m7 m8 m9 m10 m11 m12 m13 m14 m15 : Int) : Bool := w24 m0 && (w24 m1 && (w24 m2 && (w24 m3 && (w24 m4 && (w24 m5 && (w24 m6 && (w24 m7 && (w24 m8 && (w24 m9 && (w24 m10 && (w24 m11 && (w24 m12 && (w24 m13 && (w24 m14 && (w24 m15)))))))))))))))
def viewP (a b c d : Int) : Prop := (-4096 ≤ a ∧ a ≤ 4096 ∧ -4096 ≤ b ∧ b ≤ 4096) ∧ (a ≤ c ∧ c ≤ a + 4096) ∧ (b ≤ d ∧ d ≤ b + 4096)
instance (a b c d : Int) : Decidable (viewP a b c d) := by unfold viewP; infer_instance
def is7 (n : Int) : Bool := decide (0 ≤ n) && decide (n ≤ 7)
def k7 (a : Int) : Int := bif is7 a then 0 else 9
def not7 (a : Int) : Int := bif is7 a then IntKind.i64.wrap ↑(BitVec.ofInt 64 7 &&& ~~~BitVec.ofInt 64 a).toNat else 0
def rel (a b : Int) : Int := if a < b then 1 else if a > b then 4 else 2
def passB (a b c : Int) : Bool := bif is7 a then IntKind.i64.wrap ↑(BitVec.ofInt 64 a &&& BitVec.ofInt 64 (rel b c)).toNat != 0 else false
def kind2 (n : Int) : Int := if n < 0 then 9 else if n > 2 then 9 else 0
def hand (n : Int) : Int := if n < 0 then 7 else if n > 64 then 7 else 0
def blendE (a b c d : Int) : Int := if (0 ≤ a ∧ a ≤ 9) ∧ (0 ≤ b ∧ b ≤ 9) ∧ (0 ≤ c ∧ c ≤ 4) then (if 0 ≤ d ∧ d ≤ 15 then 0 else 3) else 9
def stenE (a b c d e f g : Int) : Int := bif is7 a && is7 e && is7 f && is7 g then (bif is8 b && is8 c && is8 d then 0 else 3) else 9
def inR (a b c d e f : Int) : Bool := decide (a ≤ e) && (decide (e < c) && (decide (b ≤ f) && decide (f < d)))
theorem wr0 : IntKind.i64.wrap 0 = 0 := rfl

theorem c_w24 {n : Int}  : Con Try.prog 165 [.int .i64 n, .int .i64 16777216] (.bool (w24 n)) := by
  exact Con.run Try.func165 (by kernel_rfl) rfl <|
    R.guard mixed 11 (decide (n ≥ -16777216)) (by kernel_rfl)
     (fun h0 =>
       R.finIs mixed Try.func165 (Value.bool (bif true then decide (n ≤ 16777216) else false)) (by kernel_rfl) (by congr 1; simp [w24] at *; try omega)
     )
     (fun h0 =>
       R.finIs mixed Try.func165 (Value.bool false) (by kernel_rfl) (by congr 1; simp [w24] at *; try omega)
     )

theorem c_rw24 {n : Int}  : Con Try.prog 97 [.int .i64 n, .int .i64 16777216] (.bool (w24 n)) := by
  exact Con.run Try.func97 (by kernel_rfl) rfl <|
    R.guard mixed 11 (decide (n ≥ -16777216)) (by kernel_rfl)
     (fun h0 =>
       R.finIs mixed Try.func97 (Value.bool (bif true then decide (n ≤ 16777216) else false)) (by kernel_rfl) (by congr 1; simp [w24] at *; try omega)
     )
     (fun h0 =>
       R.finIs mixed Try.func97 (Value.bool false) (by kernel_rfl) (by congr 1; simp [w24] at *; try omega)
     )

theorem c_w30z   : Con Try.prog 165 [.int .i64 0, .int .i64 1073741824] (.bool true) := by
  exact Con.run Try.func165 (by kernel_rfl) rfl <|
    R.finIs mixed Try.func165 (Value.bool (bif decide (0 ≥ -1073741824) then decide (0 ≤ 1073741824) else false)) (by kernel_rfl) (by rfl)

theorem c_mayM {m0 m1 m2 m3 m4 m5 m6 m7 m8 m9 m10 m11 m12 m13 m14 m15 : Int}  : Con Try.prog 164 [M16 m0 m1 m2 m3 m4 m5 m6 m7 m8 m9 m10 m11 m12 m13 m14 m15] (.bool (mayM m0 m1 m2 m3 m4 m5 m6 m7 m8 m9 m10 m11 m12 m13 m14 m15)) := by
  exact Con.run Try.func164 (by kernel_rfl) rfl <|
    R.call mixed (show Con Try.prog 165 [Value.int IntKind.i64 m0, Value.int IntKind.i64 16777216] (Value.bool (w24 m0)) from c_w24) (by kernel_rfl) <|
    R.branch mixed 2 (!w24 m0) (by kernel_rfl)
     (fun h0 =>
       R.finIs mixed Try.func164 (Value.bool false) (by kernel_rfl) (by simp_all [mayM])
     )
     (fun h0 =>
       R.call mixed (show Con Try.prog 165 [Value.int IntKind.i64 m1, Value.int IntKind.i64 16777216] (Value.bool (w24 m1)) from c_w24) (by kernel_rfl) <|
       R.branch mixed 2 (!w24 m1) (by kernel_rfl)
        (fun h1 =>
          R.finIs mixed Try.func164 (Value.bool false) (by kernel_rfl) (by simp_all [mayM])
        )
        (fun h1 =>
          R.call mixed (show Con Try.prog 165 [Value.int IntKind.i64 m2, Value.int IntKind.i64 16777216] (Value.bool (w24 m2)) from c_w24) (by kernel_rfl) <|
          R.branch mixed 2 (!w24 m2) (by kernel_rfl)
           (fun h2 =>
             R.finIs mixed Try.func164 (Value.bool false) (by kernel_rfl) (by simp_all [mayM])
           )
           (fun h2 =>
             R.call mixed (show Con Try.prog 165 [Value.int IntKind.i64 m3, Value.int IntKind.i64 16777216] (Value.bool (w24 m3)) from c_w24) (by kernel_rfl) <|
             R.branch mixed 2 (!w24 m3) (by kernel_rfl)
              (fun h3 =>
                R.finIs mixed Try.func164 (Value.bool false) (by kernel_rfl) (by simp_all [mayM])
              )
              (fun h3 =>
                R.call mixed (show Con Try.prog 165 [Value.int IntKind.i64 m4, Value.int IntKind.i64 16777216] (Value.bool (w24 m4)) from c_w24) (by kernel_rfl) <|
                R.branch mixed 2 (!w24 m4) (by kernel_rfl)
                 (fun h4 =>
                   R.finIs mixed Try.func164 (Value.bool false) (by kernel_rfl) (by simp_all [mayM])
                 )
                 (fun h4 =>
                   R.call mixed (show Con Try.prog 165 [Value.int IntKind.i64 m5, Value.int IntKind.i64 16777216] (Value.bool (w24 m5)) from c_w24) (by kernel_rfl) <|
                   R.branch mixed 2 (!w24 m5) (by kernel_rfl)
                    (fun h5 =>
                      R.finIs mixed Try.func164 (Value.bool false) (by kernel_rfl) (by simp_all [mayM])
                    )
                    (fun h5 =>
                      R.call mixed (show Con Try.prog 165 [Value.int IntKind.i64 m6, Value.int IntKind.i64 16777216] (Value.bool (w24 m6)) from c_w24) (by kernel_rfl) <|
                      R.branch mixed 2 (!w24 m6) (by kernel_rfl)
                       (fun h6 =>
                         R.finIs mixed Try.func164 (Value.bool false) (by kernel_rfl) (by simp_all [mayM])
                       )
                       (fun h6 =>
                         R.call mixed (show Con Try.prog 165 [Value.int IntKind.i64 m7, Value.int IntKind.i64 16777216] (Value.bool (w24 m7)) from c_w24) (by kernel_rfl) <|
                         R.branch mixed 2 (!w24 m7) (by kernel_rfl)
                          (fun h7 =>
                            R.finIs mixed Try.func164 (Value.bool false) (by kernel_rfl) (by simp_all [mayM])
                          )
                          (fun h7 =>
                            R.call mixed (show Con Try.prog 165 [Value.int IntKind.i64 m8, Value.int IntKind.i64 16777216] (Value.bool (w24 m8)) from c_w24) (by kernel_rfl) <|
                            R.branch mixed 2 (!w24 m8) (by kernel_rfl)
                             (fun h8 =>
                               R.finIs mixed Try.func164 (Value.bool false) (by kernel_rfl) (by simp_all [mayM])
                             )
                             (fun h8 =>
                               R.call mixed (show Con Try.prog 165 [Value.int IntKind.i64 m9, Value.int IntKind.i64 16777216] (Value.bool (w24 m9)) from c_w24) (by kernel_rfl) <|
                               R.branch mixed 2 (!w24 m9) (by kernel_rfl)
                                (fun h9 =>
                                  R.finIs mixed Try.func164 (Value.bool false) (by kernel_rfl) (by simp_all [mayM])
                                )
                                (fun h9 =>
                                  R.call mixed (show Con Try.prog 165 [Value.int IntKind.i64 m10, Value.int IntKind.i64 16777216] (Value.bool (w24 m10)) from c_w24) (by kernel_rfl) <|
                                  R.branch mixed 2 (!w24 m10) (by kernel_rfl)
                                   (fun h10 =>
                                     R.finIs mixed Try.func164 (Value.bool false) (by kernel_rfl) (by simp_all [mayM])
                                   )
                                   (fun h10 =>
                                     R.call mixed (show Con Try.prog 165 [Value.int IntKind.i64 m11, Value.int IntKind.i64 16777216] (Value.bool (w24 m11)) from c_w24) (by kernel_rfl) <|
                                     R.branch mixed 2 (!w24 m11) (by kernel_rfl)
                                      (fun h11 =>
                                        R.finIs mixed Try.func164 (Value.bool false) (by kernel_rfl) (by simp_all [mayM])
                                      )
                                      (fun h11 =>
                                        R.call mixed (show Con Try.prog 165 [Value.int IntKind.i64 m12, Value.int IntKind.i64 16777216] (Value.bool (w24 m12)) from c_w24) (by kernel_rfl) <|
                                        R.branch mixed 2 (!w24 m12) (by kernel_rfl)
                                         (fun h12 =>
                                           R.finIs mixed Try.func164 (Value.bool false) (by kernel_rfl) (by simp_all [mayM])
                                         )
                                         (fun h12 =>
                                           R.call mixed (show Con Try.prog 165 [Value.int IntKind.i64 m13, Value.int IntKind.i64 16777216] (Value.bool (w24 m13)) from c_w24) (by kernel_rfl) <|
                                           R.branch mixed 2 (!w24 m13) (by kernel_rfl)
                                            (fun h13 =>
                                              R.finIs mixed Try.func164 (Value.bool false) (by kernel_rfl) (by simp_all [mayM])
                                            )
                                            (fun h13 =>
                                              R.call mixed (show Con Try.prog 165 [Value.int IntKind.i64 m14, Value.int IntKind.i64 16777216] (Value.bool (w24 m14)) from c_w24) (by kernel_rfl) <|
                                              R.branch mixed 2 (!w24 m14) (by kernel_rfl)
                                               (fun h14 =>
                                                 R.finIs mixed Try.func164 (Value.bool false) (by kernel_rfl) (by simp_all [mayM])
                                               )
                                               (fun h14 =>
                                                 R.call mixed (show Con Try.prog 165 [Value.int IntKind.i64 m15, Value.int IntKind.i64 16777216] (Value.bool (w24 m15)) from c_w24) (by kernel_rfl) <|
                                                 R.branch mixed 2 (!w24 m15) (by kernel_rfl)
                                                  (fun h15 =>
                                                    R.finIs mixed Try.func164 (Value.bool false) (by kernel_rfl) (by simp_all [mayM])
                                                  )
                                                  (fun h15 =>
                                                    R.finIs mixed Try.func164 (Value.bool true) (by kernel_rfl) (by simp_all [mayM])
                                                  )
                                               )
                                            )
                                         )
                                      )
                                   )
                                )
                             )
                          )
                       )
                    )
                 )
              )
           )
        )
     )

theorem c_rmayM {m0 m1 m2 m3 m4 m5 m6 m7 m8 m9 m10 m11 m12 m13 m14 m15 : Int}  : Con Try.prog 81 [M16 m0 m1 m2 m3 m4 m5 m6 m7 m8 m9 m10 m11 m12 m13 m14 m15] (.bool (mayM m0 m1 m2 m3 m4 m5 m6 m7 m8 m9 m10 m11 m12 m13 m14 m15)) := by
  exact Con.run Try.func81 (by kernel_rfl) rfl <|
    R.call mixed (show Con Try.prog 97 [Value.int IntKind.i64 m0, Value.int IntKind.i64 16777216] (Value.bool (w24 m0)) from c_rw24) (by kernel_rfl) <|
    R.branch mixed 2 (!w24 m0) (by kernel_rfl)
     (fun h0 =>
       R.finIs mixed Try.func81 (Value.bool false) (by kernel_rfl) (by simp_all [mayM])
     )
     (fun h0 =>
       R.call mixed (show Con Try.prog 97 [Value.int IntKind.i64 m1, Value.int IntKind.i64 16777216] (Value.bool (w24 m1)) from c_rw24) (by kernel_rfl) <|
       R.branch mixed 2 (!w24 m1) (by kernel_rfl)
        (fun h1 =>
          R.finIs mixed Try.func81 (Value.bool false) (by kernel_rfl) (by simp_all [mayM])
        )
        (fun h1 =>
          R.call mixed (show Con Try.prog 97 [Value.int IntKind.i64 m2, Value.int IntKind.i64 16777216] (Value.bool (w24 m2)) from c_rw24) (by kernel_rfl) <|
          R.branch mixed 2 (!w24 m2) (by kernel_rfl)
           (fun h2 =>
             R.finIs mixed Try.func81 (Value.bool false) (by kernel_rfl) (by simp_all [mayM])
           )
           (fun h2 =>
             R.call mixed (show Con Try.prog 97 [Value.int IntKind.i64 m3, Value.int IntKind.i64 16777216] (Value.bool (w24 m3)) from c_rw24) (by kernel_rfl) <|
             R.branch mixed 2 (!w24 m3) (by kernel_rfl)
              (fun h3 =>
                R.finIs mixed Try.func81 (Value.bool false) (by kernel_rfl) (by simp_all [mayM])
              )
              (fun h3 =>
                R.call mixed (show Con Try.prog 97 [Value.int IntKind.i64 m4, Value.int IntKind.i64 16777216] (Value.bool (w24 m4)) from c_rw24) (by kernel_rfl) <|
                R.branch mixed 2 (!w24 m4) (by kernel_rfl)
                 (fun h4 =>
                   R.finIs mixed Try.func81 (Value.bool false) (by kernel_rfl) (by simp_all [mayM])
                 )
                 (fun h4 =>
                   R.call mixed (show Con Try.prog 97 [Value.int IntKind.i64 m5, Value.int IntKind.i64 16777216] (Value.bool (w24 m5)) from c_rw24) (by kernel_rfl) <|
                   R.branch mixed 2 (!w24 m5) (by kernel_rfl)
                    (fun h5 =>
                      R.finIs mixed Try.func81 (Value.bool false) (by kernel_rfl) (by simp_all [mayM])
                    )
                    (fun h5 =>
                      R.call mixed (show Con Try.prog 97 [Value.int IntKind.i64 m6, Value.int IntKind.i64 16777216] (Value.bool (w24 m6)) from c_rw24) (by kernel_rfl) <|
                      R.branch mixed 2 (!w24 m6) (by kernel_rfl)
                       (fun h6 =>
                         R.finIs mixed Try.func81 (Value.bool false) (by kernel_rfl) (by simp_all [mayM])
                       )
                       (fun h6 =>
                         R.call mixed (show Con Try.prog 97 [Value.int IntKind.i64 m7, Value.int IntKind.i64 16777216] (Value.bool (w24 m7)) from c_rw24) (by kernel_rfl) <|
                         R.branch mixed 2 (!w24 m7) (by kernel_rfl)
                          (fun h7 =>
                            R.finIs mixed Try.func81 (Value.bool false) (by kernel_rfl) (by simp_all [mayM])
                          )
                          (fun h7 =>
                            R.call mixed (show Con Try.prog 97 [Value.int IntKind.i64 m8, Value.int IntKind.i64 16777216] (Value.bool (w24 m8)) from c_rw24) (by kernel_rfl) <|
                            R.branch mixed 2 (!w24 m8) (by kernel_rfl)
                             (fun h8 =>
                               R.finIs mixed Try.func81 (Value.bool false) (by kernel_rfl) (by simp_all [mayM])
                             )
                             (fun h8 =>
                               R.call mixed (show Con Try.prog 97 [Value.int IntKind.i64 m9, Value.int IntKind.i64 16777216] (Value.bool (w24 m9)) from c_rw24) (by kernel_rfl) <|
                               R.branch mixed 2 (!w24 m9) (by kernel_rfl)
                                (fun h9 =>
                                  R.finIs mixed Try.func81 (Value.bool false) (by kernel_rfl) (by simp_all [mayM])
                                )
                                (fun h9 =>
                                  R.call mixed (show Con Try.prog 97 [Value.int IntKind.i64 m10, Value.int IntKind.i64 16777216] (Value.bool (w24 m10)) from c_rw24) (by kernel_rfl) <|
                                  R.branch mixed 2 (!w24 m10) (by kernel_rfl)
                                   (fun h10 =>
                                     R.finIs mixed Try.func81 (Value.bool false) (by kernel_rfl) (by simp_all [mayM])
                                   )
                                   (fun h10 =>
                                     R.call mixed (show Con Try.prog 97 [Value.int IntKind.i64 m11, Value.int IntKind.i64 16777216] (Value.bool (w24 m11)) from c_rw24) (by kernel_rfl) <|
                                     R.branch mixed 2 (!w24 m11) (by kernel_rfl)
                                      (fun h11 =>
                                        R.finIs mixed Try.func81 (Value.bool false) (by kernel_rfl) (by simp_all [mayM])
                                      )
                                      (fun h11 =>
                                        R.call mixed (show Con Try.prog 97 [Value.int IntKind.i64 m12, Value.int IntKind.i64 16777216] (Value.bool (w24 m12)) from c_rw24) (by kernel_rfl) <|
                                        R.branch mixed 2 (!w24 m12) (by kernel_rfl)
                                         (fun h12 =>
                                           R.finIs mixed Try.func81 (Value.bool false) (by kernel_rfl) (by simp_all [mayM])
                                         )
                                         (fun h12 =>
                                           R.call mixed (show Con Try.prog 97 [Value.int IntKind.i64 m13, Value.int IntKind.i64 16777216] (Value.bool (w24 m13)) from c_rw24) (by kernel_rfl) <|
                                           R.branch mixed 2 (!w24 m13) (by kernel_rfl)
                                            (fun h13 =>
                                              R.finIs mixed Try.func81 (Value.bool false) (by kernel_rfl) (by simp_all [mayM])
                                            )
                                            (fun h13 =>
                                              R.call mixed (show Con Try.prog 97 [Value.int IntKind.i64 m14, Value.int IntKind.i64 16777216] (Value.bool (w24 m14)) from c_rw24) (by kernel_rfl) <|
                                              R.branch mixed 2 (!w24 m14) (by kernel_rfl)
                                               (fun h14 =>
                                                 R.finIs mixed Try.func81 (Value.bool false) (by kernel_rfl) (by simp_all [mayM])
                                               )
                                               (fun h14 =>
                                                 R.call mixed (show Con Try.prog 97 [Value.int IntKind.i64 m15, Value.int IntKind.i64 16777216] (Value.bool (w24 m15)) from c_rw24) (by kernel_rfl) <|
                                                 R.branch mixed 2 (!w24 m15) (by kernel_rfl)
                                                  (fun h15 =>
                                                    R.finIs mixed Try.func81 (Value.bool false) (by kernel_rfl) (by simp_all [mayM])
                                                  )
                                                  (fun h15 =>
                                                    R.finIs mixed Try.func81 (Value.bool true) (by kernel_rfl) (by simp_all [mayM])
                                                  )
                                               )
                                            )
                                         )
                                      )
                                   )
                                )
                             )
                          )
                       )
                    )
                 )
              )
           )
        )
     )

theorem c_list0 {a b c d : Int}  : Con Try.prog 163 [R4 a b c d] (R4 a b c d) := by
  exact Con.run Try.func163 (by kernel_rfl) rfl <|
    R.finIs mixed Try.func163 (Value.agg ⟨[Value.int IntKind.i64 a, Value.int IntKind.i64 b, Value.int IntKind.i64 c, Value.int IntKind.i64 d]⟩) (by kernel_rfl) (by rfl)

theorem c_view {a b c d : Int}  : Con Try.prog 112 [R4 a b c d] (.int .i64 (if viewP a b c d then 0 else 12)) := by
  exact Con.run Try.func112 (by kernel_rfl) rfl <|
    R.guard mixed 12 (decide (a < -4096)) (by kernel_rfl)
     (fun h0 =>
       R.finIs mixed Try.func112 (Value.int IntKind.i64 12) (by kernel_rfl) (by first | rw [if_pos (by unfold viewP; simp at *; (first | rw [wrap_i64_of (n := a + 4096) (by omega) (by omega)] at * | skip); (first | rw [wrap_i64_of (n := b + 4096) (by omega) (by omega)] at * | skip); omega)] | rw [if_neg (by unfold viewP; simp at *; (first | rw [wrap_i64_of (n := a + 4096) (by omega) (by omega)] at * | skip); (first | rw [wrap_i64_of (n := b + 4096) (by omega) (by omega)] at * | skip); omega)] | (refine congrArg Value.bool (decide_eq_true ?_).symm; (unfold viewP; simp at *; (first | rw [wrap_i64_of (n := a + 4096) (by omega) (by omega)] at * | skip); (first | rw [wrap_i64_of (n := b + 4096) (by omega) (by omega)] at * | skip); omega)) | (refine congrArg Value.bool (decide_eq_false ?_).symm; (unfold viewP; simp at *; (first | rw [wrap_i64_of (n := a + 4096) (by omega) (by omega)] at * | skip); (first | rw [wrap_i64_of (n := b + 4096) (by omega) (by omega)] at * | skip); omega)) | (congr 1; rw [cond_true, decide_eq_decide]; unfold viewP; simp at *; (first | rw [wrap_i64_of (n := a + 4096) (by omega) (by omega)] at * | skip); (first | rw [wrap_i64_of (n := b + 4096) (by omega) (by omega)] at * | skip); omega))
     )
     (fun h0 =>
       R.guard mixed 5 (bif false then true else decide (a > 4096)) (by kernel_rfl)
        (fun h1 =>
          R.finIs mixed Try.func112 (Value.int IntKind.i64 12) (by kernel_rfl) (by first | rw [if_pos (by unfold viewP; simp at *; (first | rw [wrap_i64_of (n := a + 4096) (by omega) (by omega)] at * | skip); (first | rw [wrap_i64_of (n := b + 4096) (by omega) (by omega)] at * | skip); omega)] | rw [if_neg (by unfold viewP; simp at *; (first | rw [wrap_i64_of (n := a + 4096) (by omega) (by omega)] at * | skip); (first | rw [wrap_i64_of (n := b + 4096) (by omega) (by omega)] at * | skip); omega)] | (refine congrArg Value.bool (decide_eq_true ?_).symm; (unfold viewP; simp at *; (first | rw [wrap_i64_of (n := a + 4096) (by omega) (by omega)] at * | skip); (first | rw [wrap_i64_of (n := b + 4096) (by omega) (by omega)] at * | skip); omega)) | (refine congrArg Value.bool (decide_eq_false ?_).symm; (unfold viewP; simp at *; (first | rw [wrap_i64_of (n := a + 4096) (by omega) (by omega)] at * | skip); (first | rw [wrap_i64_of (n := b + 4096) (by omega) (by omega)] at * | skip); omega)) | (congr 1; rw [cond_true, decide_eq_decide]; unfold viewP; simp at *; (first | rw [wrap_i64_of (n := a + 4096) (by omega) (by omega)] at * | skip); (first | rw [wrap_i64_of (n := b + 4096) (by omega) (by omega)] at * | skip); omega))
        )
        (fun h1 =>
          R.guard mixed 5 (bif false then true else decide (b < -4096)) (by kernel_rfl)
           (fun h2 =>
             R.finIs mixed Try.func112 (Value.int IntKind.i64 12) (by kernel_rfl) (by first | rw [if_pos (by unfold viewP; simp at *; (first | rw [wrap_i64_of (n := a + 4096) (by omega) (by omega)] at * | skip); (first | rw [wrap_i64_of (n := b + 4096) (by omega) (by omega)] at * | skip); omega)] | rw [if_neg (by unfold viewP; simp at *; (first | rw [wrap_i64_of (n := a + 4096) (by omega) (by omega)] at * | skip); (first | rw [wrap_i64_of (n := b + 4096) (by omega) (by omega)] at * | skip); omega)] | (refine congrArg Value.bool (decide_eq_true ?_).symm; (unfold viewP; simp at *; (first | rw [wrap_i64_of (n := a + 4096) (by omega) (by omega)] at * | skip); (first | rw [wrap_i64_of (n := b + 4096) (by omega) (by omega)] at * | skip); omega)) | (refine congrArg Value.bool (decide_eq_false ?_).symm; (unfold viewP; simp at *; (first | rw [wrap_i64_of (n := a + 4096) (by omega) (by omega)] at * | skip); (first | rw [wrap_i64_of (n := b + 4096) (by omega) (by omega)] at * | skip); omega)) | (congr 1; rw [cond_true, decide_eq_decide]; unfold viewP; simp at *; (first | rw [wrap_i64_of (n := a + 4096) (by omega) (by omega)] at * | skip); (first | rw [wrap_i64_of (n := b + 4096) (by omega) (by omega)] at * | skip); omega))
           )
           (fun h2 =>
             R.guard mixed 5 (bif false then true else decide (b > 4096)) (by kernel_rfl)
              (fun h3 =>
                R.finIs mixed Try.func112 (Value.int IntKind.i64 12) (by kernel_rfl) (by first | rw [if_pos (by unfold viewP; simp at *; (first | rw [wrap_i64_of (n := a + 4096) (by omega) (by omega)] at * | skip); (first | rw [wrap_i64_of (n := b + 4096) (by omega) (by omega)] at * | skip); omega)] | rw [if_neg (by unfold viewP; simp at *; (first | rw [wrap_i64_of (n := a + 4096) (by omega) (by omega)] at * | skip); (first | rw [wrap_i64_of (n := b + 4096) (by omega) (by omega)] at * | skip); omega)] | (refine congrArg Value.bool (decide_eq_true ?_).symm; (unfold viewP; simp at *; (first | rw [wrap_i64_of (n := a + 4096) (by omega) (by omega)] at * | skip); (first | rw [wrap_i64_of (n := b + 4096) (by omega) (by omega)] at * | skip); omega)) | (refine congrArg Value.bool (decide_eq_false ?_).symm; (unfold viewP; simp at *; (first | rw [wrap_i64_of (n := a + 4096) (by omega) (by omega)] at * | skip); (first | rw [wrap_i64_of (n := b + 4096) (by omega) (by omega)] at * | skip); omega)) | (congr 1; rw [cond_true, decide_eq_decide]; unfold viewP; simp at *; (first | rw [wrap_i64_of (n := a + 4096) (by omega) (by omega)] at * | skip); (first | rw [wrap_i64_of (n := b + 4096) (by omega) (by omega)] at * | skip); omega))
              )
              (fun h3 =>
                R.guard mixed 7 (bif false then true else decide (c < a)) (by kernel_rfl)
                 (fun h4 =>
                   R.finIs mixed Try.func112 (Value.int IntKind.i64 12) (by kernel_rfl) (by first | rw [if_pos (by unfold viewP; simp at *; (first | rw [wrap_i64_of (n := a + 4096) (by omega) (by omega)] at * | skip); (first | rw [wrap_i64_of (n := b + 4096) (by omega) (by omega)] at * | skip); omega)] | rw [if_neg (by unfold viewP; simp at *; (first | rw [wrap_i64_of (n := a + 4096) (by omega) (by omega)] at * | skip); (first | rw [wrap_i64_of (n := b + 4096) (by omega) (by omega)] at * | skip); omega)] | (refine congrArg Value.bool (decide_eq_true ?_).symm; (unfold viewP; simp at *; (first | rw [wrap_i64_of (n := a + 4096) (by omega) (by omega)] at * | skip); (first | rw [wrap_i64_of (n := b + 4096) (by omega) (by omega)] at * | skip); omega)) | (refine congrArg Value.bool (decide_eq_false ?_).symm; (unfold viewP; simp at *; (first | rw [wrap_i64_of (n := a + 4096) (by omega) (by omega)] at * | skip); (first | rw [wrap_i64_of (n := b + 4096) (by omega) (by omega)] at * | skip); omega)) | (congr 1; rw [cond_true, decide_eq_decide]; unfold viewP; simp at *; (first | rw [wrap_i64_of (n := a + 4096) (by omega) (by omega)] at * | skip); (first | rw [wrap_i64_of (n := b + 4096) (by omega) (by omega)] at * | skip); omega))
                 )
                 (fun h4 =>
                   R.guard mixed 7 (bif false then true else decide (d < b)) (by kernel_rfl)
                    (fun h5 =>
                      R.finIs mixed Try.func112 (Value.int IntKind.i64 12) (by kernel_rfl) (by first | rw [if_pos (by unfold viewP; simp at *; (first | rw [wrap_i64_of (n := a + 4096) (by omega) (by omega)] at * | skip); (first | rw [wrap_i64_of (n := b + 4096) (by omega) (by omega)] at * | skip); omega)] | rw [if_neg (by unfold viewP; simp at *; (first | rw [wrap_i64_of (n := a + 4096) (by omega) (by omega)] at * | skip); (first | rw [wrap_i64_of (n := b + 4096) (by omega) (by omega)] at * | skip); omega)] | (refine congrArg Value.bool (decide_eq_true ?_).symm; (unfold viewP; simp at *; (first | rw [wrap_i64_of (n := a + 4096) (by omega) (by omega)] at * | skip); (first | rw [wrap_i64_of (n := b + 4096) (by omega) (by omega)] at * | skip); omega)) | (refine congrArg Value.bool (decide_eq_false ?_).symm; (unfold viewP; simp at *; (first | rw [wrap_i64_of (n := a + 4096) (by omega) (by omega)] at * | skip); (first | rw [wrap_i64_of (n := b + 4096) (by omega) (by omega)] at * | skip); omega)) | (congr 1; rw [cond_true, decide_eq_decide]; unfold viewP; simp at *; (first | rw [wrap_i64_of (n := a + 4096) (by omega) (by omega)] at * | skip); (first | rw [wrap_i64_of (n := b + 4096) (by omega) (by omega)] at * | skip); omega))
                    )
                    (fun h5 =>
                      R.guard mixed 8 (bif false then true else decide (c > IntKind.i64.wrap (a + 4096))) (by kernel_rfl)
                       (fun h6 =>
                         R.finIs mixed Try.func112 (Value.int IntKind.i64 12) (by kernel_rfl) (by first | rw [if_pos (by unfold viewP; simp at *; (first | rw [wrap_i64_of (n := a + 4096) (by omega) (by omega)] at * | skip); (first | rw [wrap_i64_of (n := b + 4096) (by omega) (by omega)] at * | skip); omega)] | rw [if_neg (by unfold viewP; simp at *; (first | rw [wrap_i64_of (n := a + 4096) (by omega) (by omega)] at * | skip); (first | rw [wrap_i64_of (n := b + 4096) (by omega) (by omega)] at * | skip); omega)] | (refine congrArg Value.bool (decide_eq_true ?_).symm; (unfold viewP; simp at *; (first | rw [wrap_i64_of (n := a + 4096) (by omega) (by omega)] at * | skip); (first | rw [wrap_i64_of (n := b + 4096) (by omega) (by omega)] at * | skip); omega)) | (refine congrArg Value.bool (decide_eq_false ?_).symm; (unfold viewP; simp at *; (first | rw [wrap_i64_of (n := a + 4096) (by omega) (by omega)] at * | skip); (first | rw [wrap_i64_of (n := b + 4096) (by omega) (by omega)] at * | skip); omega)) | (congr 1; rw [cond_true, decide_eq_decide]; unfold viewP; simp at *; (first | rw [wrap_i64_of (n := a + 4096) (by omega) (by omega)] at * | skip); (first | rw [wrap_i64_of (n := b + 4096) (by omega) (by omega)] at * | skip); omega))
                       )
                       (fun h6 =>
                         R.branch mixed 8 (bif false then true else decide (d > IntKind.i64.wrap (b + 4096))) (by kernel_rfl)
                          (fun h7 =>
                            R.finIs mixed Try.func112 (Value.int IntKind.i64 12) (by kernel_rfl) (by first | rw [if_pos (by unfold viewP; simp at *; (first | rw [wrap_i64_of (n := a + 4096) (by omega) (by omega)] at * | skip); (first | rw [wrap_i64_of (n := b + 4096) (by omega) (by omega)] at * | skip); omega)] | rw [if_neg (by unfold viewP; simp at *; (first | rw [wrap_i64_of (n := a + 4096) (by omega) (by omega)] at * | skip); (first | rw [wrap_i64_of (n := b + 4096) (by omega) (by omega)] at * | skip); omega)] | (refine congrArg Value.bool (decide_eq_true ?_).symm; (unfold viewP; simp at *; (first | rw [wrap_i64_of (n := a + 4096) (by omega) (by omega)] at * | skip); (first | rw [wrap_i64_of (n := b + 4096) (by omega) (by omega)] at * | skip); omega)) | (refine congrArg Value.bool (decide_eq_false ?_).symm; (unfold viewP; simp at *; (first | rw [wrap_i64_of (n := a + 4096) (by omega) (by omega)] at * | skip); (first | rw [wrap_i64_of (n := b + 4096) (by omega) (by omega)] at * | skip); omega)) | (congr 1; rw [cond_true, decide_eq_decide]; unfold viewP; simp at *; (first | rw [wrap_i64_of (n := a + 4096) (by omega) (by omega)] at * | skip); (first | rw [wrap_i64_of (n := b + 4096) (by omega) (by omega)] at * | skip); omega))
                          )
                          (fun h7 =>
                            R.finIs mixed Try.func112 (Value.int IntKind.i64 0) (by kernel_rfl) (by first | rw [if_pos (by unfold viewP; simp at *; (first | rw [wrap_i64_of (n := a + 4096) (by omega) (by omega)] at * | skip); (first | rw [wrap_i64_of (n := b + 4096) (by omega) (by omega)] at * | skip); omega)] | rw [if_neg (by unfold viewP; simp at *; (first | rw [wrap_i64_of (n := a + 4096) (by omega) (by omega)] at * | skip); (first | rw [wrap_i64_of (n := b + 4096) (by omega) (by omega)] at * | skip); omega)] | (refine congrArg Value.bool (decide_eq_true ?_).symm; (unfold viewP; simp at *; (first | rw [wrap_i64_of (n := a + 4096) (by omega) (by omega)] at * | skip); (first | rw [wrap_i64_of (n := b + 4096) (by omega) (by omega)] at * | skip); omega)) | (refine congrArg Value.bool (decide_eq_false ?_).symm; (unfold viewP; simp at *; (first | rw [wrap_i64_of (n := a + 4096) (by omega) (by omega)] at * | skip); (first | rw [wrap_i64_of (n := b + 4096) (by omega) (by omega)] at * | skip); omega)) | (congr 1; rw [cond_true, decide_eq_decide]; unfold viewP; simp at *; (first | rw [wrap_i64_of (n := a + 4096) (by omega) (by omega)] at * | skip); (first | rw [wrap_i64_of (n := b + 4096) (by omega) (by omega)] at * | skip); omega))
                          )
                       )
                    )
                 )
              )
           )
        )
     )

theorem c_rview {a b c d : Int}  : Con Try.prog 82 [R4 a b c d] (.bool (decide (viewP a b c d))) := by
  exact Con.run Try.func82 (by kernel_rfl) rfl <|
    R.guard mixed 12 (decide (a < -4096)) (by kernel_rfl)
     (fun h0 =>
       R.finIs mixed Try.func82 (Value.bool false) (by kernel_rfl) (by first | rw [if_pos (by unfold viewP; simp at *; (first | rw [wrap_i64_of (n := a + 4096) (by omega) (by omega)] at * | skip); (first | rw [wrap_i64_of (n := b + 4096) (by omega) (by omega)] at * | skip); omega)] | rw [if_neg (by unfold viewP; simp at *; (first | rw [wrap_i64_of (n := a + 4096) (by omega) (by omega)] at * | skip); (first | rw [wrap_i64_of (n := b + 4096) (by omega) (by omega)] at * | skip); omega)] | (refine congrArg Value.bool (decide_eq_true ?_).symm; (unfold viewP; simp at *; (first | rw [wrap_i64_of (n := a + 4096) (by omega) (by omega)] at * | skip); (first | rw [wrap_i64_of (n := b + 4096) (by omega) (by omega)] at * | skip); omega)) | (refine congrArg Value.bool (decide_eq_false ?_).symm; (unfold viewP; simp at *; (first | rw [wrap_i64_of (n := a + 4096) (by omega) (by omega)] at * | skip); (first | rw [wrap_i64_of (n := b + 4096) (by omega) (by omega)] at * | skip); omega)) | (congr 1; rw [cond_true, decide_eq_decide]; unfold viewP; simp at *; (first | rw [wrap_i64_of (n := a + 4096) (by omega) (by omega)] at * | skip); (first | rw [wrap_i64_of (n := b + 4096) (by omega) (by omega)] at * | skip); omega))
     )
     (fun h0 =>
       R.guard mixed 5 (bif false then true else decide (a > 4096)) (by kernel_rfl)
        (fun h1 =>
          R.finIs mixed Try.func82 (Value.bool false) (by kernel_rfl) (by first | rw [if_pos (by unfold viewP; simp at *; (first | rw [wrap_i64_of (n := a + 4096) (by omega) (by omega)] at * | skip); (first | rw [wrap_i64_of (n := b + 4096) (by omega) (by omega)] at * | skip); omega)] | rw [if_neg (by unfold viewP; simp at *; (first | rw [wrap_i64_of (n := a + 4096) (by omega) (by omega)] at * | skip); (first | rw [wrap_i64_of (n := b + 4096) (by omega) (by omega)] at * | skip); omega)] | (refine congrArg Value.bool (decide_eq_true ?_).symm; (unfold viewP; simp at *; (first | rw [wrap_i64_of (n := a + 4096) (by omega) (by omega)] at * | skip); (first | rw [wrap_i64_of (n := b + 4096) (by omega) (by omega)] at * | skip); omega)) | (refine congrArg Value.bool (decide_eq_false ?_).symm; (unfold viewP; simp at *; (first | rw [wrap_i64_of (n := a + 4096) (by omega) (by omega)] at * | skip); (first | rw [wrap_i64_of (n := b + 4096) (by omega) (by omega)] at * | skip); omega)) | (congr 1; rw [cond_true, decide_eq_decide]; unfold viewP; simp at *; (first | rw [wrap_i64_of (n := a + 4096) (by omega) (by omega)] at * | skip); (first | rw [wrap_i64_of (n := b + 4096) (by omega) (by omega)] at * | skip); omega))
        )
        (fun h1 =>
          R.guard mixed 5 (bif false then true else decide (b < -4096)) (by kernel_rfl)
           (fun h2 =>
             R.finIs mixed Try.func82 (Value.bool false) (by kernel_rfl) (by first | rw [if_pos (by unfold viewP; simp at *; (first | rw [wrap_i64_of (n := a + 4096) (by omega) (by omega)] at * | skip); (first | rw [wrap_i64_of (n := b + 4096) (by omega) (by omega)] at * | skip); omega)] | rw [if_neg (by unfold viewP; simp at *; (first | rw [wrap_i64_of (n := a + 4096) (by omega) (by omega)] at * | skip); (first | rw [wrap_i64_of (n := b + 4096) (by omega) (by omega)] at * | skip); omega)] | (refine congrArg Value.bool (decide_eq_true ?_).symm; (unfold viewP; simp at *; (first | rw [wrap_i64_of (n := a + 4096) (by omega) (by omega)] at * | skip); (first | rw [wrap_i64_of (n := b + 4096) (by omega) (by omega)] at * | skip); omega)) | (refine congrArg Value.bool (decide_eq_false ?_).symm; (unfold viewP; simp at *; (first | rw [wrap_i64_of (n := a + 4096) (by omega) (by omega)] at * | skip); (first | rw [wrap_i64_of (n := b + 4096) (by omega) (by omega)] at * | skip); omega)) | (congr 1; rw [cond_true, decide_eq_decide]; unfold viewP; simp at *; (first | rw [wrap_i64_of (n := a + 4096) (by omega) (by omega)] at * | skip); (first | rw [wrap_i64_of (n := b + 4096) (by omega) (by omega)] at * | skip); omega))
           )
           (fun h2 =>
             R.branch mixed 5 (bif false then true else decide (b > 4096)) (by kernel_rfl)
              (fun h3 =>
                R.finIs mixed Try.func82 (Value.bool false) (by kernel_rfl) (by first | rw [if_pos (by unfold viewP; simp at *; (first | rw [wrap_i64_of (n := a + 4096) (by omega) (by omega)] at * | skip); (first | rw [wrap_i64_of (n := b + 4096) (by omega) (by omega)] at * | skip); omega)] | rw [if_neg (by unfold viewP; simp at *; (first | rw [wrap_i64_of (n := a + 4096) (by omega) (by omega)] at * | skip); (first | rw [wrap_i64_of (n := b + 4096) (by omega) (by omega)] at * | skip); omega)] | (refine congrArg Value.bool (decide_eq_true ?_).symm; (unfold viewP; simp at *; (first | rw [wrap_i64_of (n := a + 4096) (by omega) (by omega)] at * | skip); (first | rw [wrap_i64_of (n := b + 4096) (by omega) (by omega)] at * | skip); omega)) | (refine congrArg Value.bool (decide_eq_false ?_).symm; (unfold viewP; simp at *; (first | rw [wrap_i64_of (n := a + 4096) (by omega) (by omega)] at * | skip); (first | rw [wrap_i64_of (n := b + 4096) (by omega) (by omega)] at * | skip); omega)) | (congr 1; rw [cond_true, decide_eq_decide]; unfold viewP; simp at *; (first | rw [wrap_i64_of (n := a + 4096) (by omega) (by omega)] at * | skip); (first | rw [wrap_i64_of (n := b + 4096) (by omega) (by omega)] at * | skip); omega))
              )
              (fun h3 =>
                R.guard mixed 9 (decide (c ≥ a)) (by kernel_rfl)
                 (fun h4 =>
                   R.guard mixed 8 (bif true then decide (c ≤ IntKind.i64.wrap (a + 4096)) else false) (by kernel_rfl)
                    (fun h5 =>
                      R.guard mixed 7 (bif true then decide (d ≥ b) else false) (by kernel_rfl)
                       (fun h6 =>
                         R.finIs mixed Try.func82 (Value.bool (bif true then decide (d ≤ IntKind.i64.wrap (b + 4096)) else false)) (by kernel_rfl) (by first | rw [if_pos (by unfold viewP; simp at *; (first | rw [wrap_i64_of (n := a + 4096) (by omega) (by omega)] at * | skip); (first | rw [wrap_i64_of (n := b + 4096) (by omega) (by omega)] at * | skip); omega)] | rw [if_neg (by unfold viewP; simp at *; (first | rw [wrap_i64_of (n := a + 4096) (by omega) (by omega)] at * | skip); (first | rw [wrap_i64_of (n := b + 4096) (by omega) (by omega)] at * | skip); omega)] | (refine congrArg Value.bool (decide_eq_true ?_).symm; (unfold viewP; simp at *; (first | rw [wrap_i64_of (n := a + 4096) (by omega) (by omega)] at * | skip); (first | rw [wrap_i64_of (n := b + 4096) (by omega) (by omega)] at * | skip); omega)) | (refine congrArg Value.bool (decide_eq_false ?_).symm; (unfold viewP; simp at *; (first | rw [wrap_i64_of (n := a + 4096) (by omega) (by omega)] at * | skip); (first | rw [wrap_i64_of (n := b + 4096) (by omega) (by omega)] at * | skip); omega)) | (congr 1; rw [cond_true, decide_eq_decide]; unfold viewP; simp at *; (first | rw [wrap_i64_of (n := a + 4096) (by omega) (by omega)] at * | skip); (first | rw [wrap_i64_of (n := b + 4096) (by omega) (by omega)] at * | skip); omega))
                       )
                       (fun h6 =>
                         R.finIs mixed Try.func82 (Value.bool false) (by kernel_rfl) (by first | rw [if_pos (by unfold viewP; simp at *; (first | rw [wrap_i64_of (n := a + 4096) (by omega) (by omega)] at * | skip); (first | rw [wrap_i64_of (n := b + 4096) (by omega) (by omega)] at * | skip); omega)] | rw [if_neg (by unfold viewP; simp at *; (first | rw [wrap_i64_of (n := a + 4096) (by omega) (by omega)] at * | skip); (first | rw [wrap_i64_of (n := b + 4096) (by omega) (by omega)] at * | skip); omega)] | (refine congrArg Value.bool (decide_eq_true ?_).symm; (unfold viewP; simp at *; (first | rw [wrap_i64_of (n := a + 4096) (by omega) (by omega)] at * | skip); (first | rw [wrap_i64_of (n := b + 4096) (by omega) (by omega)] at * | skip); omega)) | (refine congrArg Value.bool (decide_eq_false ?_).symm; (unfold viewP; simp at *; (first | rw [wrap_i64_of (n := a + 4096) (by omega) (by omega)] at * | skip); (first | rw [wrap_i64_of (n := b + 4096) (by omega) (by omega)] at * | skip); omega)) | (congr 1; rw [cond_true, decide_eq_decide]; unfold viewP; simp at *; (first | rw [wrap_i64_of (n := a + 4096) (by omega) (by omega)] at * | skip); (first | rw [wrap_i64_of (n := b + 4096) (by omega) (by omega)] at * | skip); omega))
                       )
                    )
                    (fun h5 =>
                      R.finIs mixed Try.func82 (Value.bool false) (by kernel_rfl) (by first | rw [if_pos (by unfold viewP; simp at *; (first | rw [wrap_i64_of (n := a + 4096) (by omega) (by omega)] at * | skip); (first | rw [wrap_i64_of (n := b + 4096) (by omega) (by omega)] at * | skip); omega)] | rw [if_neg (by unfold viewP; simp at *; (first | rw [wrap_i64_of (n := a + 4096) (by omega) (by omega)] at * | skip); (first | rw [wrap_i64_of (n := b + 4096) (by omega) (by omega)] at * | skip); omega)] | (refine congrArg Value.bool (decide_eq_true ?_).symm; (unfold viewP; simp at *; (first | rw [wrap_i64_of (n := a + 4096) (by omega) (by omega)] at * | skip); (first | rw [wrap_i64_of (n := b + 4096) (by omega) (by omega)] at * | skip); omega)) | (refine congrArg Value.bool (decide_eq_false ?_).symm; (unfold viewP; simp at *; (first | rw [wrap_i64_of (n := a + 4096) (by omega) (by omega)] at * | skip); (first | rw [wrap_i64_of (n := b + 4096) (by omega) (by omega)] at * | skip); omega)) | (congr 1; rw [cond_true, decide_eq_decide]; unfold viewP; simp at *; (first | rw [wrap_i64_of (n := a + 4096) (by omega) (by omega)] at * | skip); (first | rw [wrap_i64_of (n := b + 4096) (by omega) (by omega)] at * | skip); omega))
                    )
                 )
                 (fun h4 =>
                   R.finIs mixed Try.func82 (Value.bool false) (by kernel_rfl) (by first | rw [if_pos (by unfold viewP; simp at *; (first | rw [wrap_i64_of (n := a + 4096) (by omega) (by omega)] at * | skip); (first | rw [wrap_i64_of (n := b + 4096) (by omega) (by omega)] at * | skip); omega)] | rw [if_neg (by unfold viewP; simp at *; (first | rw [wrap_i64_of (n := a + 4096) (by omega) (by omega)] at * | skip); (first | rw [wrap_i64_of (n := b + 4096) (by omega) (by omega)] at * | skip); omega)] | (refine congrArg Value.bool (decide_eq_true ?_).symm; (unfold viewP; simp at *; (first | rw [wrap_i64_of (n := a + 4096) (by omega) (by omega)] at * | skip); (first | rw [wrap_i64_of (n := b + 4096) (by omega) (by omega)] at * | skip); omega)) | (refine congrArg Value.bool (decide_eq_false ?_).symm; (unfold viewP; simp at *; (first | rw [wrap_i64_of (n := a + 4096) (by omega) (by omega)] at * | skip); (first | rw [wrap_i64_of (n := b + 4096) (by omega) (by omega)] at * | skip); omega)) | (congr 1; rw [cond_true, decide_eq_decide]; unfold viewP; simp at *; (first | rw [wrap_i64_of (n := a + 4096) (by omega) (by omega)] at * | skip); (first | rw [wrap_i64_of (n := b + 4096) (by omega) (by omega)] at * | skip); omega))
                 )
              )
           )
        )
     )

theorem c_dcheck {a : Int}  : Con Try.prog 145 [.int .i64 a] (.int .i64 (k7 a)) := by
  exact Con.run Try.func145 (by kernel_rfl) rfl <|
    R.guard mixed 10 (decide (a < 0)) (by kernel_rfl)
     (fun h0 =>
       R.finIs mixed Try.func145 (Value.int IntKind.i64 9) (by kernel_rfl) (by unfold k7; cases h7 : is7 a <;> simp [is7] at * <;> omega)
     )
     (fun h0 =>
       R.branch mixed 4 (bif false then true else decide (a > 7)) (by kernel_rfl)
        (fun h1 =>
          R.finIs mixed Try.func145 (Value.int IntKind.i64 9) (by kernel_rfl) (by unfold k7; cases h7 : is7 a <;> simp [is7] at * <;> omega)
        )
        (fun h1 =>
          R.finIs mixed Try.func145 (Value.int IntKind.i64 0) (by kernel_rfl) (by unfold k7; cases h7 : is7 a <;> simp [is7] at * <;> omega)
        )
     )

theorem c_rel {a b : Int}  : Con Try.prog 146 [.int .i64 a, .int .i64 b] (.int .i64 (rel a b)) := by
  exact Con.run Try.func146 (by kernel_rfl) rfl <|
    R.branch mixed 13 (decide (a < b)) (by kernel_rfl)
     (fun h0 =>
       R.finIs mixed Try.func146 (Value.int IntKind.i64 1) (by kernel_rfl) (by congr 1; simp [k7, is7, rel, kind2, hand, blendE] at *; first | omega | (split <;> omega) | (simp [*]; done) | (simp [*]; omega) | (rw [if_pos (by omega), if_pos (by omega)]) | (rw [if_pos (by omega), if_neg (by omega)]) | (rw [if_neg (by omega)]) | (repeat' split) <;> omega)
     )
     (fun h0 =>
       R.branch mixed 7 (decide (a > b)) (by kernel_rfl)
        (fun h1 =>
          R.finIs mixed Try.func146 (Value.int IntKind.i64 4) (by kernel_rfl) (by congr 1; simp [k7, is7, rel, kind2, hand, blendE] at *; first | omega | (split <;> omega) | (simp [*]; done) | (simp [*]; omega) | (rw [if_pos (by omega), if_pos (by omega)]) | (rw [if_pos (by omega), if_neg (by omega)]) | (rw [if_neg (by omega)]) | (repeat' split) <;> omega)
        )
        (fun h1 =>
          R.finIs mixed Try.func146 (Value.int IntKind.i64 2) (by kernel_rfl) (by congr 1; simp [k7, is7, rel, kind2, hand, blendE] at *; first | omega | (split <;> omega) | (simp [*]; done) | (simp [*]; omega) | (rw [if_pos (by omega), if_pos (by omega)]) | (rw [if_pos (by omega), if_neg (by omega)]) | (rw [if_neg (by omega)]) | (repeat' split) <;> omega)
        )
     )

theorem c_r7 {a : Int}  : Con Try.prog 83 [.int .i64 a] (.bool (is7 a)) := by
  exact Con.run Try.func83 (by kernel_rfl) rfl <|
    R.guard mixed 9 (decide (a ≥ 0)) (by kernel_rfl)
     (fun h0 =>
       R.finIs mixed Try.func83 (Value.bool (bif true then decide (a ≤ 7) else false)) (by kernel_rfl) (by congr 1; simp [is7] at *; try omega)
     )
     (fun h0 =>
       R.finIs mixed Try.func83 (Value.bool false) (by kernel_rfl) (by congr 1; simp [is7] at *; try omega)
     )

theorem c_deed7 {a : Int}  : Con Try.prog 144 [.int .i64 a] (.bool (is7 a)) := by
  exact Con.run Try.func144 (by kernel_rfl) rfl <|
    R.guard mixed 9 (decide (a ≥ 0)) (by kernel_rfl)
     (fun h0 =>
       R.finIs mixed Try.func144 (Value.bool (bif true then decide (a < 8) else false)) (by kernel_rfl) (by congr 1; simp [k7, is7, rel, kind2, hand, blendE] at *; first | omega | (split <;> omega) | (simp [*]; done) | (simp [*]; omega) | (rw [if_pos (by omega), if_pos (by omega)]) | (rw [if_pos (by omega), if_neg (by omega)]) | (rw [if_neg (by omega)]) | (repeat' split) <;> omega)
     )
     (fun h0 =>
       R.finIs mixed Try.func144 (Value.bool false) (by kernel_rfl) (by congr 1; simp [k7, is7, rel, kind2, hand, blendE] at *; first | omega | (split <;> omega) | (simp [*]; done) | (simp [*]; omega) | (rw [if_pos (by omega), if_pos (by omega)]) | (rw [if_pos (by omega), if_neg (by omega)]) | (rw [if_neg (by omega)]) | (repeat' split) <;> omega)
     )

theorem c_is8s {a : Int}  : Con Try.prog 121 [.int .i64 a] (.bool (is8 a)) := by
  exact Con.run Try.func121 (by kernel_rfl) rfl <|
    R.guard mixed 9 (decide (a ≥ 0)) (by kernel_rfl)
     (fun h0 =>
       R.finIs mixed Try.func121 (Value.bool (bif true then decide (a ≤ 255) else false)) (by kernel_rfl) (by congr 1; simp [is8] at *; try omega)
     )
     (fun h0 =>
       R.finIs mixed Try.func121 (Value.bool false) (by kernel_rfl) (by congr 1; simp [is8] at *; try omega)
     )

theorem c_kind2 {a : Int}  : Con Try.prog 116 [.int .i64 a] (.int .i64 (kind2 a)) := by
  exact Con.run Try.func116 (by kernel_rfl) rfl <|
    R.guard mixed 10 (decide (a < 0)) (by kernel_rfl)
     (fun h0 =>
       R.finIs mixed Try.func116 (Value.int IntKind.i64 9) (by kernel_rfl) (by congr 1; simp [k7, is7, rel, kind2, hand, blendE] at *; first | omega | (split <;> omega) | (simp [*]; done) | (simp [*]; omega) | (rw [if_pos (by omega), if_pos (by omega)]) | (rw [if_pos (by omega), if_neg (by omega)]) | (rw [if_neg (by omega)]) | (repeat' split) <;> omega)
     )
     (fun h0 =>
       R.branch mixed 4 (bif false then true else decide (a > 2)) (by kernel_rfl)
        (fun h1 =>
          R.finIs mixed Try.func116 (Value.int IntKind.i64 9) (by kernel_rfl) (by congr 1; simp [k7, is7, rel, kind2, hand, blendE] at *; first | omega | (split <;> omega) | (simp [*]; done) | (simp [*]; omega) | (rw [if_pos (by omega), if_pos (by omega)]) | (rw [if_pos (by omega), if_neg (by omega)]) | (rw [if_neg (by omega)]) | (repeat' split) <;> omega)
        )
        (fun h1 =>
          R.finIs mixed Try.func116 (Value.int IntKind.i64 0) (by kernel_rfl) (by congr 1; simp [k7, is7, rel, kind2, hand, blendE] at *; first | omega | (split <;> omega) | (simp [*]; done) | (simp [*]; omega) | (rw [if_pos (by omega), if_pos (by omega)]) | (rw [if_pos (by omega), if_neg (by omega)]) | (rw [if_neg (by omega)]) | (repeat' split) <;> omega)
        )
     )

theorem c_hand {a : Int}  : Con Try.prog 117 [.int .i64 a] (.int .i64 (hand a)) := by
  exact Con.run Try.func117 (by kernel_rfl) rfl <|
    R.guard mixed 10 (decide (a < 0)) (by kernel_rfl)
     (fun h0 =>
       R.finIs mixed Try.func117 (Value.int IntKind.i64 7) (by kernel_rfl) (by congr 1; simp [k7, is7, rel, kind2, hand, blendE] at *; first | omega | (split <;> omega) | (simp [*]; done) | (simp [*]; omega) | (rw [if_pos (by omega), if_pos (by omega)]) | (rw [if_pos (by omega), if_neg (by omega)]) | (rw [if_neg (by omega)]) | (repeat' split) <;> omega)
     )
     (fun h0 =>
       R.branch mixed 4 (bif false then true else decide (a > 64)) (by kernel_rfl)
        (fun h1 =>
          R.finIs mixed Try.func117 (Value.int IntKind.i64 7) (by kernel_rfl) (by congr 1; simp [k7, is7, rel, kind2, hand, blendE] at *; first | omega | (split <;> omega) | (simp [*]; done) | (simp [*]; omega) | (rw [if_pos (by omega), if_pos (by omega)]) | (rw [if_pos (by omega), if_neg (by omega)]) | (rw [if_neg (by omega)]) | (repeat' split) <;> omega)
        )
        (fun h1 =>
          R.finIs mixed Try.func117 (Value.int IntKind.i64 0) (by kernel_rfl) (by congr 1; simp [k7, is7, rel, kind2, hand, blendE] at *; first | omega | (split <;> omega) | (simp [*]; done) | (simp [*]; omega) | (rw [if_pos (by omega), if_pos (by omega)]) | (rw [if_pos (by omega), if_neg (by omega)]) | (rw [if_neg (by omega)]) | (repeat' split) <;> omega)
        )
     )

theorem c_blendE {a b c d : Int}  : Con Try.prog 115 [R4 a b c d] (.int .i64 (blendE a b c d)) := by
  exact Con.run Try.func115 (by kernel_rfl) rfl <|
    R.guard mixed 13 (decide (a < 0)) (by kernel_rfl)
     (fun h0 =>
       R.finIs mixed Try.func115 (Value.int IntKind.i64 9) (by kernel_rfl) (by congr 1; simp [k7, is7, rel, kind2, hand, blendE] at *; first | omega | (split <;> omega) | (simp [*]; done) | (simp [*]; omega) | (rw [if_pos (by omega), if_pos (by omega)]) | (rw [if_pos (by omega), if_neg (by omega)]) | (rw [if_neg (by omega)]) | (repeat' split) <;> omega)
     )
     (fun h0 =>
       R.guard mixed 5 (bif false then true else decide (a > 9)) (by kernel_rfl)
        (fun h1 =>
          R.finIs mixed Try.func115 (Value.int IntKind.i64 9) (by kernel_rfl) (by congr 1; simp [k7, is7, rel, kind2, hand, blendE] at *; first | omega | (split <;> omega) | (simp [*]; done) | (simp [*]; omega) | (rw [if_pos (by omega), if_pos (by omega)]) | (rw [if_pos (by omega), if_neg (by omega)]) | (rw [if_neg (by omega)]) | (repeat' split) <;> omega)
        )
        (fun h1 =>
          R.guard mixed 5 (bif false then true else decide (b < 0)) (by kernel_rfl)
           (fun h2 =>
             R.finIs mixed Try.func115 (Value.int IntKind.i64 9) (by kernel_rfl) (by congr 1; simp [k7, is7, rel, kind2, hand, blendE] at *; first | omega | (split <;> omega) | (simp [*]; done) | (simp [*]; omega) | (rw [if_pos (by omega), if_pos (by omega)]) | (rw [if_pos (by omega), if_neg (by omega)]) | (rw [if_neg (by omega)]) | (repeat' split) <;> omega)
           )
           (fun h2 =>
             R.guard mixed 5 (bif false then true else decide (b > 9)) (by kernel_rfl)
              (fun h3 =>
                R.finIs mixed Try.func115 (Value.int IntKind.i64 9) (by kernel_rfl) (by congr 1; simp [k7, is7, rel, kind2, hand, blendE] at *; first | omega | (split <;> omega) | (simp [*]; done) | (simp [*]; omega) | (rw [if_pos (by omega), if_pos (by omega)]) | (rw [if_pos (by omega), if_neg (by omega)]) | (rw [if_neg (by omega)]) | (repeat' split) <;> omega)
              )
              (fun h3 =>
                R.guard mixed 5 (bif false then true else decide (c < 0)) (by kernel_rfl)
                 (fun h4 =>
                   R.finIs mixed Try.func115 (Value.int IntKind.i64 9) (by kernel_rfl) (by congr 1; simp [k7, is7, rel, kind2, hand, blendE] at *; first | omega | (split <;> omega) | (simp [*]; done) | (simp [*]; omega) | (rw [if_pos (by omega), if_pos (by omega)]) | (rw [if_pos (by omega), if_neg (by omega)]) | (rw [if_neg (by omega)]) | (repeat' split) <;> omega)
                 )
                 (fun h4 =>
                   R.branch mixed 6 (bif false then true else decide (c > 4)) (by kernel_rfl)
                    (fun h5 =>
                      R.finIs mixed Try.func115 (Value.int IntKind.i64 9) (by kernel_rfl) (by congr 1; simp [k7, is7, rel, kind2, hand, blendE] at *; first | omega | (split <;> omega) | (simp [*]; done) | (simp [*]; omega) | (rw [if_pos (by omega), if_pos (by omega)]) | (rw [if_pos (by omega), if_neg (by omega)]) | (rw [if_neg (by omega)]) | (repeat' split) <;> omega)
                    )
                    (fun h5 =>
                      R.guard mixed 6 (decide (d < 0)) (by kernel_rfl)
                       (fun h6 =>
                         R.finIs mixed Try.func115 (Value.int IntKind.i64 3) (by kernel_rfl) (by congr 1; simp [k7, is7, rel, kind2, hand, blendE] at *; first | omega | (split <;> omega) | (simp [*]; done) | (simp [*]; omega) | (rw [if_pos (by omega), if_pos (by omega)]) | (rw [if_pos (by omega), if_neg (by omega)]) | (rw [if_neg (by omega)]) | (repeat' split) <;> omega)
                       )
                       (fun h6 =>
                         R.branch mixed 6 (bif false then true else decide (d > 15)) (by kernel_rfl)
                          (fun h7 =>
                            R.finIs mixed Try.func115 (Value.int IntKind.i64 3) (by kernel_rfl) (by congr 1; simp [k7, is7, rel, kind2, hand, blendE] at *; first | omega | (split <;> omega) | (simp [*]; done) | (simp [*]; omega) | (rw [if_pos (by omega), if_pos (by omega)]) | (rw [if_pos (by omega), if_neg (by omega)]) | (rw [if_neg (by omega)]) | (repeat' split) <;> omega)
                          )
                          (fun h7 =>
                            R.finIs mixed Try.func115 (Value.int IntKind.i64 0) (by kernel_rfl) (by congr 1; simp [k7, is7, rel, kind2, hand, blendE] at *; first | omega | (split <;> omega) | (simp [*]; done) | (simp [*]; omega) | (rw [if_pos (by omega), if_pos (by omega)]) | (rw [if_pos (by omega), if_neg (by omega)]) | (rw [if_neg (by omega)]) | (repeat' split) <;> omega)
                          )
                       )
                    )
                 )
              )
           )
        )
     )

theorem c_rblendE {a b c d : Int}  : Con Try.prog 85 [R4 a b c d] (.int .i64 (blendE a b c d)) := by
  exact Con.run Try.func85 (by kernel_rfl) rfl <|
    R.guard mixed 12 (decide (a < 0)) (by kernel_rfl)
     (fun h0 =>
       R.finIs mixed Try.func85 (Value.int IntKind.i64 9) (by kernel_rfl) (by congr 1; simp [k7, is7, rel, kind2, hand, blendE] at *; first | omega | (split <;> omega) | (simp [*]; done) | (simp [*]; omega) | (rw [if_pos (by omega), if_pos (by omega)]) | (rw [if_pos (by omega), if_neg (by omega)]) | (rw [if_neg (by omega)]) | (repeat' split) <;> omega)
     )
     (fun h0 =>
       R.guard mixed 5 (bif false then true else decide (a > 9)) (by kernel_rfl)
        (fun h1 =>
          R.finIs mixed Try.func85 (Value.int IntKind.i64 9) (by kernel_rfl) (by congr 1; simp [k7, is7, rel, kind2, hand, blendE] at *; first | omega | (split <;> omega) | (simp [*]; done) | (simp [*]; omega) | (rw [if_pos (by omega), if_pos (by omega)]) | (rw [if_pos (by omega), if_neg (by omega)]) | (rw [if_neg (by omega)]) | (repeat' split) <;> omega)
        )
        (fun h1 =>
          R.guard mixed 5 (bif false then true else decide (b < 0)) (by kernel_rfl)
           (fun h2 =>
             R.finIs mixed Try.func85 (Value.int IntKind.i64 9) (by kernel_rfl) (by congr 1; simp [k7, is7, rel, kind2, hand, blendE] at *; first | omega | (split <;> omega) | (simp [*]; done) | (simp [*]; omega) | (rw [if_pos (by omega), if_pos (by omega)]) | (rw [if_pos (by omega), if_neg (by omega)]) | (rw [if_neg (by omega)]) | (repeat' split) <;> omega)
           )
           (fun h2 =>
             R.guard mixed 5 (bif false then true else decide (b > 9)) (by kernel_rfl)
              (fun h3 =>
                R.finIs mixed Try.func85 (Value.int IntKind.i64 9) (by kernel_rfl) (by congr 1; simp [k7, is7, rel, kind2, hand, blendE] at *; first | omega | (split <;> omega) | (simp [*]; done) | (simp [*]; omega) | (rw [if_pos (by omega), if_pos (by omega)]) | (rw [if_pos (by omega), if_neg (by omega)]) | (rw [if_neg (by omega)]) | (repeat' split) <;> omega)
              )
              (fun h3 =>
                R.guard mixed 5 (bif false then true else decide (c < 0)) (by kernel_rfl)
                 (fun h4 =>
                   R.finIs mixed Try.func85 (Value.int IntKind.i64 9) (by kernel_rfl) (by congr 1; simp [k7, is7, rel, kind2, hand, blendE] at *; first | omega | (split <;> omega) | (simp [*]; done) | (simp [*]; omega) | (rw [if_pos (by omega), if_pos (by omega)]) | (rw [if_pos (by omega), if_neg (by omega)]) | (rw [if_neg (by omega)]) | (repeat' split) <;> omega)
                 )
                 (fun h4 =>
                   R.branch mixed 5 (bif false then true else decide (c > 4)) (by kernel_rfl)
                    (fun h5 =>
                      R.finIs mixed Try.func85 (Value.int IntKind.i64 9) (by kernel_rfl) (by congr 1; simp [k7, is7, rel, kind2, hand, blendE] at *; first | omega | (split <;> omega) | (simp [*]; done) | (simp [*]; omega) | (rw [if_pos (by omega), if_pos (by omega)]) | (rw [if_pos (by omega), if_neg (by omega)]) | (rw [if_neg (by omega)]) | (repeat' split) <;> omega)
                    )
                    (fun h5 =>
                      R.guard mixed 8 (decide (d < 0)) (by kernel_rfl)
                       (fun h6 =>
                         R.finIs mixed Try.func85 (Value.int IntKind.i64 3) (by kernel_rfl) (by congr 1; simp [k7, is7, rel, kind2, hand, blendE] at *; first | omega | (split <;> omega) | (simp [*]; done) | (simp [*]; omega) | (rw [if_pos (by omega), if_pos (by omega)]) | (rw [if_pos (by omega), if_neg (by omega)]) | (rw [if_neg (by omega)]) | (repeat' split) <;> omega)
                       )
                       (fun h6 =>
                         R.branch mixed 5 (bif false then true else decide (d > 15)) (by kernel_rfl)
                          (fun h7 =>
                            R.finIs mixed Try.func85 (Value.int IntKind.i64 3) (by kernel_rfl) (by congr 1; simp [k7, is7, rel, kind2, hand, blendE] at *; first | omega | (split <;> omega) | (simp [*]; done) | (simp [*]; omega) | (rw [if_pos (by omega), if_pos (by omega)]) | (rw [if_pos (by omega), if_neg (by omega)]) | (rw [if_neg (by omega)]) | (repeat' split) <;> omega)
                          )
                          (fun h7 =>
                            R.finIs mixed Try.func85 (Value.int IntKind.i64 0) (by kernel_rfl) (by congr 1; simp [k7, is7, rel, kind2, hand, blendE] at *; first | omega | (split <;> omega) | (simp [*]; done) | (simp [*]; omega) | (rw [if_pos (by omega), if_pos (by omega)]) | (rw [if_pos (by omega), if_neg (by omega)]) | (rw [if_neg (by omega)]) | (repeat' split) <;> omega)
                          )
                       )
                    )
                 )
              )
           )
        )
     )

theorem c_dnot {a : Int}  : Con Try.prog 143 [.int .i64 a] (.tuple ⟨[.int .i64 (not7 a), .int .i64 (k7 a)]⟩) := by
  exact Con.run Try.func143 (by kernel_rfl) rfl <|
    R.call mixed (show Con Try.prog 145 [Value.int IntKind.i64 a] (Value.int IntKind.i64 (k7 a)) from c_dcheck) (by kernel_rfl) <|
    R.branch mixed 7 (k7 a != 0) (by kernel_rfl)
     (fun h0 =>
       R.finIs mixed Try.func143 (Value.tuple ⟨[Value.int IntKind.i64 0, Value.int IntKind.i64 (k7 a)]⟩) (by kernel_rfl) (by cases h7 : is7 a <;> simp_all [k7, not7, passB])
     )
     (fun h0 =>
       R.finIs mixed Try.func143 (Value.tuple ⟨[Value.int IntKind.i64 (IntKind.i64.wrap ↑(BitVec.ofInt 64 7 &&& ~~~BitVec.ofInt 64 a).toNat), Value.int IntKind.i64 0]⟩) (by kernel_rfl) (by cases h7 : is7 a <;> simp_all [k7, not7, passB])
     )

theorem c_test7 {a : Int}  : Con Try.prog 113 [.int .i64 a] (.int .i64 (k7 a)) := by
  exact Con.run Try.func113 (by kernel_rfl) rfl <|
    R.call mixed (show Con Try.prog 143 [Value.int IntKind.i64 a] (Value.tuple ⟨[Value.int IntKind.i64 (not7 a), Value.int IntKind.i64 (k7 a)]⟩) from c_dnot) (by kernel_rfl) <|
    R.finIs mixed Try.func113 (Value.int IntKind.i64 (k7 a)) (by kernel_rfl) (by rfl)

theorem c_stenE {a b c d e f g : Int}  : Con Try.prog 114 [S7 a b c d e f g] (.int .i64 (stenE a b c d e f g)) := by
  exact Con.run Try.func114 (by kernel_rfl) rfl <|
    R.guard mixed 13 (decide (a < 0)) (by kernel_rfl)
     (fun h0 =>
       R.finIs mixed Try.func114 (Value.int IntKind.i64 9) (by kernel_rfl) (by first | (congr 1; simp_all [stenE]; done) | (congr 1; cases h7 : is7 a <;> simp_all [stenE] <;> simp [is7] at h7 <;> omega))
     )
     (fun h0 =>
       R.guard mixed 5 (bif false then true else decide (a > 7)) (by kernel_rfl)
        (fun h1 =>
          R.finIs mixed Try.func114 (Value.int IntKind.i64 9) (by kernel_rfl) (by first | (congr 1; simp_all [stenE]; done) | (congr 1; cases h7 : is7 a <;> simp_all [stenE] <;> simp [is7] at h7 <;> omega))
        )
        (fun h1 =>
          R.call mixed (show Con Try.prog 144 [Value.int IntKind.i64 e] (Value.bool (is7 e)) from c_deed7) (by kernel_rfl) <|
          R.guard mixed 3 (bif false then true else !is7 e) (by kernel_rfl)
           (fun h2 =>
             R.finIs mixed Try.func114 (Value.int IntKind.i64 9) (by kernel_rfl) (by first | (congr 1; simp_all [stenE]; done) | (congr 1; cases h7 : is7 a <;> simp_all [stenE] <;> simp [is7] at h7 <;> omega))
           )
           (fun h2 =>
             R.call mixed (show Con Try.prog 144 [Value.int IntKind.i64 f] (Value.bool (is7 f)) from c_deed7) (by kernel_rfl) <|
             R.guard mixed 3 (bif false then true else !is7 f) (by kernel_rfl)
              (fun h3 =>
                R.finIs mixed Try.func114 (Value.int IntKind.i64 9) (by kernel_rfl) (by first | (congr 1; simp_all [stenE]; done) | (congr 1; cases h7 : is7 a <;> simp_all [stenE] <;> simp [is7] at h7 <;> omega))
              )
              (fun h3 =>
                R.call mixed (show Con Try.prog 144 [Value.int IntKind.i64 g] (Value.bool (is7 g)) from c_deed7) (by kernel_rfl) <|
                R.branch mixed 4 (bif false then true else !is7 g) (by kernel_rfl)
                 (fun h4 =>
                   R.finIs mixed Try.func114 (Value.int IntKind.i64 9) (by kernel_rfl) (by first | (congr 1; simp_all [stenE]; done) | (congr 1; cases h7 : is7 a <;> simp_all [stenE] <;> simp [is7] at h7 <;> omega))
                 )
                 (fun h4 =>
                   R.call mixed (show Con Try.prog 121 [Value.int IntKind.i64 b] (Value.bool (is8 b)) from c_is8s) (by kernel_rfl) <|
                   R.guard mixed 2 (!is8 b) (by kernel_rfl)
                    (fun h5 =>
                      R.finIs mixed Try.func114 (Value.int IntKind.i64 3) (by kernel_rfl) (by first | (congr 1; simp_all [stenE]; done) | (congr 1; cases h7 : is7 a <;> simp_all [stenE] <;> simp [is7] at h7 <;> omega))
                    )
                    (fun h5 =>
                      R.call mixed (show Con Try.prog 121 [Value.int IntKind.i64 c] (Value.bool (is8 c)) from c_is8s) (by kernel_rfl) <|
                      R.guard mixed 3 (bif false then true else !is8 c) (by kernel_rfl)
                       (fun h6 =>
                         R.finIs mixed Try.func114 (Value.int IntKind.i64 3) (by kernel_rfl) (by first | (congr 1; simp_all [stenE]; done) | (congr 1; cases h7 : is7 a <;> simp_all [stenE] <;> simp [is7] at h7 <;> omega))
                       )
                       (fun h6 =>
                         R.call mixed (show Con Try.prog 121 [Value.int IntKind.i64 d] (Value.bool (is8 d)) from c_is8s) (by kernel_rfl) <|
                         R.branch mixed 4 (bif false then true else !is8 d) (by kernel_rfl)
                          (fun h7 =>
                            R.finIs mixed Try.func114 (Value.int IntKind.i64 3) (by kernel_rfl) (by first | (congr 1; simp_all [stenE]; done) | (congr 1; cases h7 : is7 a <;> simp_all [stenE] <;> simp [is7] at h7 <;> omega))
                          )
                          (fun h7 =>
                            R.finIs mixed Try.func114 (Value.int IntKind.i64 0) (by kernel_rfl) (by first | (congr 1; simp_all [stenE]; done) | (congr 1; cases h7 : is7 a <;> simp_all [stenE] <;> simp [is7] at h7 <;> omega))
                          )
                       )
                    )
                 )
              )
           )
        )
     )

theorem c_rstenE {a b c d e f g : Int}  : Con Try.prog 84 [S7 a b c d e f g] (.int .i64 (stenE a b c d e f g)) := by
  exact Con.run Try.func84 (by kernel_rfl) rfl <|
    R.call mixed (show Con Try.prog 83 [Value.int IntKind.i64 a] (Value.bool (is7 a)) from c_r7) (by kernel_rfl) <|
    R.guard mixed 2 (!is7 a) (by kernel_rfl)
     (fun h0 =>
       R.finIs mixed Try.func84 (Value.int IntKind.i64 9) (by kernel_rfl) (by first | (congr 1; simp_all [stenE]; done) | (congr 1; cases h7 : is7 a <;> simp_all [stenE] <;> simp [is7] at h7 <;> omega))
     )
     (fun h0 =>
       R.call mixed (show Con Try.prog 83 [Value.int IntKind.i64 e] (Value.bool (is7 e)) from c_r7) (by kernel_rfl) <|
       R.guard mixed 3 (bif false then true else !is7 e) (by kernel_rfl)
        (fun h1 =>
          R.finIs mixed Try.func84 (Value.int IntKind.i64 9) (by kernel_rfl) (by first | (congr 1; simp_all [stenE]; done) | (congr 1; cases h7 : is7 a <;> simp_all [stenE] <;> simp [is7] at h7 <;> omega))
        )
        (fun h1 =>
          R.call mixed (show Con Try.prog 83 [Value.int IntKind.i64 f] (Value.bool (is7 f)) from c_r7) (by kernel_rfl) <|
          R.guard mixed 3 (bif false then true else !is7 f) (by kernel_rfl)
           (fun h2 =>
             R.finIs mixed Try.func84 (Value.int IntKind.i64 9) (by kernel_rfl) (by first | (congr 1; simp_all [stenE]; done) | (congr 1; cases h7 : is7 a <;> simp_all [stenE] <;> simp [is7] at h7 <;> omega))
           )
           (fun h2 =>
             R.call mixed (show Con Try.prog 83 [Value.int IntKind.i64 g] (Value.bool (is7 g)) from c_r7) (by kernel_rfl) <|
             R.branch mixed 3 (bif false then true else !is7 g) (by kernel_rfl)
              (fun h3 =>
                R.finIs mixed Try.func84 (Value.int IntKind.i64 9) (by kernel_rfl) (by first | (congr 1; simp_all [stenE]; done) | (congr 1; cases h7 : is7 a <;> simp_all [stenE] <;> simp [is7] at h7 <;> omega))
              )
              (fun h3 =>
                R.call mixed (show Con Try.prog 89 [Value.int IntKind.i64 b] (Value.bool (is8 b)) from c_is8b _) (by kernel_rfl) <|
                R.guard mixed 2 (!is8 b) (by kernel_rfl)
                 (fun h4 =>
                   R.finIs mixed Try.func84 (Value.int IntKind.i64 3) (by kernel_rfl) (by first | (congr 1; simp_all [stenE]; done) | (congr 1; cases h7 : is7 a <;> simp_all [stenE] <;> simp [is7] at h7 <;> omega))
                 )
                 (fun h4 =>
                   R.call mixed (show Con Try.prog 89 [Value.int IntKind.i64 c] (Value.bool (is8 c)) from c_is8b _) (by kernel_rfl) <|
                   R.guard mixed 3 (bif false then true else !is8 c) (by kernel_rfl)
                    (fun h5 =>
                      R.finIs mixed Try.func84 (Value.int IntKind.i64 3) (by kernel_rfl) (by first | (congr 1; simp_all [stenE]; done) | (congr 1; cases h7 : is7 a <;> simp_all [stenE] <;> simp [is7] at h7 <;> omega))
                    )
                    (fun h5 =>
                      R.call mixed (show Con Try.prog 89 [Value.int IntKind.i64 d] (Value.bool (is8 d)) from c_is8b _) (by kernel_rfl) <|
                      R.branch mixed 3 (bif false then true else !is8 d) (by kernel_rfl)
                       (fun h6 =>
                         R.finIs mixed Try.func84 (Value.int IntKind.i64 3) (by kernel_rfl) (by first | (congr 1; simp_all [stenE]; done) | (congr 1; cases h7 : is7 a <;> simp_all [stenE] <;> simp [is7] at h7 <;> omega))
                       )
                       (fun h6 =>
                         R.finIs mixed Try.func84 (Value.int IntKind.i64 0) (by kernel_rfl) (by first | (congr 1; simp_all [stenE]; done) | (congr 1; cases h7 : is7 a <;> simp_all [stenE] <;> simp [is7] at h7 <;> omega))
                       )
                    )
                 )
              )
           )
        )
     )

theorem c_has {a b c d e f : Int}  : Con Try.prog 76 [R4 a b c d, .int .i64 e, .int .i64 f] (.bool (inR a b c d e f)) := by
  exact Con.run Try.func76 (by kernel_rfl) rfl <|
    R.guard mixed 12 (decide (e ≥ a)) (by kernel_rfl)
     (fun h0 =>
       R.guard mixed 6 (bif true then decide (e < c) else false) (by kernel_rfl)
        (fun h1 =>
          R.guard mixed 6 (bif true then decide (f ≥ b) else false) (by kernel_rfl)
           (fun h2 =>
             R.finIs mixed Try.func76 (Value.bool (bif true then decide (f < d) else false)) (by kernel_rfl) (by congr 1; first | (simp [inR] at *; simp [*]; done) | (simp [inR] at *; simp [*]; omega) | (simp [inR] at *; omega))
           )
           (fun h2 =>
             R.finIs mixed Try.func76 (Value.bool false) (by kernel_rfl) (by congr 1; first | (simp [inR] at *; simp [*]; done) | (simp [inR] at *; simp [*]; omega) | (simp [inR] at *; omega))
           )
        )
        (fun h1 =>
          R.finIs mixed Try.func76 (Value.bool false) (by kernel_rfl) (by congr 1; first | (simp [inR] at *; simp [*]; done) | (simp [inR] at *; simp [*]; omega) | (simp [inR] at *; omega))
        )
     )
     (fun h0 =>
       R.finIs mixed Try.func76 (Value.bool false) (by kernel_rfl) (by congr 1; first | (simp [inR] at *; simp [*]; done) | (simp [inR] at *; simp [*]; omega) | (simp [inR] at *; omega))
     )

theorem c_rhas4 {a b c d e f : Int}  : Con Try.prog 35 [R4 a b c d, .int .i64 e, .int .i64 f] (.bool (inR a b c d e f)) := by
  exact Con.run Try.func35 (by kernel_rfl) rfl <|
    R.guard mixed 12 (decide (a ≤ e)) (by kernel_rfl)
     (fun h0 =>
       R.guard mixed 6 (bif true then decide (e < c) else false) (by kernel_rfl)
        (fun h1 =>
          R.guard mixed 6 (bif true then decide (b ≤ f) else false) (by kernel_rfl)
           (fun h2 =>
             R.finIs mixed Try.func35 (Value.bool (bif true then decide (f < d) else false)) (by kernel_rfl) (by congr 1; first | (simp [inR] at *; simp [*]; done) | (simp [inR] at *; simp [*]; omega) | (simp [inR] at *; omega))
           )
           (fun h2 =>
             R.finIs mixed Try.func35 (Value.bool false) (by kernel_rfl) (by congr 1; first | (simp [inR] at *; simp [*]; done) | (simp [inR] at *; simp [*]; omega) | (simp [inR] at *; omega))
           )
        )
        (fun h1 =>
          R.finIs mixed Try.func35 (Value.bool false) (by kernel_rfl) (by congr 1; first | (simp [inR] at *; simp [*]; done) | (simp [inR] at *; simp [*]; omega) | (simp [inR] at *; omega))
        )
     )
     (fun h0 =>
       R.finIs mixed Try.func35 (Value.bool false) (by kernel_rfl) (by congr 1; first | (simp [inR] at *; simp [*]; done) | (simp [inR] at *; simp [*]; omega) | (simp [inR] at *; omega))
     )

theorem c_passes {a b c : Int}  : Con Try.prog 122 [.int .i64 a, .int .i64 b, .int .i64 c] (.tuple ⟨[.bool (passB a b c), .int .i64 (k7 a)]⟩) := by
  exact Con.run Try.func122 (by kernel_rfl) rfl <|
    R.call mixed (show Con Try.prog 145 [Value.int IntKind.i64 a] (Value.int IntKind.i64 (k7 a)) from c_dcheck) (by kernel_rfl) <|
    R.branch mixed 7 (k7 a != 0) (by kernel_rfl)
     (fun h0 =>
       R.finIs mixed Try.func122 (Value.tuple ⟨[Value.bool false, Value.int IntKind.i64 (k7 a)]⟩) (by kernel_rfl) (by cases h7 : is7 a <;> simp_all [k7, not7, passB])
     )
     (fun h0 =>
       R.call mixed (show Con Try.prog 146 [Value.int IntKind.i64 b, Value.int IntKind.i64 c] (Value.int IntKind.i64 (rel b c)) from c_rel) (by kernel_rfl) <|
       R.finIs mixed Try.func122 (Value.tuple ⟨[Value.bool (IntKind.i64.wrap ↑(BitVec.ofInt 64 a &&& BitVec.ofInt 64 (rel b c)).toNat != 0), Value.int IntKind.i64 0]⟩) (by kernel_rfl) (by cases h7 : is7 a <;> simp_all [k7, not7, passB])
     )

theorem c_rsat3 {a b c : Int}  : Con Try.prog 154 [.int .i64 a, .int .i64 b, .int .i64 c] (.int .i64 (sat a b c)) := by
  exact Con.run Try.func154 (by kernel_rfl) rfl <|
    R.branch mixed 11 (decide (a < b)) (by kernel_rfl)
     (fun h0 =>
       R.finIs mixed Try.func154 (Value.int IntKind.i64 b) (by kernel_rfl) (by congr 1; simp [sat] at *; first | (simp [*]; done) | (split <;> first | omega | (split <;> omega)) | omega)
     )
     (fun h0 =>
       R.branch mixed 8 (decide (a > c)) (by kernel_rfl)
        (fun h1 =>
          R.finIs mixed Try.func154 (Value.int IntKind.i64 c) (by kernel_rfl) (by congr 1; simp [sat] at *; first | (simp [*]; done) | (split <;> first | omega | (split <;> omega)) | omega)
        )
        (fun h1 =>
          R.finIs mixed Try.func154 (Value.int IntKind.i64 a) (by kernel_rfl) (by congr 1; simp [sat] at *; first | (simp [*]; done) | (split <;> first | omega | (split <;> omega)) | omega)
        )
     )

theorem c_apply0 {m0 m1 m2 m3 m4 m5 m6 m7 m8 m9 m10 m11 m12 m13 m14 m15 : Int}  : Con Try.prog 142 [M16 m0 m1 m2 m3 m4 m5 m6 m7 m8 m9 m10 m11 m12 m13 m14 m15, R4 0 0 0 0] (.tuple ⟨[R4 0 0 0 0, .int .i64 (bif mayM m0 m1 m2 m3 m4 m5 m6 m7 m8 m9 m10 m11 m12 m13 m14 m15 then 0 else 3)]⟩) := by
  exact Con.run Try.func142 (by kernel_rfl) rfl <|
    R.call mixed (show Con Try.prog 163 [Value.agg ⟨[Value.int IntKind.i64 0, Value.int IntKind.i64 0, Value.int IntKind.i64 0, Value.int IntKind.i64 0]⟩] (Value.agg ⟨[Value.int IntKind.i64 0, Value.int IntKind.i64 0, Value.int IntKind.i64 0, Value.int IntKind.i64 0]⟩) from c_list0) (by kernel_rfl) <|
    R.call mixed (show Con Try.prog 164 [Value.agg ⟨[Value.int IntKind.i64 m0, Value.int IntKind.i64 m1, Value.int IntKind.i64 m2, Value.int IntKind.i64 m3, Value.int IntKind.i64 m4, Value.int IntKind.i64 m5, Value.int IntKind.i64 m6, Value.int IntKind.i64 m7, Value.int IntKind.i64 m8, Value.int IntKind.i64 m9, Value.int IntKind.i64 m10, Value.int IntKind.i64 m11, Value.int IntKind.i64 m12, Value.int IntKind.i64 m13, Value.int IntKind.i64 m14, Value.int IntKind.i64 m15]⟩] (Value.bool (mayM m0 m1 m2 m3 m4 m5 m6 m7 m8 m9 m10 m11 m12 m13 m14 m15)) from c_mayM) (by kernel_rfl) <|
    R.guard mixed 2 (!mayM m0 m1 m2 m3 m4 m5 m6 m7 m8 m9 m10 m11 m12 m13 m14 m15) (by kernel_rfl)
     (fun h0 =>
       R.finIs mixed Try.func142 (Value.tuple ⟨[Value.agg (List.take 4 (List.drop 0 [Value.int IntKind.i64 0, Value.int IntKind.i64 0, Value.int IntKind.i64 0, Value.int IntKind.i64 0])).toArray, Value.int IntKind.i64 3]⟩) (by kernel_rfl) (by simp_all [wr0])
     )
     (fun h0 =>
       R.call mixed (show Con Try.prog 165 [Value.int IntKind.i64 0, Value.int IntKind.i64 1073741824] (Value.bool true) from c_w30z) (by kernel_rfl) <|
       R.call mixed (show Con Try.prog 165 [Value.int IntKind.i64 0, Value.int IntKind.i64 1073741824] (Value.bool true) from c_w30z) (by kernel_rfl) <|
       R.call mixed (show Con Try.prog 165 [Value.int IntKind.i64 0, Value.int IntKind.i64 1073741824] (Value.bool true) from c_w30z) (by kernel_rfl) <|
       R.call mixed (show Con Try.prog 165 [Value.int IntKind.i64 0, Value.int IntKind.i64 1073741824] (Value.bool true) from c_w30z) (by kernel_rfl) <|
       R.finIs mixed Try.func142 (Value.tuple ⟨[Value.agg (List.take 4 (List.drop 0 [Value.int IntKind.i64 ((IntKind.i64.wrap (IntKind.i64.wrap (IntKind.i64.wrap (IntKind.i64.wrap (0 + IntKind.i64.wrap (m0 * 0)) + IntKind.i64.wrap (m1 * 0)) + IntKind.i64.wrap (m2 * 0)) + IntKind.i64.wrap (m3 * 0))).fdiv 65536), Value.int IntKind.i64 ((IntKind.i64.wrap (IntKind.i64.wrap (IntKind.i64.wrap (IntKind.i64.wrap (0 + IntKind.i64.wrap (m4 * 0)) + IntKind.i64.wrap (m5 * 0)) + IntKind.i64.wrap (m6 * 0)) + IntKind.i64.wrap (m7 * 0))).fdiv 65536), Value.int IntKind.i64 ((IntKind.i64.wrap (IntKind.i64.wrap (IntKind.i64.wrap (IntKind.i64.wrap (0 + IntKind.i64.wrap (m8 * 0)) + IntKind.i64.wrap (m9 * 0)) + IntKind.i64.wrap (m10 * 0)) + IntKind.i64.wrap (m11 * 0))).fdiv 65536), Value.int IntKind.i64 ((IntKind.i64.wrap (IntKind.i64.wrap (IntKind.i64.wrap (IntKind.i64.wrap (0 + IntKind.i64.wrap (m12 * 0)) + IntKind.i64.wrap (m13 * 0)) + IntKind.i64.wrap (m14 * 0)) + IntKind.i64.wrap (m15 * 0))).fdiv 65536)])).toArray, Value.int IntKind.i64 0]⟩) (by kernel_rfl) (by simp_all [wr0])
     )

end Go.Proofs.Ytfkmhhbpomkakaa.Frag
