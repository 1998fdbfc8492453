/- Several texts in one: FAz1, FBz1, FCz1. -/
import Derived.Test.YtegmkkpdckolkaaQC11
import Derived.Test.YtegmkkpdckolkaaQC10
namespace Go.Proofs.Ytegmkkpdckolkaa.Frag

section
open Go Go.Dt Go.Proofs
set_option linter.unusedVariables false
set_option linter.unusedSimpArgs false

theorem mixed : Try.prog.follows .mixedOrders = true := by kernel_rfl
abbrev C4 (r g b a : Int) : Value := .agg ⟨[.int .i64 r, .int .i64 g, .int .i64 b, .int .i64 a]⟩
def is8 (n : Int) : Bool := decide (0 ≤ n) && decide (n ≤ 255)
def rightC (r g b a : Int) : Bool := is8 r && (is8 g && (is8 b && is8 a))
def sat (n lo hi : Int) : Int := if n < lo then lo else if n > hi then hi else n

theorem c_sat (n lo hi : Int) : Con Try.prog 63 [.int .i64 n, .int .i64 lo, .int .i64 hi] (.int .i64 (sat n lo hi)) := by
  refine Con.run Try.func63 rfl rfl (R.branch mixed 13 (decide (n < lo)) (by kernel_rfl) (fun h => ?_) (fun h => R.branch mixed 7 (decide (n > hi)) (by kernel_rfl) (fun h2 => ?_) (fun h2 => ?_)))
  · rw [sat, if_pos (by simpa using h)]; exact R.fin mixed Try.func63 (by kernel_rfl)
  · rw [sat, if_neg (by simpa using h), if_pos (by simpa using h2)]; exact R.fin mixed Try.func63 (by kernel_rfl)
  · rw [sat, if_neg (by simpa using h), if_neg (by simpa using h2)]; exact R.fin mixed Try.func63 (by kernel_rfl)
theorem c_sat255 (n m : Int) : Con Try.prog 62 [.int .i64 n, .int .i64 m] (.int .i64 (sat n 0 255)) := Con.run Try.func62 rfl rfl <| R.call mixed (c_sat n 0 255) (by kernel_rfl) <| R.fin mixed Try.func62 (by kernel_rfl)
theorem c_each (r g b a : Int) : ConM Try.prog 61 [C4 r g b a, C4 r g b a, .func (.func 62) ⟨[]⟩ ⟨[]⟩] [] (C4 (sat r 0 255) (sat g 0 255) (sat b 0 255) (sat a 0 255)) (List.replicate 0 .gone) :=
  ConM.reads Try.func61 rfl rfl <| R.call mixed (c_sat255 r r) (by kernel_rfl) <| R.call mixed (c_sat255 g g) (by kernel_rfl) <| R.call mixed (c_sat255 b b) (by kernel_rfl) <| R.call mixed (c_sat255 a a) (by kernel_rfl) <| R.fin mixed Try.func61 (by kernel_rfl)
theorem sat_is8 (n : Int) : (n == sat n 0 255) = is8 n := by
  unfold sat is8
  split
  · rw [beq_eq_false_iff_ne.2 (by omega), decide_eq_false (by omega)]; rfl
  · split
    · rw [beq_eq_false_iff_ne.2 (by omega), decide_eq_false (p := n ≤ 255) (by omega)]; simp
    · simp; omega
theorem c_tint (r g b a : Int) : Con Try.prog 46 [C4 r g b a] (.bool (rightC r g b a)) :=
  (Con.run (v := .bool (eqs [r, g, b, a] [sat r 0 255, sat g 0 255, sat b 0 255, sat a 0 255])) Try.func46 rfl rfl <| R.callM mixed [] (c_each r g b a) (by kernel_rfl) (by kernel_rfl) rfl <| R.fin mixed Try.func46 (by kernel_rfl)).val rfl (by
    simp only [eqs, sat_is8, rightC, Bool.and_true])

theorem c_is8 (n : Int) : Con Try.prog 33 [.int .i64 n] (.bool (is8 n)) := by
  refine Con.run Try.func33 rfl rfl (R.guard mixed 9 (decide (n ≥ 0)) (by kernel_rfl) (fun h => ?_) (fun h => ?_))
  · exact R.finIs mixed Try.func33 (.bool (bif true then decide (n ≤ 255) else false)) (by kernel_rfl) (by simp at h; simp [is8, h])
  · exact R.finIs mixed Try.func33 (.bool false) (by kernel_rfl) (by simp at h; simp [is8]; omega)

theorem c_is8b (n : Int) : Con Try.prog 32 [.int .i64 n] (.bool (is8 n)) := by
  refine Con.run Try.func32 rfl rfl (R.guard mixed 9 (decide (n ≥ 0)) (by kernel_rfl) (fun h => ?_) (fun h => ?_))
  · exact R.finIs mixed Try.func32 (.bool (bif true then decide (n ≤ 255) else false)) (by kernel_rfl) (by simp at h; simp [is8, h])
  · exact R.finIs mixed Try.func32 (.bool false) (by kernel_rfl) (by simp at h; simp [is8]; omega)

theorem c_rightC (r g b a : Int) : Con Try.prog 20 [C4 r g b a] (.bool (rightC r g b a)) := by
  have k1 := c_is8 r
  have k2 := c_is8 g
  have k3 := c_is8 b
  have k4 := c_is8 a
  unfold rightC
  cases h1 : is8 r with
  | false => rw [h1] at k1; exact Con.run Try.func20 rfl rfl <| R.call mixed k1 (by kernel_rfl) <| R.fin mixed Try.func20 (by kernel_rfl)
  | true =>
    cases h2 : is8 g with
    | false => rw [h1] at k1; rw [h2] at k2; exact Con.run Try.func20 rfl rfl <| R.call mixed k1 (by kernel_rfl) <| R.call mixed k2 (by kernel_rfl) <| R.fin mixed Try.func20 (by kernel_rfl)
    | true =>
      cases h3 : is8 b with
      | false => rw [h1] at k1; rw [h2] at k2; rw [h3] at k3; exact Con.run Try.func20 rfl rfl <| R.call mixed k1 (by kernel_rfl) <| R.call mixed k2 (by kernel_rfl) <| R.call mixed k3 (by kernel_rfl) <| R.fin mixed Try.func20 (by kernel_rfl)
      | true => rw [h1] at k1; rw [h2] at k2; rw [h3] at k3; exact Con.run Try.func20 rfl rfl <| R.call mixed k1 (by kernel_rfl) <| R.call mixed k2 (by kernel_rfl) <| R.call mixed k3 (by kernel_rfl) <| R.call mixed k4 (by kernel_rfl) <| R.fin mixed Try.func20 (by kernel_rfl)

/-! ### What is cleared -/
end

section
open Go Go.Dt Go.Proofs
set_option linter.unusedVariables false
set_option linter.unusedSimpArgs false

abbrev M16 (m0 m1 m2 m3 m4 m5 m6 m7 m8 m9 m10 m11 m12 m13 m14 m15 : Int) : Value := .agg ⟨[.int .i64 m0, .int .i64 m1, .int .i64 m2, .int .i64 m3, .int .i64 m4, .int .i64 m5, .int .i64 m6, .int .i64 m7, .int .i64 m8, .int .i64 m9, .int .i64 m10, .int .i64 m11, .int .i64 m12, .int .i64 m13, .int .i64 m14, .int .i64 m15]⟩
abbrev R4 (a b c d : Int) : Value := .agg ⟨[.int .i64 a, .int .i64 b, .int .i64 c, .int .i64 d]⟩
abbrev S7 (a b c d e f g : Int) : Value := .agg ⟨[.int .i64 a, .int .i64 b, .int .i64 c, .int .i64 d, .int .i64 e, .int .i64 f, .int .i64 g]⟩
def w24 (n : Int) : Bool := decide (-16777216 ≤ n) && decide (n ≤ 16777216)
def mayM (m0 m1 m2 m3 m4 m5 m6 m7 m8 m9 m10 m11 m12 m13 m14 m15 : Int) : Bool := w24 m0 && (w24 m1 && (w24 m2 && (w24 m3 && (w24 m4 && (w24 m5 && (w24 m6 && (w24 m7 && (w24 m8 && (w24 m9 && (w24 m10 && (w24 m11 && (w24 m12 && (w24 m13 && (w24 m14 && (w24 m15)))))))))))))))
def viewP (a b c d : Int) : Prop := (-4096 ≤ a ∧ a ≤ 4096 ∧ -4096 ≤ b ∧ b ≤ 4096) ∧ (a ≤ c ∧ c ≤ a + 4096) ∧ (b ≤ d ∧ d ≤ b + 4096)
instance (a b c d : Int) : Decidable (viewP a b c d) := by unfold viewP; infer_instance
def is7 (n : Int) : Bool := decide (0 ≤ n) && decide (n ≤ 7)
def k7 (a : Int) : Int := bif is7 a then 0 else 9
def not7 (a : Int) : Int := bif is7 a then IntKind.i64.wrap ↑(BitVec.ofInt 64 7 &&& ~~~BitVec.ofInt 64 a).toNat else 0
def rel (a b : Int) : Int := if a < b then 1 else if a > b then 4 else 2
def passB (a b c : Int) : Bool := bif is7 a then IntKind.i64.wrap ↑(BitVec.ofInt 64 a &&& BitVec.ofInt 64 (rel b c)).toNat != 0 else false
def kind2 (n : Int) : Int := if n < 0 then 9 else if n > 2 then 9 else 0
def hand (n : Int) : Int := if n < 0 then 7 else if n > 64 then 7 else 0
def blendE (a b c d : Int) : Int := if (0 ≤ a ∧ a ≤ 9) ∧ (0 ≤ b ∧ b ≤ 9) ∧ (0 ≤ c ∧ c ≤ 4) then (if 0 ≤ d ∧ d ≤ 15 then 0 else 3) else 9
def stenE (a b c d e f g : Int) : Int := bif is7 a && is7 e && is7 f && is7 g then (bif is8 b && is8 c && is8 d then 0 else 3) else 9
def inR (a b c d e f : Int) : Bool := decide (a ≤ e) && (decide (e < c) && (decide (b ≤ f) && decide (f < d)))
theorem wr0 : IntKind.i64.wrap 0 = 0 := rfl

theorem c_w24 {n : Int}  : Con Try.prog 74 [.int .i64 n, .int .i64 16777216] (.bool (w24 n)) := by
  exact Con.run Try.func74 (by kernel_rfl) rfl <|
    R.guard mixed 11 (decide (n ≥ -16777216)) (by kernel_rfl)
     (fun h0 =>
       R.finIs mixed Try.func74 (Value.bool (bif true then decide (n ≤ 16777216) else false)) (by kernel_rfl) (by congr 1; simp [w24] at *; try omega)
     )
     (fun h0 =>
       R.finIs mixed Try.func74 (Value.bool false) (by kernel_rfl) (by congr 1; simp [w24] at *; try omega)
     )

theorem c_rw24 {n : Int}  : Con Try.prog 19 [.int .i64 n, .int .i64 16777216] (.bool (w24 n)) := by
  exact Con.run Try.func19 (by kernel_rfl) rfl <|
    R.guard mixed 11 (decide (n ≥ -16777216)) (by kernel_rfl)
     (fun h0 =>
       R.finIs mixed Try.func19 (Value.bool (bif true then decide (n ≤ 16777216) else false)) (by kernel_rfl) (by congr 1; simp [w24] at *; try omega)
     )
     (fun h0 =>
       R.finIs mixed Try.func19 (Value.bool false) (by kernel_rfl) (by congr 1; simp [w24] at *; try omega)
     )

theorem c_w30z   : Con Try.prog 74 [.int .i64 0, .int .i64 1073741824] (.bool true) := by
  exact Con.run Try.func74 (by kernel_rfl) rfl <|
    R.finIs mixed Try.func74 (Value.bool (bif decide (0 ≥ -1073741824) then decide (0 ≤ 1073741824) else false)) (by kernel_rfl) (by rfl)

theorem c_mayM {m0 m1 m2 m3 m4 m5 m6 m7 m8 m9 m10 m11 m12 m13 m14 m15 : Int}  : Con Try.prog 73 [M16 m0 m1 m2 m3 m4 m5 m6 m7 m8 m9 m10 m11 m12 m13 m14 m15] (.bool (mayM m0 m1 m2 m3 m4 m5 m6 m7 m8 m9 m10 m11 m12 m13 m14 m15)) := by
  exact Con.run Try.func73 (by kernel_rfl) rfl <|
    R.call mixed (show Con Try.prog 74 [Value.int IntKind.i64 m0, Value.int IntKind.i64 16777216] (Value.bool (w24 m0)) from c_w24) (by kernel_rfl) <|
    R.branch mixed 2 (!w24 m0) (by kernel_rfl)
     (fun h0 =>
       R.finIs mixed Try.func73 (Value.bool false) (by kernel_rfl) (by simp_all [mayM])
     )
     (fun h0 =>
       R.call mixed (show Con Try.prog 74 [Value.int IntKind.i64 m1, Value.int IntKind.i64 16777216] (Value.bool (w24 m1)) from c_w24) (by kernel_rfl) <|
       R.branch mixed 2 (!w24 m1) (by kernel_rfl)
        (fun h1 =>
          R.finIs mixed Try.func73 (Value.bool false) (by kernel_rfl) (by simp_all [mayM])
        )
        (fun h1 =>
          R.call mixed (show Con Try.prog 74 [Value.int IntKind.i64 m2, Value.int IntKind.i64 16777216] (Value.bool (w24 m2)) from c_w24) (by kernel_rfl) <|
          R.branch mixed 2 (!w24 m2) (by kernel_rfl)
           (fun h2 =>
             R.finIs mixed Try.func73 (Value.bool false) (by kernel_rfl) (by simp_all [mayM])
           )
           (fun h2 =>
             R.call mixed (show Con Try.prog 74 [Value.int IntKind.i64 m3, Value.int IntKind.i64 16777216] (Value.bool (w24 m3)) from c_w24) (by kernel_rfl) <|
             R.branch mixed 2 (!w24 m3) (by kernel_rfl)
              (fun h3 =>
                R.finIs mixed Try.func73 (Value.bool false) (by kernel_rfl) (by simp_all [mayM])
              )
              (fun h3 =>
                R.call mixed (show Con Try.prog 74 [Value.int IntKind.i64 m4, Value.int IntKind.i64 16777216] (Value.bool (w24 m4)) from c_w24) (by kernel_rfl) <|
                R.branch mixed 2 (!w24 m4) (by kernel_rfl)
                 (fun h4 =>
                   R.finIs mixed Try.func73 (Value.bool false) (by kernel_rfl) (by simp_all [mayM])
                 )
                 (fun h4 =>
                   R.call mixed (show Con Try.prog 74 [Value.int IntKind.i64 m5, Value.int IntKind.i64 16777216] (Value.bool (w24 m5)) from c_w24) (by kernel_rfl) <|
                   R.branch mixed 2 (!w24 m5) (by kernel_rfl)
                    (fun h5 =>
                      R.finIs mixed Try.func73 (Value.bool false) (by kernel_rfl) (by simp_all [mayM])
                    )
                    (fun h5 =>
                      R.call mixed (show Con Try.prog 74 [Value.int IntKind.i64 m6, Value.int IntKind.i64 16777216] (Value.bool (w24 m6)) from c_w24) (by kernel_rfl) <|
                      R.branch mixed 2 (!w24 m6) (by kernel_rfl)
                       (fun h6 =>
                         R.finIs mixed Try.func73 (Value.bool false) (by kernel_rfl) (by simp_all [mayM])
                       )
                       (fun h6 =>
                         R.call mixed (show Con Try.prog 74 [Value.int IntKind.i64 m7, Value.int IntKind.i64 16777216] (Value.bool (w24 m7)) from c_w24) (by kernel_rfl) <|
                         R.branch mixed 2 (!w24 m7) (by kernel_rfl)
                          (fun h7 =>
                            R.finIs mixed Try.func73 (Value.bool false) (by kernel_rfl) (by simp_all [mayM])
                          )
                          (fun h7 =>
                            R.call mixed (show Con Try.prog 74 [Value.int IntKind.i64 m8, Value.int IntKind.i64 16777216] (Value.bool (w24 m8)) from c_w24) (by kernel_rfl) <|
                            R.branch mixed 2 (!w24 m8) (by kernel_rfl)
                             (fun h8 =>
                               R.finIs mixed Try.func73 (Value.bool false) (by kernel_rfl) (by simp_all [mayM])
                             )
                             (fun h8 =>
                               R.call mixed (show Con Try.prog 74 [Value.int IntKind.i64 m9, Value.int IntKind.i64 16777216] (Value.bool (w24 m9)) from c_w24) (by kernel_rfl) <|
                               R.branch mixed 2 (!w24 m9) (by kernel_rfl)
                                (fun h9 =>
                                  R.finIs mixed Try.func73 (Value.bool false) (by kernel_rfl) (by simp_all [mayM])
                                )
                                (fun h9 =>
                                  R.call mixed (show Con Try.prog 74 [Value.int IntKind.i64 m10, Value.int IntKind.i64 16777216] (Value.bool (w24 m10)) from c_w24) (by kernel_rfl) <|
                                  R.branch mixed 2 (!w24 m10) (by kernel_rfl)
                                   (fun h10 =>
                                     R.finIs mixed Try.func73 (Value.bool false) (by kernel_rfl) (by simp_all [mayM])
                                   )
                                   (fun h10 =>
                                     R.call mixed (show Con Try.prog 74 [Value.int IntKind.i64 m11, Value.int IntKind.i64 16777216] (Value.bool (w24 m11)) from c_w24) (by kernel_rfl) <|
                                     R.branch mixed 2 (!w24 m11) (by kernel_rfl)
                                      (fun h11 =>
                                        R.finIs mixed Try.func73 (Value.bool false) (by kernel_rfl) (by simp_all [mayM])
                                      )
                                      (fun h11 =>
                                        R.call mixed (show Con Try.prog 74 [Value.int IntKind.i64 m12, Value.int IntKind.i64 16777216] (Value.bool (w24 m12)) from c_w24) (by kernel_rfl) <|
                                        R.branch mixed 2 (!w24 m12) (by kernel_rfl)
                                         (fun h12 =>
                                           R.finIs mixed Try.func73 (Value.bool false) (by kernel_rfl) (by simp_all [mayM])
                                         )
                                         (fun h12 =>
                                           R.call mixed (show Con Try.prog 74 [Value.int IntKind.i64 m13, Value.int IntKind.i64 16777216] (Value.bool (w24 m13)) from c_w24) (by kernel_rfl) <|
                                           R.branch mixed 2 (!w24 m13) (by kernel_rfl)
                                            (fun h13 =>
                                              R.finIs mixed Try.func73 (Value.bool false) (by kernel_rfl) (by simp_all [mayM])
                                            )
                                            (fun h13 =>
                                              R.call mixed (show Con Try.prog 74 [Value.int IntKind.i64 m14, Value.int IntKind.i64 16777216] (Value.bool (w24 m14)) from c_w24) (by kernel_rfl) <|
                                              R.branch mixed 2 (!w24 m14) (by kernel_rfl)
                                               (fun h14 =>
                                                 R.finIs mixed Try.func73 (Value.bool false) (by kernel_rfl) (by simp_all [mayM])
                                               )
                                               (fun h14 =>
                                                 R.call mixed (show Con Try.prog 74 [Value.int IntKind.i64 m15, Value.int IntKind.i64 16777216] (Value.bool (w24 m15)) from c_w24) (by kernel_rfl) <|
                                                 R.branch mixed 2 (!w24 m15) (by kernel_rfl)
                                                  (fun h15 =>
                                                    R.finIs mixed Try.func73 (Value.bool false) (by kernel_rfl) (by simp_all [mayM])
                                                  )
                                                  (fun h15 =>
                                                    R.finIs mixed Try.func73 (Value.bool true) (by kernel_rfl) (by simp_all [mayM])
                                                  )
                                               )
                                            )
                                         )
                                      )
                                   )
                                )
                             )
                          )
                       )
                    )
                 )
              )
           )
        )
     )

theorem c_rmayM {m0 m1 m2 m3 m4 m5 m6 m7 m8 m9 m10 m11 m12 m13 m14 m15 : Int}  : Con Try.prog 14 [M16 m0 m1 m2 m3 m4 m5 m6 m7 m8 m9 m10 m11 m12 m13 m14 m15] (.bool (mayM m0 m1 m2 m3 m4 m5 m6 m7 m8 m9 m10 m11 m12 m13 m14 m15)) := by
  exact Con.run Try.func14 (by kernel_rfl) rfl <|
    R.call mixed (show Con Try.prog 19 [Value.int IntKind.i64 m0, Value.int IntKind.i64 16777216] (Value.bool (w24 m0)) from c_rw24) (by kernel_rfl) <|
    R.branch mixed 2 (!w24 m0) (by kernel_rfl)
     (fun h0 =>
       R.finIs mixed Try.func14 (Value.bool false) (by kernel_rfl) (by simp_all [mayM])
     )
     (fun h0 =>
       R.call mixed (show Con Try.prog 19 [Value.int IntKind.i64 m1, Value.int IntKind.i64 16777216] (Value.bool (w24 m1)) from c_rw24) (by kernel_rfl) <|
       R.branch mixed 2 (!w24 m1) (by kernel_rfl)
        (fun h1 =>
          R.finIs mixed Try.func14 (Value.bool false) (by kernel_rfl) (by simp_all [mayM])
        )
        (fun h1 =>
          R.call mixed (show Con Try.prog 19 [Value.int IntKind.i64 m2, Value.int IntKind.i64 16777216] (Value.bool (w24 m2)) from c_rw24) (by kernel_rfl) <|
          R.branch mixed 2 (!w24 m2) (by kernel_rfl)
           (fun h2 =>
             R.finIs mixed Try.func14 (Value.bool false) (by kernel_rfl) (by simp_all [mayM])
           )
           (fun h2 =>
             R.call mixed (show Con Try.prog 19 [Value.int IntKind.i64 m3, Value.int IntKind.i64 16777216] (Value.bool (w24 m3)) from c_rw24) (by kernel_rfl) <|
             R.branch mixed 2 (!w24 m3) (by kernel_rfl)
              (fun h3 =>
                R.finIs mixed Try.func14 (Value.bool false) (by kernel_rfl) (by simp_all [mayM])
              )
              (fun h3 =>
                R.call mixed (show Con Try.prog 19 [Value.int IntKind.i64 m4, Value.int IntKind.i64 16777216] (Value.bool (w24 m4)) from c_rw24) (by kernel_rfl) <|
                R.branch mixed 2 (!w24 m4) (by kernel_rfl)
                 (fun h4 =>
                   R.finIs mixed Try.func14 (Value.bool false) (by kernel_rfl) (by simp_all [mayM])
                 )
                 (fun h4 =>
                   R.call mixed (show Con Try.prog 19 [Value.int IntKind.i64 m5, Value.int IntKind.i64 16777216] (Value.bool (w24 m5)) from c_rw24) (by kernel_rfl) <|
                   R.branch mixed 2 (!w24 m5) (by kernel_rfl)
                    (fun h5 =>
                      R.finIs mixed Try.func14 (Value.bool false) (by kernel_rfl) (by simp_all [mayM])
                    )
                    (fun h5 =>
                      R.call mixed (show Con Try.prog 19 [Value.int IntKind.i64 m6, Value.int IntKind.i64 16777216] (Value.bool (w24 m6)) from c_rw24) (by kernel_rfl) <|
                      R.branch mixed 2 (!w24 m6) (by kernel_rfl)
                       (fun h6 =>
                         R.finIs mixed Try.func14 (Value.bool false) (by kernel_rfl) (by simp_all [mayM])
                       )
                       (fun h6 =>
                         R.call mixed (show Con Try.prog 19 [Value.int IntKind.i64 m7, Value.int IntKind.i64 16777216] (Value.bool (w24 m7)) from c_rw24) (by kernel_rfl) <|
                         R.branch mixed 2 (!w24 m7) (by kernel_rfl)
                          (fun h7 =>
                            R.finIs mixed Try.func14 (Value.bool false) (by kernel_rfl) (by simp_all [mayM])
                          )
                          (fun h7 =>
                            R.call mixed (show Con Try.prog 19 [Value.int IntKind.i64 m8, Value.int IntKind.i64 16777216] (Value.bool (w24 m8)) from c_rw24) (by kernel_rfl) <|
                            R.branch mixed 2 (!w24 m8) (by kernel_rfl)
                             (fun h8 =>
                               R.finIs mixed Try.func14 (Value.bool false) (by kernel_rfl) (by simp_all [mayM])
                             )
                             (fun h8 =>
                               R.call mixed (show Con Try.prog 19 [Value.int IntKind.i64 m9, Value.int IntKind.i64 16777216] (Value.bool (w24 m9)) from c_rw24) (by kernel_rfl) <|
                               R.branch mixed 2 (!w24 m9) (by kernel_rfl)
                                (fun h9 =>
                                  R.finIs mixed Try.func14 (Value.bool false) (by kernel_rfl) (by simp_all [mayM])
                                )
                                (fun h9 =>
                                  R.call mixed (show Con Try.prog 19 [Value.int IntKind.i64 m10, Value.int IntKind.i64 16777216] (Value.bool (w24 m10)) from c_rw24) (by kernel_rfl) <|
                                  R.branch mixed 2 (!w24 m10) (by kernel_rfl)
                                   (fun h10 =>
                                     R.finIs mixed Try.func14 (Value.bool false) (by kernel_rfl) (by simp_all [mayM])
                                   )
                                   (fun h10 =>
                                     R.call mixed (show Con Try.prog 19 [Value.int IntKind.i64 m11, Value.int IntKind.i64 16777216] (Value.bool (w24 m11)) from c_rw24) (by kernel_rfl) <|
                                     R.branch mixed 2 (!w24 m11) (by kernel_rfl)
                                      (fun h11 =>
                                        R.finIs mixed Try.func14 (Value.bool false) (by kernel_rfl) (by simp_all [mayM])
                                      )
                                      (fun h11 =>
                                        R.call mixed (show Con Try.prog 19 [Value.int IntKind.i64 m12, Value.int IntKind.i64 16777216] (Value.bool (w24 m12)) from c_rw24) (by kernel_rfl) <|
                                        R.branch mixed 2 (!w24 m12) (by kernel_rfl)
                                         (fun h12 =>
                                           R.finIs mixed Try.func14 (Value.bool false) (by kernel_rfl) (by simp_all [mayM])
                                         )
                                         (fun h12 =>
                                           R.call mixed (show Con Try.prog 19 [Value.int IntKind.i64 m13, Value.int IntKind.i64 16777216] (Value.bool (w24 m13)) from c_rw24) (by kernel_rfl) <|
                                           R.branch mixed 2 (!w24 m13) (by kernel_rfl)
                                            (fun h13 =>
                                              R.finIs mixed Try.func14 (Value.bool false) (by kernel_rfl) (by simp_all [mayM])
                                            )
                                            (fun h13 =>
                                              R.call mixed (show Con Try.prog 19 [Value.int IntKind.i64 m14, Value.int IntKind.i64 16777216] (Value.bool (w24 m14)) from c_rw24) (by kernel_rfl) <|
                                              R.branch mixed 2 (!w24 m14) (by kernel_rfl)
                                               (fun h14 =>
                                                 R.finIs mixed Try.func14 (Value.bool false) (by kernel_rfl) (by simp_all [mayM])
                                               )
                                               (fun h14 =>
                                                 R.call mixed (show Con Try.prog 19 [Value.int IntKind.i64 m15, Value.int IntKind.i64 16777216] (Value.bool (w24 m15)) from c_rw24) (by kernel_rfl) <|
                                                 R.branch mixed 2 (!w24 m15) (by kernel_rfl)
                                                  (fun h15 =>
                                                    R.finIs mixed Try.func14 (Value.bool false) (by kernel_rfl) (by simp_all [mayM])
                                                  )
                                                  (fun h15 =>
                                                    R.finIs mixed Try.func14 (Value.bool true) (by kernel_rfl) (by simp_all [mayM])
                                                  )
                                               )
                                            )
                                         )
                                      )
                                   )
                                )
                             )
                          )
                       )
                    )
                 )
              )
           )
        )
     )

theorem c_list0 {a b c d : Int}  : Con Try.prog 72 [R4 a b c d] (R4 a b c d) := by
  exact Con.run Try.func72 (by kernel_rfl) rfl <|
    R.finIs mixed Try.func72 (Value.agg ⟨[Value.int IntKind.i64 a, Value.int IntKind.i64 b, Value.int IntKind.i64 c, Value.int IntKind.i64 d]⟩) (by kernel_rfl) (by rfl)

theorem c_view {a b c d : Int}  : Con Try.prog 39 [R4 a b c d] (.int .i64 (if viewP a b c d then 0 else 12)) := by
  exact Con.run Try.func39 (by kernel_rfl) rfl <|
    R.guard mixed 12 (decide (a < -4096)) (by kernel_rfl)
     (fun h0 =>
       R.finIs mixed Try.func39 (Value.int IntKind.i64 12) (by kernel_rfl) (by first | rw [if_pos (by unfold viewP; simp at *; (first | rw [wrap_i64_of (n := a + 4096) (by omega) (by omega)] at * | skip); (first | rw [wrap_i64_of (n := b + 4096) (by omega) (by omega)] at * | skip); omega)] | rw [if_neg (by unfold viewP; simp at *; (first | rw [wrap_i64_of (n := a + 4096) (by omega) (by omega)] at * | skip); (first | rw [wrap_i64_of (n := b + 4096) (by omega) (by omega)] at * | skip); omega)] | (refine congrArg Value.bool (decide_eq_true ?_).symm; (unfold viewP; simp at *; (first | rw [wrap_i64_of (n := a + 4096) (by omega) (by omega)] at * | skip); (first | rw [wrap_i64_of (n := b + 4096) (by omega) (by omega)] at * | skip); omega)) | (refine congrArg Value.bool (decide_eq_false ?_).symm; (unfold viewP; simp at *; (first | rw [wrap_i64_of (n := a + 4096) (by omega) (by omega)] at * | skip); (first | rw [wrap_i64_of (n := b + 4096) (by omega) (by omega)] at * | skip); omega)) | (congr 1; rw [cond_true, decide_eq_decide]; unfold viewP; simp at *; (first | rw [wrap_i64_of (n := a + 4096) (by omega) (by omega)] at * | skip); (first | rw [wrap_i64_of (n := b + 4096) (by omega) (by omega)] at * | skip); omega))
     )
     (fun h0 =>
       R.guard mixed 5 (bif false then true else decide (a > 4096)) (by kernel_rfl)
        (fun h1 =>
          R.finIs mixed Try.func39 (Value.int IntKind.i64 12) (by kernel_rfl) (by first | rw [if_pos (by unfold viewP; simp at *; (first | rw [wrap_i64_of (n := a + 4096) (by omega) (by omega)] at * | skip); (first | rw [wrap_i64_of (n := b + 4096) (by omega) (by omega)] at * | skip); omega)] | rw [if_neg (by unfold viewP; simp at *; (first | rw [wrap_i64_of (n := a + 4096) (by omega) (by omega)] at * | skip); (first | rw [wrap_i64_of (n := b + 4096) (by omega) (by omega)] at * | skip); omega)] | (refine congrArg Value.bool (decide_eq_true ?_).symm; (unfold viewP; simp at *; (first | rw [wrap_i64_of (n := a + 4096) (by omega) (by omega)] at * | skip); (first | rw [wrap_i64_of (n := b + 4096) (by omega) (by omega)] at * | skip); omega)) | (refine congrArg Value.bool (decide_eq_false ?_).symm; (unfold viewP; simp at *; (first | rw [wrap_i64_of (n := a + 4096) (by omega) (by omega)] at * | skip); (first | rw [wrap_i64_of (n := b + 4096) (by omega) (by omega)] at * | skip); omega)) | (congr 1; rw [cond_true, decide_eq_decide]; unfold viewP; simp at *; (first | rw [wrap_i64_of (n := a + 4096) (by omega) (by omega)] at * | skip); (first | rw [wrap_i64_of (n := b + 4096) (by omega) (by omega)] at * | skip); omega))
        )
        (fun h1 =>
          R.guard mixed 5 (bif false then true else decide (b < -4096)) (by kernel_rfl)
           (fun h2 =>
             R.finIs mixed Try.func39 (Value.int IntKind.i64 12) (by kernel_rfl) (by first | rw [if_pos (by unfold viewP; simp at *; (first | rw [wrap_i64_of (n := a + 4096) (by omega) (by omega)] at * | skip); (first | rw [wrap_i64_of (n := b + 4096) (by omega) (by omega)] at * | skip); omega)] | rw [if_neg (by unfold viewP; simp at *; (first | rw [wrap_i64_of (n := a + 4096) (by omega) (by omega)] at * | skip); (first | rw [wrap_i64_of (n := b + 4096) (by omega) (by omega)] at * | skip); omega)] | (refine congrArg Value.bool (decide_eq_true ?_).symm; (unfold viewP; simp at *; (first | rw [wrap_i64_of (n := a + 4096) (by omega) (by omega)] at * | skip); (first | rw [wrap_i64_of (n := b + 4096) (by omega) (by omega)] at * | skip); omega)) | (refine congrArg Value.bool (decide_eq_false ?_).symm; (unfold viewP; simp at *; (first | rw [wrap_i64_of (n := a + 4096) (by omega) (by omega)] at * | skip); (first | rw [wrap_i64_of (n := b + 4096) (by omega) (by omega)] at * | skip); omega)) | (congr 1; rw [cond_true, decide_eq_decide]; unfold viewP; simp at *; (first | rw [wrap_i64_of (n := a + 4096) (by omega) (by omega)] at * | skip); (first | rw [wrap_i64_of (n := b + 4096) (by omega) (by omega)] at * | skip); omega))
           )
           (fun h2 =>
             R.guard mixed 5 (bif false then true else decide (b > 4096)) (by kernel_rfl)
              (fun h3 =>
                R.finIs mixed Try.func39 (Value.int IntKind.i64 12) (by kernel_rfl) (by first | rw [if_pos (by unfold viewP; simp at *; (first | rw [wrap_i64_of (n := a + 4096) (by omega) (by omega)] at * | skip); (first | rw [wrap_i64_of (n := b + 4096) (by omega) (by omega)] at * | skip); omega)] | rw [if_neg (by unfold viewP; simp at *; (first | rw [wrap_i64_of (n := a + 4096) (by omega) (by omega)] at * | skip); (first | rw [wrap_i64_of (n := b + 4096) (by omega) (by omega)] at * | skip); omega)] | (refine congrArg Value.bool (decide_eq_true ?_).symm; (unfold viewP; simp at *; (first | rw [wrap_i64_of (n := a + 4096) (by omega) (by omega)] at * | skip); (first | rw [wrap_i64_of (n := b + 4096) (by omega) (by omega)] at * | skip); omega)) | (refine congrArg Value.bool (decide_eq_false ?_).symm; (unfold viewP; simp at *; (first | rw [wrap_i64_of (n := a + 4096) (by omega) (by omega)] at * | skip); (first | rw [wrap_i64_of (n := b + 4096) (by omega) (by omega)] at * | skip); omega)) | (congr 1; rw [cond_true, decide_eq_decide]; unfold viewP; simp at *; (first | rw [wrap_i64_of (n := a + 4096) (by omega) (by omega)] at * | skip); (first | rw [wrap_i64_of (n := b + 4096) (by omega) (by omega)] at * | skip); omega))
              )
              (fun h3 =>
                R.guard mixed 7 (bif false then true else decide (c < a)) (by kernel_rfl)
                 (fun h4 =>
                   R.finIs mixed Try.func39 (Value.int IntKind.i64 12) (by kernel_rfl) (by first | rw [if_pos (by unfold viewP; simp at *; (first | rw [wrap_i64_of (n := a + 4096) (by omega) (by omega)] at * | skip); (first | rw [wrap_i64_of (n := b + 4096) (by omega) (by omega)] at * | skip); omega)] | rw [if_neg (by unfold viewP; simp at *; (first | rw [wrap_i64_of (n := a + 4096) (by omega) (by omega)] at * | skip); (first | rw [wrap_i64_of (n := b + 4096) (by omega) (by omega)] at * | skip); omega)] | (refine congrArg Value.bool (decide_eq_true ?_).symm; (unfold viewP; simp at *; (first | rw [wrap_i64_of (n := a + 4096) (by omega) (by omega)] at * | skip); (first | rw [wrap_i64_of (n := b + 4096) (by omega) (by omega)] at * | skip); omega)) | (refine congrArg Value.bool (decide_eq_false ?_).symm; (unfold viewP; simp at *; (first | rw [wrap_i64_of (n := a + 4096) (by omega) (by omega)] at * | skip); (first | rw [wrap_i64_of (n := b + 4096) (by omega) (by omega)] at * | skip); omega)) | (congr 1; rw [cond_true, decide_eq_decide]; unfold viewP; simp at *; (first | rw [wrap_i64_of (n := a + 4096) (by omega) (by omega)] at * | skip); (first | rw [wrap_i64_of (n := b + 4096) (by omega) (by omega)] at * | skip); omega))
                 )
                 (fun h4 =>
                   R.guard mixed 7 (bif false then true else decide (d < b)) (by kernel_rfl)
                    (fun h5 =>
                      R.finIs mixed Try.func39 (Value.int IntKind.i64 12) (by kernel_rfl) (by first | rw [if_pos (by unfold viewP; simp at *; (first | rw [wrap_i64_of (n := a + 4096) (by omega) (by omega)] at * | skip); (first | rw [wrap_i64_of (n := b + 4096) (by omega) (by omega)] at * | skip); omega)] | rw [if_neg (by unfold viewP; simp at *; (first | rw [wrap_i64_of (n := a + 4096) (by omega) (by omega)] at * | skip); (first | rw [wrap_i64_of (n := b + 4096) (by omega) (by omega)] at * | skip); omega)] | (refine congrArg Value.bool (decide_eq_true ?_).symm; (unfold viewP; simp at *; (first | rw [wrap_i64_of (n := a + 4096) (by omega) (by omega)] at * | skip); (first | rw [wrap_i64_of (n := b + 4096) (by omega) (by omega)] at * | skip); omega)) | (refine congrArg Value.bool (decide_eq_false ?_).symm; (unfold viewP; simp at *; (first | rw [wrap_i64_of (n := a + 4096) (by omega) (by omega)] at * | skip); (first | rw [wrap_i64_of (n := b + 4096) (by omega) (by omega)] at * | skip); omega)) | (congr 1; rw [cond_true, decide_eq_decide]; unfold viewP; simp at *; (first | rw [wrap_i64_of (n := a + 4096) (by omega) (by omega)] at * | skip); (first | rw [wrap_i64_of (n := b + 4096) (by omega) (by omega)] at * | skip); omega))
                    )
                    (fun h5 =>
                      R.guard mixed 8 (bif false then true else decide (c > IntKind.i64.wrap (a + 4096))) (by kernel_rfl)
                       (fun h6 =>
                         R.finIs mixed Try.func39 (Value.int IntKind.i64 12) (by kernel_rfl) (by first | rw [if_pos (by unfold viewP; simp at *; (first | rw [wrap_i64_of (n := a + 4096) (by omega) (by omega)] at * | skip); (first | rw [wrap_i64_of (n := b + 4096) (by omega) (by omega)] at * | skip); omega)] | rw [if_neg (by unfold viewP; simp at *; (first | rw [wrap_i64_of (n := a + 4096) (by omega) (by omega)] at * | skip); (first | rw [wrap_i64_of (n := b + 4096) (by omega) (by omega)] at * | skip); omega)] | (refine congrArg Value.bool (decide_eq_true ?_).symm; (unfold viewP; simp at *; (first | rw [wrap_i64_of (n := a + 4096) (by omega) (by omega)] at * | skip); (first | rw [wrap_i64_of (n := b + 4096) (by omega) (by omega)] at * | skip); omega)) | (refine congrArg Value.bool (decide_eq_false ?_).symm; (unfold viewP; simp at *; (first | rw [wrap_i64_of (n := a + 4096) (by omega) (by omega)] at * | skip); (first | rw [wrap_i64_of (n := b + 4096) (by omega) (by omega)] at * | skip); omega)) | (congr 1; rw [cond_true, decide_eq_decide]; unfold viewP; simp at *; (first | rw [wrap_i64_of (n := a + 4096) (by omega) (by omega)] at * | skip); (first | rw [wrap_i64_of (n := b + 4096) (by omega) (by omega)] at * | skip); omega))
                       )
                       (fun h6 =>
                         R.branch mixed 8 (bif false then true else decide (d > IntKind.i64.wrap (b + 4096))) (by kernel_rfl)
                          (fun h7 =>
                            R.finIs mixed Try.func39 (Value.int IntKind.i64 12) (by kernel_rfl) (by first | rw [if_pos (by unfold viewP; simp at *; (first | rw [wrap_i64_of (n := a + 4096) (by omega) (by omega)] at * | skip); (first | rw [wrap_i64_of (n := b + 4096) (by omega) (by omega)] at * | skip); omega)] | rw [if_neg (by unfold viewP; simp at *; (first | rw [wrap_i64_of (n := a + 4096) (by omega) (by omega)] at * | skip); (first | rw [wrap_i64_of (n := b + 4096) (by omega) (by omega)] at * | skip); omega)] | (refine congrArg Value.bool (decide_eq_true ?_).symm; (unfold viewP; simp at *; (first | rw [wrap_i64_of (n := a + 4096) (by omega) (by omega)] at * | skip); (first | rw [wrap_i64_of (n := b + 4096) (by omega) (by omega)] at * | skip); omega)) | (refine congrArg Value.bool (decide_eq_false ?_).symm; (unfold viewP; simp at *; (first | rw [wrap_i64_of (n := a + 4096) (by omega) (by omega)] at * | skip); (first | rw [wrap_i64_of (n := b + 4096) (by omega) (by omega)] at * | skip); omega)) | (congr 1; rw [cond_true, decide_eq_decide]; unfold viewP; simp at *; (first | rw [wrap_i64_of (n := a + 4096) (by omega) (by omega)] at * | skip); (first | rw [wrap_i64_of (n := b + 4096) (by omega) (by omega)] at * | skip); omega))
                          )
                          (fun h7 =>
                            R.finIs mixed Try.func39 (Value.int IntKind.i64 0) (by kernel_rfl) (by first | rw [if_pos (by unfold viewP; simp at *; (first | rw [wrap_i64_of (n := a + 4096) (by omega) (by omega)] at * | skip); (first | rw [wrap_i64_of (n := b + 4096) (by omega) (by omega)] at * | skip); omega)] | rw [if_neg (by unfold viewP; simp at *; (first | rw [wrap_i64_of (n := a + 4096) (by omega) (by omega)] at * | skip); (first | rw [wrap_i64_of (n := b + 4096) (by omega) (by omega)] at * | skip); omega)] | (refine congrArg Value.bool (decide_eq_true ?_).symm; (unfold viewP; simp at *; (first | rw [wrap_i64_of (n := a + 4096) (by omega) (by omega)] at * | skip); (first | rw [wrap_i64_of (n := b + 4096) (by omega) (by omega)] at * | skip); omega)) | (refine congrArg Value.bool (decide_eq_false ?_).symm; (unfold viewP; simp at *; (first | rw [wrap_i64_of (n := a + 4096) (by omega) (by omega)] at * | skip); (first | rw [wrap_i64_of (n := b + 4096) (by omega) (by omega)] at * | skip); omega)) | (congr 1; rw [cond_true, decide_eq_decide]; unfold viewP; simp at *; (first | rw [wrap_i64_of (n := a + 4096) (by omega) (by omega)] at * | skip); (first | rw [wrap_i64_of (n := b + 4096) (by omega) (by omega)] at * | skip); omega))
                          )
                       )
                    )
                 )
              )
           )
        )
     )

theorem c_rview {a b c d : Int}  : Con Try.prog 15 [R4 a b c d] (.bool (decide (viewP a b c d))) := by
  exact Con.run Try.func15 (by kernel_rfl) rfl <|
    R.guard mixed 12 (decide (a < -4096)) (by kernel_rfl)
     (fun h0 =>
       R.finIs mixed Try.func15 (Value.bool false) (by kernel_rfl) (by first | rw [if_pos (by unfold viewP; simp at *; (first | rw [wrap_i64_of (n := a + 4096) (by omega) (by omega)] at * | skip); (first | rw [wrap_i64_of (n := b + 4096) (by omega) (by omega)] at * | skip); omega)] | rw [if_neg (by unfold viewP; simp at *; (first | rw [wrap_i64_of (n := a + 4096) (by omega) (by omega)] at * | skip); (first | rw [wrap_i64_of (n := b + 4096) (by omega) (by omega)] at * | skip); omega)] | (refine congrArg Value.bool (decide_eq_true ?_).symm; (unfold viewP; simp at *; (first | rw [wrap_i64_of (n := a + 4096) (by omega) (by omega)] at * | skip); (first | rw [wrap_i64_of (n := b + 4096) (by omega) (by omega)] at * | skip); omega)) | (refine congrArg Value.bool (decide_eq_false ?_).symm; (unfold viewP; simp at *; (first | rw [wrap_i64_of (n := a + 4096) (by omega) (by omega)] at * | skip); (first | rw [wrap_i64_of (n := b + 4096) (by omega) (by omega)] at * | skip); omega)) | (congr 1; rw [cond_true, decide_eq_decide]; unfold viewP; simp at *; (first | rw [wrap_i64_of (n := a + 4096) (by omega) (by omega)] at * | skip); (first | rw [wrap_i64_of (n := b + 4096) (by omega) (by omega)] at * | skip); omega))
     )
     (fun h0 =>
       R.guard mixed 5 (bif false then true else decide (a > 4096)) (by kernel_rfl)
        (fun h1 =>
          R.finIs mixed Try.func15 (Value.bool false) (by kernel_rfl) (by first | rw [if_pos (by unfold viewP; simp at *; (first | rw [wrap_i64_of (n := a + 4096) (by omega) (by omega)] at * | skip); (first | rw [wrap_i64_of (n := b + 4096) (by omega) (by omega)] at * | skip); omega)] | rw [if_neg (by unfold viewP; simp at *; (first | rw [wrap_i64_of (n := a + 4096) (by omega) (by omega)] at * | skip); (first | rw [wrap_i64_of (n := b + 4096) (by omega) (by omega)] at * | skip); omega)] | (refine congrArg Value.bool (decide_eq_true ?_).symm; (unfold viewP; simp at *; (first | rw [wrap_i64_of (n := a + 4096) (by omega) (by omega)] at * | skip); (first | rw [wrap_i64_of (n := b + 4096) (by omega) (by omega)] at * | skip); omega)) | (refine congrArg Value.bool (decide_eq_false ?_).symm; (unfold viewP; simp at *; (first | rw [wrap_i64_of (n := a + 4096) (by omega) (by omega)] at * | skip); (first | rw [wrap_i64_of (n := b + 4096) (by omega) (by omega)] at * | skip); omega)) | (congr 1; rw [cond_true, decide_eq_decide]; unfold viewP; simp at *; (first | rw [wrap_i64_of (n := a + 4096) (by omega) (by omega)] at * | skip); (first | rw [wrap_i64_of (n := b + 4096) (by omega) (by omega)] at * | skip); omega))
        )
        (fun h1 =>
          R.guard mixed 5 (bif false then true else decide (b < -4096)) (by kernel_rfl)
           (fun h2 =>
             R.finIs mixed Try.func15 (Value.bool false) (by kernel_rfl) (by first | rw [if_pos (by unfold viewP; simp at *; (first | rw [wrap_i64_of (n := a + 4096) (by omega) (by omega)] at * | skip); (first | rw [wrap_i64_of (n := b + 4096) (by omega) (by omega)] at * | skip); omega)] | rw [if_neg (by unfold viewP; simp at *; (first | rw [wrap_i64_of (n := a + 4096) (by omega) (by omega)] at * | skip); (first | rw [wrap_i64_of (n := b + 4096) (by omega) (by omega)] at * | skip); omega)] | (refine congrArg Value.bool (decide_eq_true ?_).symm; (unfold viewP; simp at *; (first | rw [wrap_i64_of (n := a + 4096) (by omega) (by omega)] at * | skip); (first | rw [wrap_i64_of (n := b + 4096) (by omega) (by omega)] at * | skip); omega)) | (refine congrArg Value.bool (decide_eq_false ?_).symm; (unfold viewP; simp at *; (first | rw [wrap_i64_of (n := a + 4096) (by omega) (by omega)] at * | skip); (first | rw [wrap_i64_of (n := b + 4096) (by omega) (by omega)] at * | skip); omega)) | (congr 1; rw [cond_true, decide_eq_decide]; unfold viewP; simp at *; (first | rw [wrap_i64_of (n := a + 4096) (by omega) (by omega)] at * | skip); (first | rw [wrap_i64_of (n := b + 4096) (by omega) (by omega)] at * | skip); omega))
           )
           (fun h2 =>
             R.branch mixed 5 (bif false then true else decide (b > 4096)) (by kernel_rfl)
              (fun h3 =>
                R.finIs mixed Try.func15 (Value.bool false) (by kernel_rfl) (by first | rw [if_pos (by unfold viewP; simp at *; (first | rw [wrap_i64_of (n := a + 4096) (by omega) (by omega)] at * | skip); (first | rw [wrap_i64_of (n := b + 4096) (by omega) (by omega)] at * | skip); omega)] | rw [if_neg (by unfold viewP; simp at *; (first | rw [wrap_i64_of (n := a + 4096) (by omega) (by omega)] at * | skip); (first | rw [wrap_i64_of (n := b + 4096) (by omega) (by omega)] at * | skip); omega)] | (refine congrArg Value.bool (decide_eq_true ?_).symm; (unfold viewP; simp at *; (first | rw [wrap_i64_of (n := a + 4096) (by omega) (by omega)] at * | skip); (first | rw [wrap_i64_of (n := b + 4096) (by omega) (by omega)] at * | skip); omega)) | (refine congrArg Value.bool (decide_eq_false ?_).symm; (unfold viewP; simp at *; (first | rw [wrap_i64_of (n := a + 4096) (by omega) (by omega)] at * | skip); (first | rw [wrap_i64_of (n := b + 4096) (by omega) (by omega)] at * | skip); omega)) | (congr 1; rw [cond_true, decide_eq_decide]; unfold viewP; simp at *; (first | rw [wrap_i64_of (n := a + 4096) (by omega) (by omega)] at * | skip); (first | rw [wrap_i64_of (n := b + 4096) (by omega) (by omega)] at * | skip); omega))
              )
              (fun h3 =>
                R.guard mixed 9 (decide (c ≥ a)) (by kernel_rfl)
                 (fun h4 =>
                   R.guard mixed 8 (bif true then decide (c ≤ IntKind.i64.wrap (a + 4096)) else false) (by kernel_rfl)
                    (fun h5 =>
                      R.guard mixed 7 (bif true then decide (d ≥ b) else false) (by kernel_rfl)
                       (fun h6 =>
                         R.finIs mixed Try.func15 (Value.bool (bif true then decide (d ≤ IntKind.i64.wrap (b + 4096)) else false)) (by kernel_rfl) (by first | rw [if_pos (by unfold viewP; simp at *; (first | rw [wrap_i64_of (n := a + 4096) (by omega) (by omega)] at * | skip); (first | rw [wrap_i64_of (n := b + 4096) (by omega) (by omega)] at * | skip); omega)] | rw [if_neg (by unfold viewP; simp at *; (first | rw [wrap_i64_of (n := a + 4096) (by omega) (by omega)] at * | skip); (first | rw [wrap_i64_of (n := b + 4096) (by omega) (by omega)] at * | skip); omega)] | (refine congrArg Value.bool (decide_eq_true ?_).symm; (unfold viewP; simp at *; (first | rw [wrap_i64_of (n := a + 4096) (by omega) (by omega)] at * | skip); (first | rw [wrap_i64_of (n := b + 4096) (by omega) (by omega)] at * | skip); omega)) | (refine congrArg Value.bool (decide_eq_false ?_).symm; (unfold viewP; simp at *; (first | rw [wrap_i64_of (n := a + 4096) (by omega) (by omega)] at * | skip); (first | rw [wrap_i64_of (n := b + 4096) (by omega) (by omega)] at * | skip); omega)) | (congr 1; rw [cond_true, decide_eq_decide]; unfold viewP; simp at *; (first | rw [wrap_i64_of (n := a + 4096) (by omega) (by omega)] at * | skip); (first | rw [wrap_i64_of (n := b + 4096) (by omega) (by omega)] at * | skip); omega))
                       )
                       (fun h6 =>
                         R.finIs mixed Try.func15 (Value.bool false) (by kernel_rfl) (by first | rw [if_pos (by unfold viewP; simp at *; (first | rw [wrap_i64_of (n := a + 4096) (by omega) (by omega)] at * | skip); (first | rw [wrap_i64_of (n := b + 4096) (by omega) (by omega)] at * | skip); omega)] | rw [if_neg (by unfold viewP; simp at *; (first | rw [wrap_i64_of (n := a + 4096) (by omega) (by omega)] at * | skip); (first | rw [wrap_i64_of (n := b + 4096) (by omega) (by omega)] at * | skip); omega)] | (refine congrArg Value.bool (decide_eq_true ?_).symm; (unfold viewP; simp at *; (first | rw [wrap_i64_of (n := a + 4096) (by omega) (by omega)] at * | skip); (first | rw [wrap_i64_of (n := b + 4096) (by omega) (by omega)] at * | skip); omega)) | (refine congrArg Value.bool (decide_eq_false ?_).symm; (unfold viewP; simp at *; (first | rw [wrap_i64_of (n := a + 4096) (by omega) (by omega)] at * | skip); (first | rw [wrap_i64_of (n := b + 4096) (by omega) (by omega)] at * | skip); omega)) | (congr 1; rw [cond_true, decide_eq_decide]; unfold viewP; simp at *; (first | rw [wrap_i64_of (n := a + 4096) (by omega) (by omega)] at * | skip); (first | rw [wrap_i64_of (n := b + 4096) (by omega) (by omega)] at * | skip); omega))
                       )
                    )
                    (fun h5 =>
                      R.finIs mixed Try.func15 (Value.bool false) (by kernel_rfl) (by first | rw [if_pos (by unfold viewP; simp at *; (first | rw [wrap_i64_of (n := a + 4096) (by omega) (by omega)] at * | skip); (first | rw [wrap_i64_of (n := b + 4096) (by omega) (by omega)] at * | skip); omega)] | rw [if_neg (by unfold viewP; simp at *; (first | rw [wrap_i64_of (n := a + 4096) (by omega) (by omega)] at * | skip); (first | rw [wrap_i64_of (n := b + 4096) (by omega) (by omega)] at * | skip); omega)] | (refine congrArg Value.bool (decide_eq_true ?_).symm; (unfold viewP; simp at *; (first | rw [wrap_i64_of (n := a + 4096) (by omega) (by omega)] at * | skip); (first | rw [wrap_i64_of (n := b + 4096) (by omega) (by omega)] at * | skip); omega)) | (refine congrArg Value.bool (decide_eq_false ?_).symm; (unfold viewP; simp at *; (first | rw [wrap_i64_of (n := a + 4096) (by omega) (by omega)] at * | skip); (first | rw [wrap_i64_of (n := b + 4096) (by omega) (by omega)] at * | skip); omega)) | (congr 1; rw [cond_true, decide_eq_decide]; unfold viewP; simp at *; (first | rw [wrap_i64_of (n := a + 4096) (by omega) (by omega)] at * | skip); (first | rw [wrap_i64_of (n := b + 4096) (by omega) (by omega)] at * | skip); omega))
                    )
                 )
                 (fun h4 =>
                   R.finIs mixed Try.func15 (Value.bool false) (by kernel_rfl) (by first | rw [if_pos (by unfold viewP; simp at *; (first | rw [wrap_i64_of (n := a + 4096) (by omega) (by omega)] at * | skip); (first | rw [wrap_i64_of (n := b + 4096) (by omega) (by omega)] at * | skip); omega)] | rw [if_neg (by unfold viewP; simp at *; (first | rw [wrap_i64_of (n := a + 4096) (by omega) (by omega)] at * | skip); (first | rw [wrap_i64_of (n := b + 4096) (by omega) (by omega)] at * | skip); omega)] | (refine congrArg Value.bool (decide_eq_true ?_).symm; (unfold viewP; simp at *; (first | rw [wrap_i64_of (n := a + 4096) (by omega) (by omega)] at * | skip); (first | rw [wrap_i64_of (n := b + 4096) (by omega) (by omega)] at * | skip); omega)) | (refine congrArg Value.bool (decide_eq_false ?_).symm; (unfold viewP; simp at *; (first | rw [wrap_i64_of (n := a + 4096) (by omega) (by omega)] at * | skip); (first | rw [wrap_i64_of (n := b + 4096) (by omega) (by omega)] at * | skip); omega)) | (congr 1; rw [cond_true, decide_eq_decide]; unfold viewP; simp at *; (first | rw [wrap_i64_of (n := a + 4096) (by omega) (by omega)] at * | skip); (first | rw [wrap_i64_of (n := b + 4096) (by omega) (by omega)] at * | skip); omega))
                 )
              )
           )
        )
     )

theorem c_dcheck {a : Int}  : Con Try.prog 75 [.int .i64 a] (.int .i64 (k7 a)) := by
  exact Con.run Try.func75 (by kernel_rfl) rfl <|
    R.guard mixed 10 (decide (a < 0)) (by kernel_rfl)
     (fun h0 =>
       R.finIs mixed Try.func75 (Value.int IntKind.i64 9) (by kernel_rfl) (by unfold k7; cases h7 : is7 a <;> simp [is7] at * <;> omega)
     )
     (fun h0 =>
       R.branch mixed 4 (bif false then true else decide (a > 7)) (by kernel_rfl)
        (fun h1 =>
          R.finIs mixed Try.func75 (Value.int IntKind.i64 9) (by kernel_rfl) (by unfold k7; cases h7 : is7 a <;> simp [is7] at * <;> omega)
        )
        (fun h1 =>
          R.finIs mixed Try.func75 (Value.int IntKind.i64 0) (by kernel_rfl) (by unfold k7; cases h7 : is7 a <;> simp [is7] at * <;> omega)
        )
     )

theorem c_r7 {a : Int}  : Con Try.prog 16 [.int .i64 a] (.bool (is7 a)) := by
  exact Con.run Try.func16 (by kernel_rfl) rfl <|
    R.guard mixed 9 (decide (a ≥ 0)) (by kernel_rfl)
     (fun h0 =>
       R.finIs mixed Try.func16 (Value.bool (bif true then decide (a ≤ 7) else false)) (by kernel_rfl) (by congr 1; simp [is7] at *; try omega)
     )
     (fun h0 =>
       R.finIs mixed Try.func16 (Value.bool false) (by kernel_rfl) (by congr 1; simp [is7] at *; try omega)
     )

theorem c_deed7 {a : Int}  : Con Try.prog 59 [.int .i64 a] (.bool (is7 a)) := by
  exact Con.run Try.func59 (by kernel_rfl) rfl <|
    R.guard mixed 9 (decide (a ≥ 0)) (by kernel_rfl)
     (fun h0 =>
       R.finIs mixed Try.func59 (Value.bool (bif true then decide (a < 8) else false)) (by kernel_rfl) (by congr 1; simp [k7, is7, rel, kind2, hand, blendE] at *; first | omega | (split <;> omega) | (simp [*]; done) | (simp [*]; omega) | (rw [if_pos (by omega), if_pos (by omega)]) | (rw [if_pos (by omega), if_neg (by omega)]) | (rw [if_neg (by omega)]) | (repeat' split) <;> omega)
     )
     (fun h0 =>
       R.finIs mixed Try.func59 (Value.bool false) (by kernel_rfl) (by congr 1; simp [k7, is7, rel, kind2, hand, blendE] at *; first | omega | (split <;> omega) | (simp [*]; done) | (simp [*]; omega) | (rw [if_pos (by omega), if_pos (by omega)]) | (rw [if_pos (by omega), if_neg (by omega)]) | (rw [if_neg (by omega)]) | (repeat' split) <;> omega)
     )

theorem c_is8s {a : Int}  : Con Try.prog 60 [.int .i64 a] (.bool (is8 a)) := by
  exact Con.run Try.func60 (by kernel_rfl) rfl <|
    R.guard mixed 9 (decide (a ≥ 0)) (by kernel_rfl)
     (fun h0 =>
       R.finIs mixed Try.func60 (Value.bool (bif true then decide (a ≤ 255) else false)) (by kernel_rfl) (by congr 1; simp [is8] at *; try omega)
     )
     (fun h0 =>
       R.finIs mixed Try.func60 (Value.bool false) (by kernel_rfl) (by congr 1; simp [is8] at *; try omega)
     )

theorem c_kind2 {a : Int}  : Con Try.prog 43 [.int .i64 a] (.int .i64 (kind2 a)) := by
  exact Con.run Try.func43 (by kernel_rfl) rfl <|
    R.guard mixed 10 (decide (a < 0)) (by kernel_rfl)
     (fun h0 =>
       R.finIs mixed Try.func43 (Value.int IntKind.i64 9) (by kernel_rfl) (by congr 1; simp [k7, is7, rel, kind2, hand, blendE] at *; first | omega | (split <;> omega) | (simp [*]; done) | (simp [*]; omega) | (rw [if_pos (by omega), if_pos (by omega)]) | (rw [if_pos (by omega), if_neg (by omega)]) | (rw [if_neg (by omega)]) | (repeat' split) <;> omega)
     )
     (fun h0 =>
       R.branch mixed 4 (bif false then true else decide (a > 2)) (by kernel_rfl)
        (fun h1 =>
          R.finIs mixed Try.func43 (Value.int IntKind.i64 9) (by kernel_rfl) (by congr 1; simp [k7, is7, rel, kind2, hand, blendE] at *; first | omega | (split <;> omega) | (simp [*]; done) | (simp [*]; omega) | (rw [if_pos (by omega), if_pos (by omega)]) | (rw [if_pos (by omega), if_neg (by omega)]) | (rw [if_neg (by omega)]) | (repeat' split) <;> omega)
        )
        (fun h1 =>
          R.finIs mixed Try.func43 (Value.int IntKind.i64 0) (by kernel_rfl) (by congr 1; simp [k7, is7, rel, kind2, hand, blendE] at *; first | omega | (split <;> omega) | (simp [*]; done) | (simp [*]; omega) | (rw [if_pos (by omega), if_pos (by omega)]) | (rw [if_pos (by omega), if_neg (by omega)]) | (rw [if_neg (by omega)]) | (repeat' split) <;> omega)
        )
     )

theorem c_hand {a : Int}  : Con Try.prog 44 [.int .i64 a] (.int .i64 (hand a)) := by
  exact Con.run Try.func44 (by kernel_rfl) rfl <|
    R.guard mixed 10 (decide (a < 0)) (by kernel_rfl)
     (fun h0 =>
       R.finIs mixed Try.func44 (Value.int IntKind.i64 7) (by kernel_rfl) (by congr 1; simp [k7, is7, rel, kind2, hand, blendE] at *; first | omega | (split <;> omega) | (simp [*]; done) | (simp [*]; omega) | (rw [if_pos (by omega), if_pos (by omega)]) | (rw [if_pos (by omega), if_neg (by omega)]) | (rw [if_neg (by omega)]) | (repeat' split) <;> omega)
     )
     (fun h0 =>
       R.branch mixed 4 (bif false then true else decide (a > 64)) (by kernel_rfl)
        (fun h1 =>
          R.finIs mixed Try.func44 (Value.int IntKind.i64 7) (by kernel_rfl) (by congr 1; simp [k7, is7, rel, kind2, hand, blendE] at *; first | omega | (split <;> omega) | (simp [*]; done) | (simp [*]; omega) | (rw [if_pos (by omega), if_pos (by omega)]) | (rw [if_pos (by omega), if_neg (by omega)]) | (rw [if_neg (by omega)]) | (repeat' split) <;> omega)
        )
        (fun h1 =>
          R.finIs mixed Try.func44 (Value.int IntKind.i64 0) (by kernel_rfl) (by congr 1; simp [k7, is7, rel, kind2, hand, blendE] at *; first | omega | (split <;> omega) | (simp [*]; done) | (simp [*]; omega) | (rw [if_pos (by omega), if_pos (by omega)]) | (rw [if_pos (by omega), if_neg (by omega)]) | (rw [if_neg (by omega)]) | (repeat' split) <;> omega)
        )
     )

theorem c_blendE {a b c d : Int}  : Con Try.prog 42 [R4 a b c d] (.int .i64 (blendE a b c d)) := by
  exact Con.run Try.func42 (by kernel_rfl) rfl <|
    R.guard mixed 13 (decide (a < 0)) (by kernel_rfl)
     (fun h0 =>
       R.finIs mixed Try.func42 (Value.int IntKind.i64 9) (by kernel_rfl) (by congr 1; simp [k7, is7, rel, kind2, hand, blendE] at *; first | omega | (split <;> omega) | (simp [*]; done) | (simp [*]; omega) | (rw [if_pos (by omega), if_pos (by omega)]) | (rw [if_pos (by omega), if_neg (by omega)]) | (rw [if_neg (by omega)]) | (repeat' split) <;> omega)
     )
     (fun h0 =>
       R.guard mixed 5 (bif false then true else decide (a > 9)) (by kernel_rfl)
        (fun h1 =>
          R.finIs mixed Try.func42 (Value.int IntKind.i64 9) (by kernel_rfl) (by congr 1; simp [k7, is7, rel, kind2, hand, blendE] at *; first | omega | (split <;> omega) | (simp [*]; done) | (simp [*]; omega) | (rw [if_pos (by omega), if_pos (by omega)]) | (rw [if_pos (by omega), if_neg (by omega)]) | (rw [if_neg (by omega)]) | (repeat' split) <;> omega)
        )
        (fun h1 =>
          R.guard mixed 5 (bif false then true else decide (b < 0)) (by kernel_rfl)
           (fun h2 =>
             R.finIs mixed Try.func42 (Value.int IntKind.i64 9) (by kernel_rfl) (by congr 1; simp [k7, is7, rel, kind2, hand, blendE] at *; first | omega | (split <;> omega) | (simp [*]; done) | (simp [*]; omega) | (rw [if_pos (by omega), if_pos (by omega)]) | (rw [if_pos (by omega), if_neg (by omega)]) | (rw [if_neg (by omega)]) | (repeat' split) <;> omega)
           )
           (fun h2 =>
             R.guard mixed 5 (bif false then true else decide (b > 9)) (by kernel_rfl)
              (fun h3 =>
                R.finIs mixed Try.func42 (Value.int IntKind.i64 9) (by kernel_rfl) (by congr 1; simp [k7, is7, rel, kind2, hand, blendE] at *; first | omega | (split <;> omega) | (simp [*]; done) | (simp [*]; omega) | (rw [if_pos (by omega), if_pos (by omega)]) | (rw [if_pos (by omega), if_neg (by omega)]) | (rw [if_neg (by omega)]) | (repeat' split) <;> omega)
              )
              (fun h3 =>
                R.guard mixed 5 (bif false then true else decide (c < 0)) (by kernel_rfl)
                 (fun h4 =>
                   R.finIs mixed Try.func42 (Value.int IntKind.i64 9) (by kernel_rfl) (by congr 1; simp [k7, is7, rel, kind2, hand, blendE] at *; first | omega | (split <;> omega) | (simp [*]; done) | (simp [*]; omega) | (rw [if_pos (by omega), if_pos (by omega)]) | (rw [if_pos (by omega), if_neg (by omega)]) | (rw [if_neg (by omega)]) | (repeat' split) <;> omega)
                 )
                 (fun h4 =>
                   R.branch mixed 6 (bif false then true else decide (c > 4)) (by kernel_rfl)
                    (fun h5 =>
                      R.finIs mixed Try.func42 (Value.int IntKind.i64 9) (by kernel_rfl) (by congr 1; simp [k7, is7, rel, kind2, hand, blendE] at *; first | omega | (split <;> omega) | (simp [*]; done) | (simp [*]; omega) | (rw [if_pos (by omega), if_pos (by omega)]) | (rw [if_pos (by omega), if_neg (by omega)]) | (rw [if_neg (by omega)]) | (repeat' split) <;> omega)
                    )
                    (fun h5 =>
                      R.guard mixed 6 (decide (d < 0)) (by kernel_rfl)
                       (fun h6 =>
                         R.finIs mixed Try.func42 (Value.int IntKind.i64 3) (by kernel_rfl) (by congr 1; simp [k7, is7, rel, kind2, hand, blendE] at *; first | omega | (split <;> omega) | (simp [*]; done) | (simp [*]; omega) | (rw [if_pos (by omega), if_pos (by omega)]) | (rw [if_pos (by omega), if_neg (by omega)]) | (rw [if_neg (by omega)]) | (repeat' split) <;> omega)
                       )
                       (fun h6 =>
                         R.branch mixed 6 (bif false then true else decide (d > 15)) (by kernel_rfl)
                          (fun h7 =>
                            R.finIs mixed Try.func42 (Value.int IntKind.i64 3) (by kernel_rfl) (by congr 1; simp [k7, is7, rel, kind2, hand, blendE] at *; first | omega | (split <;> omega) | (simp [*]; done) | (simp [*]; omega) | (rw [if_pos (by omega), if_pos (by omega)]) | (rw [if_pos (by omega), if_neg (by omega)]) | (rw [if_neg (by omega)]) | (repeat' split) <;> omega)
                          )
                          (fun h7 =>
                            R.finIs mixed Try.func42 (Value.int IntKind.i64 0) (by kernel_rfl) (by congr 1; simp [k7, is7, rel, kind2, hand, blendE] at *; first | omega | (split <;> omega) | (simp [*]; done) | (simp [*]; omega) | (rw [if_pos (by omega), if_pos (by omega)]) | (rw [if_pos (by omega), if_neg (by omega)]) | (rw [if_neg (by omega)]) | (repeat' split) <;> omega)
                          )
                       )
                    )
                 )
              )
           )
        )
     )

theorem c_rblendE {a b c d : Int}  : Con Try.prog 18 [R4 a b c d] (.int .i64 (blendE a b c d)) := by
  exact Con.run Try.func18 (by kernel_rfl) rfl <|
    R.guard mixed 12 (decide (a < 0)) (by kernel_rfl)
     (fun h0 =>
       R.finIs mixed Try.func18 (Value.int IntKind.i64 9) (by kernel_rfl) (by congr 1; simp [k7, is7, rel, kind2, hand, blendE] at *; first | omega | (split <;> omega) | (simp [*]; done) | (simp [*]; omega) | (rw [if_pos (by omega), if_pos (by omega)]) | (rw [if_pos (by omega), if_neg (by omega)]) | (rw [if_neg (by omega)]) | (repeat' split) <;> omega)
     )
     (fun h0 =>
       R.guard mixed 5 (bif false then true else decide (a > 9)) (by kernel_rfl)
        (fun h1 =>
          R.finIs mixed Try.func18 (Value.int IntKind.i64 9) (by kernel_rfl) (by congr 1; simp [k7, is7, rel, kind2, hand, blendE] at *; first | omega | (split <;> omega) | (simp [*]; done) | (simp [*]; omega) | (rw [if_pos (by omega), if_pos (by omega)]) | (rw [if_pos (by omega), if_neg (by omega)]) | (rw [if_neg (by omega)]) | (repeat' split) <;> omega)
        )
        (fun h1 =>
          R.guard mixed 5 (bif false then true else decide (b < 0)) (by kernel_rfl)
           (fun h2 =>
             R.finIs mixed Try.func18 (Value.int IntKind.i64 9) (by kernel_rfl) (by congr 1; simp [k7, is7, rel, kind2, hand, blendE] at *; first | omega | (split <;> omega) | (simp [*]; done) | (simp [*]; omega) | (rw [if_pos (by omega), if_pos (by omega)]) | (rw [if_pos (by omega), if_neg (by omega)]) | (rw [if_neg (by omega)]) | (repeat' split) <;> omega)
           )
           (fun h2 =>
             R.guard mixed 5 (bif false then true else decide (b > 9)) (by kernel_rfl)
              (fun h3 =>
                R.finIs mixed Try.func18 (Value.int IntKind.i64 9) (by kernel_rfl) (by congr 1; simp [k7, is7, rel, kind2, hand, blendE] at *; first | omega | (split <;> omega) | (simp [*]; done) | (simp [*]; omega) | (rw [if_pos (by omega), if_pos (by omega)]) | (rw [if_pos (by omega), if_neg (by omega)]) | (rw [if_neg (by omega)]) | (repeat' split) <;> omega)
              )
              (fun h3 =>
                R.guard mixed 5 (bif false then true else decide (c < 0)) (by kernel_rfl)
                 (fun h4 =>
                   R.finIs mixed Try.func18 (Value.int IntKind.i64 9) (by kernel_rfl) (by congr 1; simp [k7, is7, rel, kind2, hand, blendE] at *; first | omega | (split <;> omega) | (simp [*]; done) | (simp [*]; omega) | (rw [if_pos (by omega), if_pos (by omega)]) | (rw [if_pos (by omega), if_neg (by omega)]) | (rw [if_neg (by omega)]) | (repeat' split) <;> omega)
                 )
                 (fun h4 =>
                   R.branch mixed 5 (bif false then true else decide (c > 4)) (by kernel_rfl)
                    (fun h5 =>
                      R.finIs mixed Try.func18 (Value.int IntKind.i64 9) (by kernel_rfl) (by congr 1; simp [k7, is7, rel, kind2, hand, blendE] at *; first | omega | (split <;> omega) | (simp [*]; done) | (simp [*]; omega) | (rw [if_pos (by omega), if_pos (by omega)]) | (rw [if_pos (by omega), if_neg (by omega)]) | (rw [if_neg (by omega)]) | (repeat' split) <;> omega)
                    )
                    (fun h5 =>
                      R.guard mixed 8 (decide (d < 0)) (by kernel_rfl)
                       (fun h6 =>
                         R.finIs mixed Try.func18 (Value.int IntKind.i64 3) (by kernel_rfl) (by congr 1; simp [k7, is7, rel, kind2, hand, blendE] at *; first | omega | (split <;> omega) | (simp [*]; done) | (simp [*]; omega) | (rw [if_pos (by omega), if_pos (by omega)]) | (rw [if_pos (by omega), if_neg (by omega)]) | (rw [if_neg (by omega)]) | (repeat' split) <;> omega)
                       )
                       (fun h6 =>
                         R.branch mixed 5 (bif false then true else decide (d > 15)) (by kernel_rfl)
                          (fun h7 =>
                            R.finIs mixed Try.func18 (Value.int IntKind.i64 3) (by kernel_rfl) (by congr 1; simp [k7, is7, rel, kind2, hand, blendE] at *; first | omega | (split <;> omega) | (simp [*]; done) | (simp [*]; omega) | (rw [if_pos (by omega), if_pos (by omega)]) | (rw [if_pos (by omega), if_neg (by omega)]) | (rw [if_neg (by omega)]) | (repeat' split) <;> omega)
                          )
                          (fun h7 =>
                            R.finIs mixed Try.func18 (Value.int IntKind.i64 0) (by kernel_rfl) (by congr 1; simp [k7, is7, rel, kind2, hand, blendE] at *; first | omega | (split <;> omega) | (simp [*]; done) | (simp [*]; omega) | (rw [if_pos (by omega), if_pos (by omega)]) | (rw [if_pos (by omega), if_neg (by omega)]) | (rw [if_neg (by omega)]) | (repeat' split) <;> omega)
                          )
                       )
                    )
                 )
              )
           )
        )
     )

theorem c_dnot {a : Int}  : Con Try.prog 58 [.int .i64 a] (.tuple ⟨[.int .i64 (not7 a), .int .i64 (k7 a)]⟩) := by
  exact Con.run Try.func58 (by kernel_rfl) rfl <|
    R.call mixed (show Con Try.prog 75 [Value.int IntKind.i64 a] (Value.int IntKind.i64 (k7 a)) from c_dcheck) (by kernel_rfl) <|
    R.branch mixed 7 (k7 a != 0) (by kernel_rfl)
     (fun h0 =>
       R.finIs mixed Try.func58 (Value.tuple ⟨[Value.int IntKind.i64 0, Value.int IntKind.i64 (k7 a)]⟩) (by kernel_rfl) (by cases h7 : is7 a <;> simp_all [k7, not7, passB])
     )
     (fun h0 =>
       R.finIs mixed Try.func58 (Value.tuple ⟨[Value.int IntKind.i64 (IntKind.i64.wrap ↑(BitVec.ofInt 64 7 &&& ~~~BitVec.ofInt 64 a).toNat), Value.int IntKind.i64 0]⟩) (by kernel_rfl) (by cases h7 : is7 a <;> simp_all [k7, not7, passB])
     )

theorem c_test7 {a : Int}  : Con Try.prog 40 [.int .i64 a] (.int .i64 (k7 a)) := by
  exact Con.run Try.func40 (by kernel_rfl) rfl <|
    R.call mixed (show Con Try.prog 58 [Value.int IntKind.i64 a] (Value.tuple ⟨[Value.int IntKind.i64 (not7 a), Value.int IntKind.i64 (k7 a)]⟩) from c_dnot) (by kernel_rfl) <|
    R.finIs mixed Try.func40 (Value.int IntKind.i64 (k7 a)) (by kernel_rfl) (by rfl)

theorem c_stenE {a b c d e f g : Int}  : Con Try.prog 41 [S7 a b c d e f g] (.int .i64 (stenE a b c d e f g)) := by
  exact Con.run Try.func41 (by kernel_rfl) rfl <|
    R.guard mixed 13 (decide (a < 0)) (by kernel_rfl)
     (fun h0 =>
       R.finIs mixed Try.func41 (Value.int IntKind.i64 9) (by kernel_rfl) (by first | (congr 1; simp_all [stenE]; done) | (congr 1; cases h7 : is7 a <;> simp_all [stenE] <;> simp [is7] at h7 <;> omega))
     )
     (fun h0 =>
       R.guard mixed 5 (bif false then true else decide (a > 7)) (by kernel_rfl)
        (fun h1 =>
          R.finIs mixed Try.func41 (Value.int IntKind.i64 9) (by kernel_rfl) (by first | (congr 1; simp_all [stenE]; done) | (congr 1; cases h7 : is7 a <;> simp_all [stenE] <;> simp [is7] at h7 <;> omega))
        )
        (fun h1 =>
          R.call mixed (show Con Try.prog 59 [Value.int IntKind.i64 e] (Value.bool (is7 e)) from c_deed7) (by kernel_rfl) <|
          R.guard mixed 3 (bif false then true else !is7 e) (by kernel_rfl)
           (fun h2 =>
             R.finIs mixed Try.func41 (Value.int IntKind.i64 9) (by kernel_rfl) (by first | (congr 1; simp_all [stenE]; done) | (congr 1; cases h7 : is7 a <;> simp_all [stenE] <;> simp [is7] at h7 <;> omega))
           )
           (fun h2 =>
             R.call mixed (show Con Try.prog 59 [Value.int IntKind.i64 f] (Value.bool (is7 f)) from c_deed7) (by kernel_rfl) <|
             R.guard mixed 3 (bif false then true else !is7 f) (by kernel_rfl)
              (fun h3 =>
                R.finIs mixed Try.func41 (Value.int IntKind.i64 9) (by kernel_rfl) (by first | (congr 1; simp_all [stenE]; done) | (congr 1; cases h7 : is7 a <;> simp_all [stenE] <;> simp [is7] at h7 <;> omega))
              )
              (fun h3 =>
                R.call mixed (show Con Try.prog 59 [Value.int IntKind.i64 g] (Value.bool (is7 g)) from c_deed7) (by kernel_rfl) <|
                R.branch mixed 4 (bif false then true else !is7 g) (by kernel_rfl)
                 (fun h4 =>
                   R.finIs mixed Try.func41 (Value.int IntKind.i64 9) (by kernel_rfl) (by first | (congr 1; simp_all [stenE]; done) | (congr 1; cases h7 : is7 a <;> simp_all [stenE] <;> simp [is7] at h7 <;> omega))
                 )
                 (fun h4 =>
                   R.call mixed (show Con Try.prog 60 [Value.int IntKind.i64 b] (Value.bool (is8 b)) from c_is8s) (by kernel_rfl) <|
                   R.guard mixed 2 (!is8 b) (by kernel_rfl)
                    (fun h5 =>
                      R.finIs mixed Try.func41 (Value.int IntKind.i64 3) (by kernel_rfl) (by first | (congr 1; simp_all [stenE]; done) | (congr 1; cases h7 : is7 a <;> simp_all [stenE] <;> simp [is7] at h7 <;> omega))
                    )
                    (fun h5 =>
                      R.call mixed (show Con Try.prog 60 [Value.int IntKind.i64 c] (Value.bool (is8 c)) from c_is8s) (by kernel_rfl) <|
                      R.guard mixed 3 (bif false then true else !is8 c) (by kernel_rfl)
                       (fun h6 =>
                         R.finIs mixed Try.func41 (Value.int IntKind.i64 3) (by kernel_rfl) (by first | (congr 1; simp_all [stenE]; done) | (congr 1; cases h7 : is7 a <;> simp_all [stenE] <;> simp [is7] at h7 <;> omega))
                       )
                       (fun h6 =>
                         R.call mixed (show Con Try.prog 60 [Value.int IntKind.i64 d] (Value.bool (is8 d)) from c_is8s) (by kernel_rfl) <|
                         R.branch mixed 4 (bif false then true else !is8 d) (by kernel_rfl)
                          (fun h7 =>
                            R.finIs mixed Try.func41 (Value.int IntKind.i64 3) (by kernel_rfl) (by first | (congr 1; simp_all [stenE]; done) | (congr 1; cases h7 : is7 a <;> simp_all [stenE] <;> simp [is7] at h7 <;> omega))
                          )
                          (fun h7 =>
                            R.finIs mixed Try.func41 (Value.int IntKind.i64 0) (by kernel_rfl) (by first | (congr 1; simp_all [stenE]; done) | (congr 1; cases h7 : is7 a <;> simp_all [stenE] <;> simp [is7] at h7 <;> omega))
                          )
                       )
                    )
                 )
              )
           )
        )
     )

theorem c_rstenE {a b c d e f g : Int}  : Con Try.prog 17 [S7 a b c d e f g] (.int .i64 (stenE a b c d e f g)) := by
  exact Con.run Try.func17 (by kernel_rfl) rfl <|
    R.call mixed (show Con Try.prog 16 [Value.int IntKind.i64 a] (Value.bool (is7 a)) from c_r7) (by kernel_rfl) <|
    R.guard mixed 2 (!is7 a) (by kernel_rfl)
     (fun h0 =>
       R.finIs mixed Try.func17 (Value.int IntKind.i64 9) (by kernel_rfl) (by first | (congr 1; simp_all [stenE]; done) | (congr 1; cases h7 : is7 a <;> simp_all [stenE] <;> simp [is7] at h7 <;> omega))
     )
     (fun h0 =>
       R.call mixed (show Con Try.prog 16 [Value.int IntKind.i64 e] (Value.bool (is7 e)) from c_r7) (by kernel_rfl) <|
       R.guard mixed 3 (bif false then true else !is7 e) (by kernel_rfl)
        (fun h1 =>
          R.finIs mixed Try.func17 (Value.int IntKind.i64 9) (by kernel_rfl) (by first | (congr 1; simp_all [stenE]; done) | (congr 1; cases h7 : is7 a <;> simp_all [stenE] <;> simp [is7] at h7 <;> omega))
        )
        (fun h1 =>
          R.call mixed (show Con Try.prog 16 [Value.int IntKind.i64 f] (Value.bool (is7 f)) from c_r7) (by kernel_rfl) <|
          R.guard mixed 3 (bif false then true else !is7 f) (by kernel_rfl)
           (fun h2 =>
             R.finIs mixed Try.func17 (Value.int IntKind.i64 9) (by kernel_rfl) (by first | (congr 1; simp_all [stenE]; done) | (congr 1; cases h7 : is7 a <;> simp_all [stenE] <;> simp [is7] at h7 <;> omega))
           )
           (fun h2 =>
             R.call mixed (show Con Try.prog 16 [Value.int IntKind.i64 g] (Value.bool (is7 g)) from c_r7) (by kernel_rfl) <|
             R.branch mixed 3 (bif false then true else !is7 g) (by kernel_rfl)
              (fun h3 =>
                R.finIs mixed Try.func17 (Value.int IntKind.i64 9) (by kernel_rfl) (by first | (congr 1; simp_all [stenE]; done) | (congr 1; cases h7 : is7 a <;> simp_all [stenE] <;> simp [is7] at h7 <;> omega))
              )
              (fun h3 =>
                R.call mixed (show Con Try.prog 32 [Value.int IntKind.i64 b] (Value.bool (is8 b)) from c_is8b _) (by kernel_rfl) <|
                R.guard mixed 2 (!is8 b) (by kernel_rfl)
                 (fun h4 =>
                   R.finIs mixed Try.func17 (Value.int IntKind.i64 3) (by kernel_rfl) (by first | (congr 1; simp_all [stenE]; done) | (congr 1; cases h7 : is7 a <;> simp_all [stenE] <;> simp [is7] at h7 <;> omega))
                 )
                 (fun h4 =>
                   R.call mixed (show Con Try.prog 32 [Value.int IntKind.i64 c] (Value.bool (is8 c)) from c_is8b _) (by kernel_rfl) <|
                   R.guard mixed 3 (bif false then true else !is8 c) (by kernel_rfl)
                    (fun h5 =>
                      R.finIs mixed Try.func17 (Value.int IntKind.i64 3) (by kernel_rfl) (by first | (congr 1; simp_all [stenE]; done) | (congr 1; cases h7 : is7 a <;> simp_all [stenE] <;> simp [is7] at h7 <;> omega))
                    )
                    (fun h5 =>
                      R.call mixed (show Con Try.prog 32 [Value.int IntKind.i64 d] (Value.bool (is8 d)) from c_is8b _) (by kernel_rfl) <|
                      R.branch mixed 3 (bif false then true else !is8 d) (by kernel_rfl)
                       (fun h6 =>
                         R.finIs mixed Try.func17 (Value.int IntKind.i64 3) (by kernel_rfl) (by first | (congr 1; simp_all [stenE]; done) | (congr 1; cases h7 : is7 a <;> simp_all [stenE] <;> simp [is7] at h7 <;> omega))
                       )
                       (fun h6 =>
                         R.finIs mixed Try.func17 (Value.int IntKind.i64 0) (by kernel_rfl) (by first | (congr 1; simp_all [stenE]; done) | (congr 1; cases h7 : is7 a <;> simp_all [stenE] <;> simp [is7] at h7 <;> omega))
                       )
                    )
                 )
              )
           )
        )
     )

theorem c_rsat3 {a b c : Int}  : Con Try.prog 28 [.int .i64 a, .int .i64 b, .int .i64 c] (.int .i64 (sat a b c)) := by
  exact Con.run Try.func28 (by kernel_rfl) rfl <|
    R.branch mixed 11 (decide (a < b)) (by kernel_rfl)
     (fun h0 =>
       R.finIs mixed Try.func28 (Value.int IntKind.i64 b) (by kernel_rfl) (by congr 1; simp [sat] at *; first | (simp [*]; done) | (split <;> first | omega | (split <;> omega)) | omega)
     )
     (fun h0 =>
       R.branch mixed 8 (decide (a > c)) (by kernel_rfl)
        (fun h1 =>
          R.finIs mixed Try.func28 (Value.int IntKind.i64 c) (by kernel_rfl) (by congr 1; simp [sat] at *; first | (simp [*]; done) | (split <;> first | omega | (split <;> omega)) | omega)
        )
        (fun h1 =>
          R.finIs mixed Try.func28 (Value.int IntKind.i64 a) (by kernel_rfl) (by congr 1; simp [sat] at *; first | (simp [*]; done) | (split <;> first | omega | (split <;> omega)) | omega)
        )
     )

theorem c_apply0 {m0 m1 m2 m3 m4 m5 m6 m7 m8 m9 m10 m11 m12 m13 m14 m15 : Int}  : Con Try.prog 57 [M16 m0 m1 m2 m3 m4 m5 m6 m7 m8 m9 m10 m11 m12 m13 m14 m15, R4 0 0 0 0] (.tuple ⟨[R4 0 0 0 0, .int .i64 (bif mayM m0 m1 m2 m3 m4 m5 m6 m7 m8 m9 m10 m11 m12 m13 m14 m15 then 0 else 3)]⟩) := by
  exact Con.run Try.func57 (by kernel_rfl) rfl <|
    R.call mixed (show Con Try.prog 72 [Value.agg ⟨[Value.int IntKind.i64 0, Value.int IntKind.i64 0, Value.int IntKind.i64 0, Value.int IntKind.i64 0]⟩] (Value.agg ⟨[Value.int IntKind.i64 0, Value.int IntKind.i64 0, Value.int IntKind.i64 0, Value.int IntKind.i64 0]⟩) from c_list0) (by kernel_rfl) <|
    R.call mixed (show Con Try.prog 73 [Value.agg ⟨[Value.int IntKind.i64 m0, Value.int IntKind.i64 m1, Value.int IntKind.i64 m2, Value.int IntKind.i64 m3, Value.int IntKind.i64 m4, Value.int IntKind.i64 m5, Value.int IntKind.i64 m6, Value.int IntKind.i64 m7, Value.int IntKind.i64 m8, Value.int IntKind.i64 m9, Value.int IntKind.i64 m10, Value.int IntKind.i64 m11, Value.int IntKind.i64 m12, Value.int IntKind.i64 m13, Value.int IntKind.i64 m14, Value.int IntKind.i64 m15]⟩] (Value.bool (mayM m0 m1 m2 m3 m4 m5 m6 m7 m8 m9 m10 m11 m12 m13 m14 m15)) from c_mayM) (by kernel_rfl) <|
    R.guard mixed 2 (!mayM m0 m1 m2 m3 m4 m5 m6 m7 m8 m9 m10 m11 m12 m13 m14 m15) (by kernel_rfl)
     (fun h0 =>
       R.finIs mixed Try.func57 (Value.tuple ⟨[Value.agg (List.take 4 (List.drop 0 [Value.int IntKind.i64 0, Value.int IntKind.i64 0, Value.int IntKind.i64 0, Value.int IntKind.i64 0])).toArray, Value.int IntKind.i64 3]⟩) (by kernel_rfl) (by simp_all [wr0])
     )
     (fun h0 =>
       R.call mixed (show Con Try.prog 74 [Value.int IntKind.i64 0, Value.int IntKind.i64 1073741824] (Value.bool true) from c_w30z) (by kernel_rfl) <|
       R.call mixed (show Con Try.prog 74 [Value.int IntKind.i64 0, Value.int IntKind.i64 1073741824] (Value.bool true) from c_w30z) (by kernel_rfl) <|
       R.call mixed (show Con Try.prog 74 [Value.int IntKind.i64 0, Value.int IntKind.i64 1073741824] (Value.bool true) from c_w30z) (by kernel_rfl) <|
       R.call mixed (show Con Try.prog 74 [Value.int IntKind.i64 0, Value.int IntKind.i64 1073741824] (Value.bool true) from c_w30z) (by kernel_rfl) <|
       R.finIs mixed Try.func57 (Value.tuple ⟨[Value.agg (List.take 4 (List.drop 0 [Value.int IntKind.i64 ((IntKind.i64.wrap (IntKind.i64.wrap (IntKind.i64.wrap (IntKind.i64.wrap (0 + IntKind.i64.wrap (m0 * 0)) + IntKind.i64.wrap (m1 * 0)) + IntKind.i64.wrap (m2 * 0)) + IntKind.i64.wrap (m3 * 0))).fdiv 65536), Value.int IntKind.i64 ((IntKind.i64.wrap (IntKind.i64.wrap (IntKind.i64.wrap (IntKind.i64.wrap (0 + IntKind.i64.wrap (m4 * 0)) + IntKind.i64.wrap (m5 * 0)) + IntKind.i64.wrap (m6 * 0)) + IntKind.i64.wrap (m7 * 0))).fdiv 65536), Value.int IntKind.i64 ((IntKind.i64.wrap (IntKind.i64.wrap (IntKind.i64.wrap (IntKind.i64.wrap (0 + IntKind.i64.wrap (m8 * 0)) + IntKind.i64.wrap (m9 * 0)) + IntKind.i64.wrap (m10 * 0)) + IntKind.i64.wrap (m11 * 0))).fdiv 65536), Value.int IntKind.i64 ((IntKind.i64.wrap (IntKind.i64.wrap (IntKind.i64.wrap (IntKind.i64.wrap (0 + IntKind.i64.wrap (m12 * 0)) + IntKind.i64.wrap (m13 * 0)) + IntKind.i64.wrap (m14 * 0)) + IntKind.i64.wrap (m15 * 0))).fdiv 65536)])).toArray, Value.int IntKind.i64 0]⟩) (by kernel_rfl) (by simp_all [wr0])
     )

end

section
open Go Go.Dt Go.Proofs
set_option linter.unusedVariables false
set_option linter.unusedSimpArgs false

abbrev ST (m0 m1 m2 m3 m4 m5 m6 m7 m8 m9 m10 m11 m12 m13 m14 m15 v0 v1 v2 v3 t0 t1 t2 t3 df : Int) (dp : Bool) (s0 s1 s2 s3 s4 s5 s6 b0 b1 b2 b3 cu tx wr : Int) (so : Bool) : Value := .agg ⟨[.int .i64 m0, .int .i64 m1, .int .i64 m2, .int .i64 m3, .int .i64 m4, .int .i64 m5, .int .i64 m6, .int .i64 m7, .int .i64 m8, .int .i64 m9, .int .i64 m10, .int .i64 m11, .int .i64 m12, .int .i64 m13, .int .i64 m14, .int .i64 m15, .int .i64 v0, .int .i64 v1, .int .i64 v2, .int .i64 v3, .int .i64 t0, .int .i64 t1, .int .i64 t2, .int .i64 t3, .int .i64 df, .bool dp, .int .i64 s0, .int .i64 s1, .int .i64 s2, .int .i64 s3, .int .i64 s4, .int .i64 s5, .int .i64 s6, .int .i64 b0, .int .i64 b1, .int .i64 b2, .int .i64 b3, .int .i64 cu, .int .i64 tx, .int .i64 wr, .bool so]⟩
def first9 (e0 e1 e2 e3 e4 e5 e6 e7 e8 : Int) : Int := if e0 ≠ 0 then e0 else if e1 ≠ 0 then e1 else if e2 ≠ 0 then e2 else if e3 ≠ 0 then e3 else if e4 ≠ 0 then e4 else if e5 ≠ 0 then e5 else if e6 ≠ 0 then e6 else if e7 ≠ 0 then e7 else if e8 ≠ 0 then e8 else 0
def matE (m0 m1 m2 m3 m4 m5 m6 m7 m8 m9 m10 m11 m12 m13 m14 m15 : Int) : Int := bif mayM m0 m1 m2 m3 m4 m5 m6 m7 m8 m9 m10 m11 m12 m13 m14 m15 then 0 else 11
def mat3 (m0 m1 m2 m3 m4 m5 m6 m7 m8 m9 m10 m11 m12 m13 m14 m15 : Int) : Int := bif mayM m0 m1 m2 m3 m4 m5 m6 m7 m8 m9 m10 m11 m12 m13 m14 m15 then 0 else 3
def viewE (a b c d : Int) : Int := if viewP a b c d then 0 else 12
def stE (m0 m1 m2 m3 m4 m5 m6 m7 m8 m9 m10 m11 m12 m13 m14 m15 v0 v1 v2 v3 t0 t1 t2 t3 df s0 s1 s2 s3 s4 s5 s6 b0 b1 b2 b3 cu tx wr : Int) : Int := first9 (matE m0 m1 m2 m3 m4 m5 m6 m7 m8 m9 m10 m11 m12 m13 m14 m15) (viewE v0 v1 v2 v3) (viewE t0 t1 t2 t3) (k7 df) (stenE s0 s1 s2 s3 s4 s5 s6) (blendE b0 b1 b2 b3) (kind2 cu) (hand tx) (kind2 wr)

theorem c_matrix {m0 m1 m2 m3 m4 m5 m6 m7 m8 m9 m10 m11 m12 m13 m14 m15 : Int}  : Con Try.prog 38 [M16 m0 m1 m2 m3 m4 m5 m6 m7 m8 m9 m10 m11 m12 m13 m14 m15] (.int .i64 (matE m0 m1 m2 m3 m4 m5 m6 m7 m8 m9 m10 m11 m12 m13 m14 m15)) := by
  exact Con.run Try.func38 (by kernel_rfl) rfl <|
    R.call mixed (show Con Try.prog 57 [Value.agg ⟨[Value.int IntKind.i64 m0, Value.int IntKind.i64 m1, Value.int IntKind.i64 m2, Value.int IntKind.i64 m3, Value.int IntKind.i64 m4, Value.int IntKind.i64 m5, Value.int IntKind.i64 m6, Value.int IntKind.i64 m7, Value.int IntKind.i64 m8, Value.int IntKind.i64 m9, Value.int IntKind.i64 m10, Value.int IntKind.i64 m11, Value.int IntKind.i64 m12, Value.int IntKind.i64 m13, Value.int IntKind.i64 m14, Value.int IntKind.i64 m15]⟩, Value.agg ⟨[Value.int IntKind.i64 0, Value.int IntKind.i64 0, Value.int IntKind.i64 0, Value.int IntKind.i64 0]⟩] (Value.tuple ⟨[R4 0 0 0 0, Value.int IntKind.i64 (mat3 m0 m1 m2 m3 m4 m5 m6 m7 m8 m9 m10 m11 m12 m13 m14 m15)]⟩) from c_apply0) (by kernel_rfl) <|
    R.branch mixed 12 (mat3 m0 m1 m2 m3 m4 m5 m6 m7 m8 m9 m10 m11 m12 m13 m14 m15 != 0) (by kernel_rfl)
     (fun h0 =>
       R.finIs mixed Try.func38 (Value.int IntKind.i64 11) (by kernel_rfl) (by cases hm : mayM m0 m1 m2 m3 m4 m5 m6 m7 m8 m9 m10 m11 m12 m13 m14 m15 <;> simp_all [matE, mat3])
     )
     (fun h0 =>
       R.finIs mixed Try.func38 (Value.int IntKind.i64 0) (by kernel_rfl) (by cases hm : mayM m0 m1 m2 m3 m4 m5 m6 m7 m8 m9 m10 m11 m12 m13 m14 m15 <;> simp_all [matE, mat3])
     )

theorem c_first {e0 e1 e2 e3 e4 e5 e6 e7 e8 : Int}  : ConM Try.prog 37 [.slice (some ⟨0, 0, none⟩) 9 9] [.cells [.int .i64 e0, .int .i64 e1, .int .i64 e2, .int .i64 e3, .int .i64 e4, .int .i64 e5, .int .i64 e6, .int .i64 e7, .int .i64 e8] 0 false] (.int .i64 (first9 e0 e1 e2 e3 e4 e5 e6 e7 e8)) (List.replicate 1 .gone) := by
  exact ConM.reads Try.func37 (by kernel_rfl) rfl <|
    R.branch mixed 33 (e0 != 0) (by kernel_rfl)
     (fun h0 =>
       R.finIs mixed Try.func37 (Value.int IntKind.i64 e0) (by kernel_rfl) (by simp_all [first9])
     )
     (fun h0 =>
       R.branch mixed 27 (e1 != 0) (by kernel_rfl)
        (fun h1 =>
          R.finIs mixed Try.func37 (Value.int IntKind.i64 e1) (by kernel_rfl) (by simp_all [first9])
        )
        (fun h1 =>
          R.branch mixed 27 (e2 != 0) (by kernel_rfl)
           (fun h2 =>
             R.finIs mixed Try.func37 (Value.int IntKind.i64 e2) (by kernel_rfl) (by simp_all [first9])
           )
           (fun h2 =>
             R.branch mixed 27 (e3 != 0) (by kernel_rfl)
              (fun h3 =>
                R.finIs mixed Try.func37 (Value.int IntKind.i64 e3) (by kernel_rfl) (by simp_all [first9])
              )
              (fun h3 =>
                R.branch mixed 27 (e4 != 0) (by kernel_rfl)
                 (fun h4 =>
                   R.finIs mixed Try.func37 (Value.int IntKind.i64 e4) (by kernel_rfl) (by simp_all [first9])
                 )
                 (fun h4 =>
                   R.branch mixed 27 (e5 != 0) (by kernel_rfl)
                    (fun h5 =>
                      R.finIs mixed Try.func37 (Value.int IntKind.i64 e5) (by kernel_rfl) (by simp_all [first9])
                    )
                    (fun h5 =>
                      R.branch mixed 27 (e6 != 0) (by kernel_rfl)
                       (fun h6 =>
                         R.finIs mixed Try.func37 (Value.int IntKind.i64 e6) (by kernel_rfl) (by simp_all [first9])
                       )
                       (fun h6 =>
                         R.branch mixed 27 (e7 != 0) (by kernel_rfl)
                          (fun h7 =>
                            R.finIs mixed Try.func37 (Value.int IntKind.i64 e7) (by kernel_rfl) (by simp_all [first9])
                          )
                          (fun h7 =>
                            R.branch mixed 27 (e8 != 0) (by kernel_rfl)
                             (fun h8 =>
                               R.finIs mixed Try.func37 (Value.int IntKind.i64 e8) (by kernel_rfl) (by simp_all [first9])
                             )
                             (fun h8 =>
                               R.finIs mixed Try.func37 (Value.int IntKind.i64 0) (by kernel_rfl) (by simp_all [first9])
                             )
                          )
                       )
                    )
                 )
              )
           )
        )
     )

theorem c_check {m0 m1 m2 m3 m4 m5 m6 m7 m8 m9 m10 m11 m12 m13 m14 m15 v0 v1 v2 v3 t0 t1 t2 t3 df : Int} {dp : Bool} {s0 s1 s2 s3 s4 s5 s6 b0 b1 b2 b3 cu tx wr : Int} {so : Bool}  : Con Try.prog 22 [ST m0 m1 m2 m3 m4 m5 m6 m7 m8 m9 m10 m11 m12 m13 m14 m15 v0 v1 v2 v3 t0 t1 t2 t3 df dp s0 s1 s2 s3 s4 s5 s6 b0 b1 b2 b3 cu tx wr so] (.int .i64 (stE m0 m1 m2 m3 m4 m5 m6 m7 m8 m9 m10 m11 m12 m13 m14 m15 v0 v1 v2 v3 t0 t1 t2 t3 df s0 s1 s2 s3 s4 s5 s6 b0 b1 b2 b3 cu tx wr)) := by
  exact Con.run Try.func22 (by kernel_rfl) rfl <|
    R.call mixed (show Con Try.prog 38 [Value.agg ⟨[Value.int IntKind.i64 m0, Value.int IntKind.i64 m1, Value.int IntKind.i64 m2, Value.int IntKind.i64 m3, Value.int IntKind.i64 m4, Value.int IntKind.i64 m5, Value.int IntKind.i64 m6, Value.int IntKind.i64 m7, Value.int IntKind.i64 m8, Value.int IntKind.i64 m9, Value.int IntKind.i64 m10, Value.int IntKind.i64 m11, Value.int IntKind.i64 m12, Value.int IntKind.i64 m13, Value.int IntKind.i64 m14, Value.int IntKind.i64 m15]⟩] (Value.int IntKind.i64 (matE m0 m1 m2 m3 m4 m5 m6 m7 m8 m9 m10 m11 m12 m13 m14 m15)) from c_matrix) (by kernel_rfl) <|
    R.call mixed (show Con Try.prog 39 [Value.agg ⟨[Value.int IntKind.i64 v0, Value.int IntKind.i64 v1, Value.int IntKind.i64 v2, Value.int IntKind.i64 v3]⟩] (Value.int IntKind.i64 (viewE v0 v1 v2 v3)) from c_view) (by kernel_rfl) <|
    R.call mixed (show Con Try.prog 39 [Value.agg ⟨[Value.int IntKind.i64 t0, Value.int IntKind.i64 t1, Value.int IntKind.i64 t2, Value.int IntKind.i64 t3]⟩] (Value.int IntKind.i64 (viewE t0 t1 t2 t3)) from c_view) (by kernel_rfl) <|
    R.call mixed (show Con Try.prog 40 [Value.int IntKind.i64 df] (Value.int IntKind.i64 (k7 df)) from c_test7) (by kernel_rfl) <|
    R.call mixed (show Con Try.prog 41 [Value.agg ⟨[Value.int IntKind.i64 s0, Value.int IntKind.i64 s1, Value.int IntKind.i64 s2, Value.int IntKind.i64 s3, Value.int IntKind.i64 s4, Value.int IntKind.i64 s5, Value.int IntKind.i64 s6]⟩] (Value.int IntKind.i64 (stenE s0 s1 s2 s3 s4 s5 s6)) from c_stenE) (by kernel_rfl) <|
    R.call mixed (show Con Try.prog 42 [Value.agg ⟨[Value.int IntKind.i64 b0, Value.int IntKind.i64 b1, Value.int IntKind.i64 b2, Value.int IntKind.i64 b3]⟩] (Value.int IntKind.i64 (blendE b0 b1 b2 b3)) from c_blendE) (by kernel_rfl) <|
    R.call mixed (show Con Try.prog 43 [Value.int IntKind.i64 cu] (Value.int IntKind.i64 (kind2 cu)) from c_kind2) (by kernel_rfl) <|
    R.call mixed (show Con Try.prog 44 [Value.int IntKind.i64 tx] (Value.int IntKind.i64 (hand tx)) from c_hand) (by kernel_rfl) <|
    R.call mixed (show Con Try.prog 43 [Value.int IntKind.i64 wr] (Value.int IntKind.i64 (kind2 wr)) from c_kind2) (by kernel_rfl) <|
    R.callM mixed ([.win 1 0 9 false]) (c_first (e0 := matE m0 m1 m2 m3 m4 m5 m6 m7 m8 m9 m10 m11 m12 m13 m14 m15) (e1 := viewE v0 v1 v2 v3) (e2 := viewE t0 t1 t2 t3) (e3 := k7 df) (e4 := stenE s0 s1 s2 s3 s4 s5 s6) (e5 := blendE b0 b1 b2 b3) (e6 := kind2 cu) (e7 := hand tx) (e8 := kind2 wr)) (by kernel_rfl) (by kernel_rfl) rfl <|
    R.finIs mixed Try.func22 (Value.int IntKind.i64 (first9 (matE m0 m1 m2 m3 m4 m5 m6 m7 m8 m9 m10 m11 m12 m13 m14 m15) (viewE v0 v1 v2 v3) (viewE t0 t1 t2 t3) (k7 df) (stenE s0 s1 s2 s3 s4 s5 s6) (blendE b0 b1 b2 b3) (kind2 cu) (hand tx) (kind2 wr))) (by kernel_rfl) (by rfl)

theorem c_rcheck {m0 m1 m2 m3 m4 m5 m6 m7 m8 m9 m10 m11 m12 m13 m14 m15 v0 v1 v2 v3 t0 t1 t2 t3 df : Int} {dp : Bool} {s0 s1 s2 s3 s4 s5 s6 b0 b1 b2 b3 cu tx wr : Int} {so : Bool}  : Con Try.prog 5 [ST m0 m1 m2 m3 m4 m5 m6 m7 m8 m9 m10 m11 m12 m13 m14 m15 v0 v1 v2 v3 t0 t1 t2 t3 df dp s0 s1 s2 s3 s4 s5 s6 b0 b1 b2 b3 cu tx wr so] (.int .i64 (stE m0 m1 m2 m3 m4 m5 m6 m7 m8 m9 m10 m11 m12 m13 m14 m15 v0 v1 v2 v3 t0 t1 t2 t3 df s0 s1 s2 s3 s4 s5 s6 b0 b1 b2 b3 cu tx wr)) := by
  exact Con.run Try.func5 (by kernel_rfl) rfl <|
    R.call mixed (show Con Try.prog 14 [Value.agg ⟨[Value.int IntKind.i64 m0, Value.int IntKind.i64 m1, Value.int IntKind.i64 m2, Value.int IntKind.i64 m3, Value.int IntKind.i64 m4, Value.int IntKind.i64 m5, Value.int IntKind.i64 m6, Value.int IntKind.i64 m7, Value.int IntKind.i64 m8, Value.int IntKind.i64 m9, Value.int IntKind.i64 m10, Value.int IntKind.i64 m11, Value.int IntKind.i64 m12, Value.int IntKind.i64 m13, Value.int IntKind.i64 m14, Value.int IntKind.i64 m15]⟩] (Value.bool (mayM m0 m1 m2 m3 m4 m5 m6 m7 m8 m9 m10 m11 m12 m13 m14 m15)) from c_rmayM) (by kernel_rfl) <|
    R.branch mixed 2 (!mayM m0 m1 m2 m3 m4 m5 m6 m7 m8 m9 m10 m11 m12 m13 m14 m15) (by kernel_rfl)
     (fun h0 =>
       R.finIs mixed Try.func5 (Value.int IntKind.i64 11) (by kernel_rfl) (by first | (simp_all [stE, first9, matE, viewE, k7, kind2, hand]; done) | (simp_all [stE, first9, matE, viewE, k7, kind2, hand]; (repeat' split) <;> omega))
     )
     (fun h0 =>
       R.call mixed (show Con Try.prog 15 [Value.agg ⟨[Value.int IntKind.i64 v0, Value.int IntKind.i64 v1, Value.int IntKind.i64 v2, Value.int IntKind.i64 v3]⟩] (Value.bool (decide (viewP v0 v1 v2 v3))) from c_rview) (by kernel_rfl) <|
       R.guard mixed 2 (!decide (viewP v0 v1 v2 v3)) (by kernel_rfl)
        (fun h1 =>
          R.finIs mixed Try.func5 (Value.int IntKind.i64 12) (by kernel_rfl) (by first | (simp_all [stE, first9, matE, viewE, k7, kind2, hand]; done) | (simp_all [stE, first9, matE, viewE, k7, kind2, hand]; (repeat' split) <;> omega))
        )
        (fun h1 =>
          R.call mixed (show Con Try.prog 15 [Value.agg ⟨[Value.int IntKind.i64 t0, Value.int IntKind.i64 t1, Value.int IntKind.i64 t2, Value.int IntKind.i64 t3]⟩] (Value.bool (decide (viewP t0 t1 t2 t3))) from c_rview) (by kernel_rfl) <|
          R.branch mixed 3 (bif false then true else !decide (viewP t0 t1 t2 t3)) (by kernel_rfl)
           (fun h2 =>
             R.finIs mixed Try.func5 (Value.int IntKind.i64 12) (by kernel_rfl) (by first | (simp_all [stE, first9, matE, viewE, k7, kind2, hand]; done) | (simp_all [stE, first9, matE, viewE, k7, kind2, hand]; (repeat' split) <;> omega))
           )
           (fun h2 =>
             R.call mixed (show Con Try.prog 16 [Value.int IntKind.i64 df] (Value.bool (is7 df)) from c_r7) (by kernel_rfl) <|
             R.branch mixed 2 (!is7 df) (by kernel_rfl)
              (fun h3 =>
                R.finIs mixed Try.func5 (Value.int IntKind.i64 9) (by kernel_rfl) (by first | (simp_all [stE, first9, matE, viewE, k7, kind2, hand]; done) | (simp_all [stE, first9, matE, viewE, k7, kind2, hand]; (repeat' split) <;> omega))
              )
              (fun h3 =>
                R.call mixed (show Con Try.prog 17 [Value.agg ⟨[Value.int IntKind.i64 s0, Value.int IntKind.i64 s1, Value.int IntKind.i64 s2, Value.int IntKind.i64 s3, Value.int IntKind.i64 s4, Value.int IntKind.i64 s5, Value.int IntKind.i64 s6]⟩] (Value.int IntKind.i64 (stenE s0 s1 s2 s3 s4 s5 s6)) from c_rstenE) (by kernel_rfl) <|
                R.branch mixed 7 (stenE s0 s1 s2 s3 s4 s5 s6 != 0) (by kernel_rfl)
                 (fun h4 =>
                   R.finIs mixed Try.func5 (Value.int IntKind.i64 (stenE s0 s1 s2 s3 s4 s5 s6)) (by kernel_rfl) (by first | (simp_all [stE, first9, matE, viewE, k7, kind2, hand]; done) | (simp_all [stE, first9, matE, viewE, k7, kind2, hand]; (repeat' split) <;> omega))
                 )
                 (fun h4 =>
                   R.call mixed (show Con Try.prog 18 [Value.agg ⟨[Value.int IntKind.i64 b0, Value.int IntKind.i64 b1, Value.int IntKind.i64 b2, Value.int IntKind.i64 b3]⟩] (Value.int IntKind.i64 (blendE b0 b1 b2 b3)) from c_rblendE) (by kernel_rfl) <|
                   R.branch mixed 7 (blendE b0 b1 b2 b3 != 0) (by kernel_rfl)
                    (fun h5 =>
                      R.finIs mixed Try.func5 (Value.int IntKind.i64 (blendE b0 b1 b2 b3)) (by kernel_rfl) (by first | (simp_all [stE, first9, matE, viewE, k7, kind2, hand]; done) | (simp_all [stE, first9, matE, viewE, k7, kind2, hand]; (repeat' split) <;> omega))
                    )
                    (fun h5 =>
                      R.guard mixed 8 (decide (cu < 0)) (by kernel_rfl)
                       (fun h6 =>
                         R.finIs mixed Try.func5 (Value.int IntKind.i64 9) (by kernel_rfl) (by first | (simp_all [stE, first9, matE, viewE, k7, kind2, hand]; done) | (simp_all [stE, first9, matE, viewE, k7, kind2, hand]; (repeat' split) <;> omega))
                       )
                       (fun h6 =>
                         R.branch mixed 5 (bif false then true else decide (cu > 2)) (by kernel_rfl)
                          (fun h7 =>
                            R.finIs mixed Try.func5 (Value.int IntKind.i64 9) (by kernel_rfl) (by first | (simp_all [stE, first9, matE, viewE, k7, kind2, hand]; done) | (simp_all [stE, first9, matE, viewE, k7, kind2, hand]; (repeat' split) <;> omega))
                          )
                          (fun h7 =>
                            R.guard mixed 8 (decide (tx < 0)) (by kernel_rfl)
                             (fun h8 =>
                               R.finIs mixed Try.func5 (Value.int IntKind.i64 7) (by kernel_rfl) (by first | (simp_all [stE, first9, matE, viewE, k7, kind2, hand]; done) | (simp_all [stE, first9, matE, viewE, k7, kind2, hand]; (repeat' split) <;> omega))
                             )
                             (fun h8 =>
                               R.branch mixed 5 (bif false then true else decide (tx > 64)) (by kernel_rfl)
                                (fun h9 =>
                                  R.finIs mixed Try.func5 (Value.int IntKind.i64 7) (by kernel_rfl) (by first | (simp_all [stE, first9, matE, viewE, k7, kind2, hand]; done) | (simp_all [stE, first9, matE, viewE, k7, kind2, hand]; (repeat' split) <;> omega))
                                )
                                (fun h9 =>
                                  R.guard mixed 8 (decide (wr < 0)) (by kernel_rfl)
                                   (fun h10 =>
                                     R.finIs mixed Try.func5 (Value.int IntKind.i64 9) (by kernel_rfl) (by first | (simp_all [stE, first9, matE, viewE, k7, kind2, hand]; done) | (simp_all [stE, first9, matE, viewE, k7, kind2, hand]; (repeat' split) <;> omega))
                                   )
                                   (fun h10 =>
                                     R.branch mixed 5 (bif false then true else decide (wr > 2)) (by kernel_rfl)
                                      (fun h11 =>
                                        R.finIs mixed Try.func5 (Value.int IntKind.i64 9) (by kernel_rfl) (by first | (simp_all [stE, first9, matE, viewE, k7, kind2, hand]; done) | (simp_all [stE, first9, matE, viewE, k7, kind2, hand]; (repeat' split) <;> omega))
                                      )
                                      (fun h11 =>
                                        R.finIs mixed Try.func5 (Value.int IntKind.i64 0) (by kernel_rfl) (by first | (simp_all [stE, first9, matE, viewE, k7, kind2, hand]; done) | (simp_all [stE, first9, matE, viewE, k7, kind2, hand]; (repeat' split) <;> omega))
                                      )
                                   )
                                )
                             )
                          )
                       )
                    )
                 )
              )
           )
        )
     )

end

end Go.Proofs.Ytegmkkpdckolkaa.Frag
