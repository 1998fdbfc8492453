/- Package bary: which points and numbers may be; sides and weights; numbers mixed. -/
import Derived.Test.YtfkmhhbpomkakaaBA2
namespace Go.Proofs.Ytfkmhhbpomkakaa.Bary
open Go Go.Dt Go.Proofs Go.Proofs.Ytfkmhhbpomkakaa.Wide
set_option linter.unusedVariables false
set_option linter.unusedSimpArgs false

/-! ### Points that may be -/
def pts3 (ax ay bx b_ px py : Int) : List Blk := [.cells [.int .i64 ax, .int .i64 ay, .int .i64 bx, .int .i64 b_, .int .i64 px, .int .i64 py] 0 false]
def ok3 (ax ay bx b_ px py : Int) : Bool := okP ax ay && (okP bx b_ && okP px py)

theorem c_may3 (ax ay bx b_ px py : Int) : ConM Try.prog 99 [.slice (some ⟨0, 0, none⟩) 3 3] (pts3 ax ay bx b_ px py) (.bool (ok3 ax ay bx b_ px py)) (List.replicate 1 .gone) :=
  ConM.reads Try.func99 rfl rfl <|
    RunsE.adv mixed 35 <| RunsE.guard 14 (decide (ax < -524288)) (by kernel_rfl)
     (fun h0 =>
       R.finIs mixed Try.func99 (Value.bool false) (by kernel_rfl) (by simp_all [ok3, okP] <;> omega)
     )
     (fun h0 =>
       RunsE.adv mixed 5 <| RunsE.guard 19 (bif false then true else decide (ax > 524288)) (by kernel_rfl)
        (fun h1 =>
          R.finIs mixed Try.func99 (Value.bool false) (by kernel_rfl) (by simp_all [ok3, okP] <;> omega)
        )
        (fun h1 =>
          RunsE.adv mixed 5 <| RunsE.guard 24 (bif false then true else decide (ay < -524288)) (by kernel_rfl)
           (fun h2 =>
             R.finIs mixed Try.func99 (Value.bool false) (by kernel_rfl) (by simp_all [ok3, okP] <;> omega)
           )
           (fun h2 =>
             RunsE.adv mixed 5 <| RunsE.branch (bif false then true else decide (ay > 524288)) (by kernel_rfl)
              (fun h3 =>
                R.finIs mixed Try.func99 (Value.bool false) (by kernel_rfl) (by simp_all [ok3, okP] <;> omega)
              )
              (fun h3 =>
                RunsE.adv mixed 29 <| RunsE.guard 14 (decide (bx < -524288)) (by kernel_rfl)
                 (fun h4 =>
                   R.finIs mixed Try.func99 (Value.bool false) (by kernel_rfl) (by simp_all [ok3, okP] <;> omega)
                 )
                 (fun h4 =>
                   RunsE.adv mixed 5 <| RunsE.guard 19 (bif false then true else decide (bx > 524288)) (by kernel_rfl)
                    (fun h5 =>
                      R.finIs mixed Try.func99 (Value.bool false) (by kernel_rfl) (by simp_all [ok3, okP] <;> omega)
                    )
                    (fun h5 =>
                      RunsE.adv mixed 5 <| RunsE.guard 24 (bif false then true else decide (b_ < -524288)) (by kernel_rfl)
                       (fun h6 =>
                         R.finIs mixed Try.func99 (Value.bool false) (by kernel_rfl) (by simp_all [ok3, okP] <;> omega)
                       )
                       (fun h6 =>
                         RunsE.adv mixed 5 <| RunsE.branch (bif false then true else decide (b_ > 524288)) (by kernel_rfl)
                          (fun h7 =>
                            R.finIs mixed Try.func99 (Value.bool false) (by kernel_rfl) (by simp_all [ok3, okP] <;> omega)
                          )
                          (fun h7 =>
                            RunsE.adv mixed 29 <| RunsE.guard 14 (decide (px < -524288)) (by kernel_rfl)
                             (fun h8 =>
                               R.finIs mixed Try.func99 (Value.bool false) (by kernel_rfl) (by simp_all [ok3, okP] <;> omega)
                             )
                             (fun h8 =>
                               RunsE.adv mixed 5 <| RunsE.guard 19 (bif false then true else decide (px > 524288)) (by kernel_rfl)
                                (fun h9 =>
                                  R.finIs mixed Try.func99 (Value.bool false) (by kernel_rfl) (by simp_all [ok3, okP] <;> omega)
                                )
                                (fun h9 =>
                                  RunsE.adv mixed 5 <| RunsE.guard 24 (bif false then true else decide (py < -524288)) (by kernel_rfl)
                                   (fun h10 =>
                                     R.finIs mixed Try.func99 (Value.bool false) (by kernel_rfl) (by simp_all [ok3, okP] <;> omega)
                                   )
                                   (fun h10 =>
                                     RunsE.adv mixed 5 <| RunsE.branch (bif false then true else decide (py > 524288)) (by kernel_rfl)
                                      (fun h11 =>
                                        R.finIs mixed Try.func99 (Value.bool false) (by kernel_rfl) (by simp_all [ok3, okP] <;> omega)
                                      )
                                      (fun h11 =>
                                        R.finIs mixed Try.func99 (Value.bool true) (by kernel_rfl) (by simp_all [ok3, okP] <;> omega)
                                      )
                                   )
                                )
                             )
                          )
                       )
                    )
                 )
              )
           )
        )
     )

theorem c_edge (ax ay bx b_ px py : Int) : Con Try.prog 56 [PT ax ay, PT bx b_, PT px py] (.tuple ⟨[.int .i64 (bif ok3 ax ay bx b_ px py then sideR ax ay bx b_ px py else 0), .int .i64 (bif ok3 ax ay bx b_ px py then 0 else 3)]⟩) := by
  have m := c_may3 ax ay bx b_ px py
  refine Con.run Try.func56 rfl rfl ?_
  cases h : ok3 ax ay bx b_ px py with
  | true =>
    rw [h] at m
    exact R.callM mixed [.win 3 0 6 false] m (by kernel_rfl) (by kernel_rfl) rfl <| R.call mixed (c_side ax ay bx b_ px py) (by kernel_rfl) <| R.fin mixed Try.func56 (by kernel_rfl)
  | false =>
    rw [h] at m
    exact R.callM mixed [.win 3 0 6 false] m (by kernel_rfl) (by kernel_rfl) rfl <| R.fin mixed Try.func56 (by kernel_rfl)

/-- Of points that may be: the sides. -/
theorem c_edgeOk {ax ay bx b_ px py : Int} (h : ok3 ax ay bx b_ px py = true) : Con Try.prog 56 [PT ax ay, PT bx b_, PT px py] (.tuple ⟨[.int .i64 (sideR ax ay bx b_ px py), .int .i64 0]⟩) := by
  have := c_edge ax ay bx b_ px py
  rw [h] at this
  exact this
theorem c_edgeNo {ax ay bx b_ px py : Int} (h : ok3 ax ay bx b_ px py = false) : Con Try.prog 56 [PT ax ay, PT bx b_, PT px py] (.tuple ⟨[.int .i64 0, .int .i64 3]⟩) := by
  have := c_edge ax ay bx b_ px py
  rw [h] at this
  exact this

abbrev T6 (ax ay bx b_ cx cy : Int) : Value := .agg ⟨[.int .i64 ax, .int .i64 ay, .int .i64 bx, .int .i64 b_, .int .i64 cx, .int .i64 cy]⟩
theorem c_weights {ax ay bx b_ cx cy px py : Int} (ha : okP ax ay = true) (hb : okP bx b_ = true) (hc : okP cx cy = true) (hp : okP px py = true) :
    Con Try.prog 63 [T6 ax ay bx b_ cx cy, PT px py] (.tuple ⟨[.agg ⟨[.int .i64 (sideR bx b_ cx cy px py), .int .i64 (sideR cx cy ax ay px py), .int .i64 (sideR ax ay bx b_ px py)]⟩, .int .i64 0]⟩) := by
  have k1 : ok3 bx b_ cx cy px py = true := by simp [ok3, hb, hc, hp]
  have k2 : ok3 cx cy ax ay px py = true := by simp [ok3, ha, hc, hp]
  have k3 : ok3 ax ay bx b_ px py = true := by simp [ok3, ha, hb, hp]
  exact Con.run Try.func63 rfl rfl <| R.call mixed (c_edgeOk k1) (by kernel_rfl) <| R.call mixed (c_edgeOk k2) (by kernel_rfl) <| R.call mixed (c_edgeOk k3) (by kernel_rfl) <| R.fin mixed Try.func63 (by kernel_rfl)
theorem c_weightsNo {ax ay bx b_ cx cy px py : Int} (h : (okP ax ay && (okP bx b_ && (okP cx cy && okP px py))) = false) :
    Con Try.prog 63 [T6 ax ay bx b_ cx cy, PT px py] (.tuple ⟨[.agg ⟨[.int .i64 0, .int .i64 0, .int .i64 0]⟩, .int .i64 3]⟩) := by
  refine Con.run Try.func63 rfl rfl ?_
  cases h1 : ok3 bx b_ cx cy px py with
  | false => exact R.call mixed (c_edgeNo h1) (by kernel_rfl) <| R.fin mixed Try.func63 (by kernel_rfl)
  | true =>
    have h2 : ok3 cx cy ax ay px py = false := by
      simp only [ok3, Bool.and_eq_true] at h1
      simp only [ok3, h1.1, h1.2.1, h1.2.2] at h ⊢
      simpa using h
    exact R.call mixed (c_edgeOk h1) (by kernel_rfl) <| R.call mixed (c_edgeNo h2) (by kernel_rfl) <| R.fin mixed Try.func63 (by kernel_rfl)

/-! ### Numbers that may be mixed -/
def okM (w v : Int) : Prop := 0 ≤ w ∧ w ≤ 4398046511104 ∧ -1073741824 ≤ v ∧ v ≤ 1073741824
def mayM (w0 w1 w2 v0 v1 v2 : Int) : Prop := okM w0 v0 ∧ okM w1 v1 ∧ okM w2 v2 ∧ 0 < w0 + w1 + w2
instance (w0 w1 w2 v0 v1 v2 : Int) : Decidable (mayM w0 w1 w2 v0 v1 v2) := by unfold mayM okM; infer_instance
abbrev A3 (a b c : Int) : Value := .agg ⟨[.int .i64 a, .int .i64 b, .int .i64 c]⟩

theorem scaled {w v lo hi : Int} (hw : 0 ≤ w) (h1 : lo ≤ v) (h2 : v ≤ hi) : w * lo ≤ w * v ∧ w * v ≤ w * hi := ⟨Int.mul_le_mul_of_nonneg_left h1 hw, Int.mul_le_mul_of_nonneg_left h2 hw⟩

/-- What is mixed. -/
def mixed_ (w0 w1 w2 v0 v1 v2 : Int) : Int := (w0 * v0 + w1 * v1 + w2 * v2) / (w0 + w1 + w2)

theorem mixed_range {w0 w1 w2 v0 v1 v2 lo hi : Int} (w0_ : 0 ≤ w0) (w1_ : 0 ≤ w1) (w2_ : 0 ≤ w2) (hs : 0 < w0 + w1 + w2) (h0 : 0 < w0 → lo ≤ v0 ∧ v0 ≤ hi) (h1 : 0 < w1 → lo ≤ v1 ∧ v1 ≤ hi) (h2 : 0 < w2 → lo ≤ v2 ∧ v2 ≤ hi) :
    lo ≤ mixed_ w0 w1 w2 v0 v1 v2 ∧ mixed_ w0 w1 w2 v0 v1 v2 ≤ hi := by
  have one : ∀ {w v : Int}, 0 ≤ w → (0 < w → lo ≤ v ∧ v ≤ hi) → w * lo ≤ w * v ∧ w * v ≤ w * hi := fun {w v} hw h => by
    rcases Int.lt_or_le 0 w with hw2 | hw2
    · exact scaled hw (h hw2).1 (h hw2).2
    · have : w = 0 := by omega
      subst this
      simp
  have a0 := one w0_ h0
  have a1 := one w1_ h1
  have a2 := one w2_ h2
  have e1 : (w0 + w1 + w2) * lo = w0 * lo + w1 * lo + w2 * lo := by rw [Int.add_mul, Int.add_mul]
  have e2 : (w0 + w1 + w2) * hi = w0 * hi + w1 * hi + w2 * hi := by rw [Int.add_mul, Int.add_mul]
  unfold mixed_
  constructor
  · refine Int.le_ediv_of_mul_le hs ?_
    rw [Int.mul_comm]; omega
  · refine Int.lt_add_one_iff.1 (Int.ediv_lt_of_lt_mul hs ?_)
    rw [Int.add_mul hi 1, Int.one_mul, Int.mul_comm hi]; omega

theorem all3 {w0 w1 w2 : Int} (h0 : 0 ≤ w0) (h0' : w0 ≤ 4398046511104) (h1 : 0 ≤ w1) (h1' : w1 ≤ 4398046511104) (h2 : 0 ≤ w2) (h2' : w2 ≤ 4398046511104) : IntKind.i64.wrap (IntKind.i64.wrap (IntKind.i64.wrap (0 + w0) + w1) + w2) = w0 + w1 + w2 := by
  rw [wrap_i64_of (n := 0 + w0) (by omega) (by omega), wrap_i64_of (n := 0 + w0 + w1) (by omega) (by omega), wrap_i64_of (by omega) (by omega)]; omega

theorem c_mix {w0 w1 w2 v0 v1 v2 : Int} (a0 : -9223372036854775808 ≤ w0 ∧ w0 ≤ 9223372036854775807) (a1 : -9223372036854775808 ≤ w1 ∧ w1 ≤ 9223372036854775807) (a2 : -9223372036854775808 ≤ w2 ∧ w2 ≤ 9223372036854775807)
    (b0 : -9223372036854775808 ≤ v0 ∧ v0 ≤ 9223372036854775807) (b1 : -9223372036854775808 ≤ v1 ∧ v1 ≤ 9223372036854775807) (b2 : -9223372036854775808 ≤ v2 ∧ v2 ≤ 9223372036854775807) (h : mayM w0 w1 w2 v0 v1 v2) :
    Con Try.prog 66 [A3 w0 w1 w2, A3 v0 v1 v2] (.tuple ⟨[.int .i64 (mixed_ w0 w1 w2 v0 v1 v2), .int .i64 0]⟩) := by
  obtain ⟨⟨p1, p2, p3, p4⟩, ⟨q1, q2, q3, q4⟩, ⟨r1, r2, r3, r4⟩, hs⟩ := h
  have s0 := scaled p1 p3 p4
  have s1 := scaled q1 q3 q4
  have s2 := scaled r1 r3 r4
  have hall : IntKind.i64.wrap (IntKind.i64.wrap (IntKind.i64.wrap (0 + w0) + w1) + w2) = w0 + w1 + w2 := by
    rw [wrap_i64_of (n := 0 + w0) (by omega) (by omega), wrap_i64_of (n := 0 + w0 + w1) (by omega) (by omega), wrap_i64_of (by omega) (by omega)]; omega
  have hr := mixed_range (v0 := v0) (v1 := v1) (v2 := v2) p1 q1 r1 hs (fun _ => ⟨p3, p4⟩) (fun _ => ⟨q3, q4⟩) (fun _ => ⟨r3, r4⟩)
  have hf : (0 + w0 * v0 + w1 * v1 + w2 * v2).fdiv (w0 + w1 + w2) = mixed_ w0 w1 w2 v0 v1 v2 := by
    rw [Int.fdiv_eq_ediv_of_nonneg _ (by omega), Int.zero_add]; rfl
  have hfit : fits ((0 + w0 * v0 + w1 * v1 + w2 * v2).fdiv (w0 + w1 + w2)) = true := by
    rw [hf]; simp [fits]; omega
  have hfin := mulDiv_in (c := w0 + w1 + w2) (by omega) hfit
  rw [hf] at hfin
  refine Con.run Try.func66 (by kernel_rfl) rfl ?_
  exact
      R.guardIs mixed 45 (decide (w0 < 0)) false (by first | (rw [hall]; simp; omega) | (simp; omega)) (by kernel_rfl) <|
      R.guardIs mixed 4 (bif false then true else decide (w0 > 4398046511104)) false (by first | (rw [hall]; simp; omega) | (simp; omega)) (by kernel_rfl) <|
      R.guardIs mixed 6 (bif false then true else decide (v0 < -1073741824)) false (by first | (rw [hall]; simp; omega) | (simp; omega)) (by kernel_rfl) <|
      R.cond mixed 6 (bif false then true else decide (v0 > 1073741824)) false (by first | (rw [hall]; simp; omega) | (simp; omega)) (by kernel_rfl) <|
      R.call mixed (Con.of Try.func107 rfl rfl (mul_ w0 v0 a0.1 a0.2 b0.1 b0.2)) (by kernel_rfl) <|
      R.call mixed (c_add 0 (w0 * v0)) (by kernel_rfl) <|
      R.guardIs mixed 30 (decide (w1 < 0)) false (by first | (rw [hall]; simp; omega) | (simp; omega)) (by kernel_rfl) <|
      R.guardIs mixed 4 (bif false then true else decide (w1 > 4398046511104)) false (by first | (rw [hall]; simp; omega) | (simp; omega)) (by kernel_rfl) <|
      R.guardIs mixed 6 (bif false then true else decide (v1 < -1073741824)) false (by first | (rw [hall]; simp; omega) | (simp; omega)) (by kernel_rfl) <|
      R.cond mixed 6 (bif false then true else decide (v1 > 1073741824)) false (by first | (rw [hall]; simp; omega) | (simp; omega)) (by kernel_rfl) <|
      R.call mixed (Con.of Try.func107 rfl rfl (mul_ w1 v1 a1.1 a1.2 b1.1 b1.2)) (by kernel_rfl) <|
      R.call mixed (c_add (0 + w0 * v0) (w1 * v1)) (by kernel_rfl) <|
      R.guardIs mixed 30 (decide (w2 < 0)) false (by first | (rw [hall]; simp; omega) | (simp; omega)) (by kernel_rfl) <|
      R.guardIs mixed 4 (bif false then true else decide (w2 > 4398046511104)) false (by first | (rw [hall]; simp; omega) | (simp; omega)) (by kernel_rfl) <|
      R.guardIs mixed 6 (bif false then true else decide (v2 < -1073741824)) false (by first | (rw [hall]; simp; omega) | (simp; omega)) (by kernel_rfl) <|
      R.cond mixed 6 (bif false then true else decide (v2 > 1073741824)) false (by first | (rw [hall]; simp; omega) | (simp; omega)) (by kernel_rfl) <|
      R.call mixed (Con.of Try.func107 rfl rfl (mul_ w2 v2 a2.1 a2.2 b2.1 b2.2)) (by kernel_rfl) <|
      R.call mixed (c_add (0 + w0 * v0 + w1 * v1) (w2 * v2)) (by kernel_rfl) <|
      R.cond mixed 21 (IntKind.i64.wrap (IntKind.i64.wrap (IntKind.i64.wrap (0 + w0) + w1) + w2) == 0) false (by first | (rw [hall]; simp; omega) | (simp; omega)) (by kernel_rfl) <|
      R.call mixed (c_floor (0 + w0 * v0 + w1 * v1 + w2 * v2) (IntKind.i64.wrap (IntKind.i64.wrap (IntKind.i64.wrap (0 + w0) + w1) + w2)) (by omega) (by omega) (wrap_i64_lo _) (wrap_i64_hi _)) (by kernel_rfl) <|
      R.finIs mixed Try.func66 (Value.tuple ⟨[Value.int IntKind.i64 (floorN (0 + w0 * v0 + w1 * v1 + w2 * v2) (IntKind.i64.wrap (IntKind.i64.wrap (IntKind.i64.wrap (0 + w0) + w1) + w2))), Value.int IntKind.i64 (floorE (0 + w0 * v0 + w1 * v1 + w2 * v2) (IntKind.i64.wrap (IntKind.i64.wrap (IntKind.i64.wrap (0 + w0) + w1) + w2)))]⟩) (by kernel_rfl) (by rw [hall, hfin.1, hfin.2])

theorem c_mixNo {w0 w1 w2 v0 v1 v2 : Int} (a0 : -9223372036854775808 ≤ w0 ∧ w0 ≤ 9223372036854775807) (a1 : -9223372036854775808 ≤ w1 ∧ w1 ≤ 9223372036854775807) (a2 : -9223372036854775808 ≤ w2 ∧ w2 ≤ 9223372036854775807)
    (b0 : -9223372036854775808 ≤ v0 ∧ v0 ≤ 9223372036854775807) (b1 : -9223372036854775808 ≤ v1 ∧ v1 ≤ 9223372036854775807) (b2 : -9223372036854775808 ≤ v2 ∧ v2 ≤ 9223372036854775807) (h : ¬ mayM w0 w1 w2 v0 v1 v2) :
    Con Try.prog 66 [A3 w0 w1 w2, A3 v0 v1 v2] (.tuple ⟨[.int .i64 0, .int .i64 3]⟩) := by
  simp only [mayM, okM] at h
  refine Con.run Try.func66 (by kernel_rfl) rfl ?_
  exact
    RunsE.adv mixed 45 <| RunsE.guard 17 (decide (w0 < 0)) (by kernel_rfl)
     (fun h0 =>
       R.finIs mixed Try.func66 (Value.tuple ⟨[Value.int IntKind.i64 0, Value.int IntKind.i64 3]⟩) (by kernel_rfl) (by rfl)
     )
     (fun h0 =>
       RunsE.adv mixed 4 <| RunsE.guard 21 (bif false then true else decide (w0 > 4398046511104)) (by kernel_rfl)
        (fun h1 =>
          R.finIs mixed Try.func66 (Value.tuple ⟨[Value.int IntKind.i64 0, Value.int IntKind.i64 3]⟩) (by kernel_rfl) (by rfl)
        )
        (fun h1 =>
          RunsE.adv mixed 6 <| RunsE.guard 27 (bif false then true else decide (v0 < -1073741824)) (by kernel_rfl)
           (fun h2 =>
             R.finIs mixed Try.func66 (Value.tuple ⟨[Value.int IntKind.i64 0, Value.int IntKind.i64 3]⟩) (by kernel_rfl) (by rfl)
           )
           (fun h2 =>
             RunsE.adv mixed 6 <| RunsE.branch (bif false then true else decide (v0 > 1073741824)) (by kernel_rfl)
              (fun h3 =>
                R.finIs mixed Try.func66 (Value.tuple ⟨[Value.int IntKind.i64 0, Value.int IntKind.i64 3]⟩) (by kernel_rfl) (by rfl)
              )
              (fun h3 =>
                R.call mixed (Con.of Try.func107 rfl rfl (mul_ w0 v0 a0.1 a0.2 b0.1 b0.2)) (by kernel_rfl) <|
                R.call mixed (c_add 0 (w0 * v0)) (by kernel_rfl) <|
                RunsE.adv mixed 30 <| RunsE.guard 17 (decide (w1 < 0)) (by kernel_rfl)
                 (fun h4 =>
                   R.finIs mixed Try.func66 (Value.tuple ⟨[Value.int IntKind.i64 0, Value.int IntKind.i64 3]⟩) (by kernel_rfl) (by rfl)
                 )
                 (fun h4 =>
                   RunsE.adv mixed 4 <| RunsE.guard 21 (bif false then true else decide (w1 > 4398046511104)) (by kernel_rfl)
                    (fun h5 =>
                      R.finIs mixed Try.func66 (Value.tuple ⟨[Value.int IntKind.i64 0, Value.int IntKind.i64 3]⟩) (by kernel_rfl) (by rfl)
                    )
                    (fun h5 =>
                      RunsE.adv mixed 6 <| RunsE.guard 27 (bif false then true else decide (v1 < -1073741824)) (by kernel_rfl)
                       (fun h6 =>
                         R.finIs mixed Try.func66 (Value.tuple ⟨[Value.int IntKind.i64 0, Value.int IntKind.i64 3]⟩) (by kernel_rfl) (by rfl)
                       )
                       (fun h6 =>
                         RunsE.adv mixed 6 <| RunsE.branch (bif false then true else decide (v1 > 1073741824)) (by kernel_rfl)
                          (fun h7 =>
                            R.finIs mixed Try.func66 (Value.tuple ⟨[Value.int IntKind.i64 0, Value.int IntKind.i64 3]⟩) (by kernel_rfl) (by rfl)
                          )
                          (fun h7 =>
                            R.call mixed (Con.of Try.func107 rfl rfl (mul_ w1 v1 a1.1 a1.2 b1.1 b1.2)) (by kernel_rfl) <|
                            R.call mixed (c_add (0 + w0 * v0) (w1 * v1)) (by kernel_rfl) <|
                            RunsE.adv mixed 30 <| RunsE.guard 17 (decide (w2 < 0)) (by kernel_rfl)
                             (fun h8 =>
                               R.finIs mixed Try.func66 (Value.tuple ⟨[Value.int IntKind.i64 0, Value.int IntKind.i64 3]⟩) (by kernel_rfl) (by rfl)
                             )
                             (fun h8 =>
                               RunsE.adv mixed 4 <| RunsE.guard 21 (bif false then true else decide (w2 > 4398046511104)) (by kernel_rfl)
                                (fun h9 =>
                                  R.finIs mixed Try.func66 (Value.tuple ⟨[Value.int IntKind.i64 0, Value.int IntKind.i64 3]⟩) (by kernel_rfl) (by rfl)
                                )
                                (fun h9 =>
                                  RunsE.adv mixed 6 <| RunsE.guard 27 (bif false then true else decide (v2 < -1073741824)) (by kernel_rfl)
                                   (fun h10 =>
                                     R.finIs mixed Try.func66 (Value.tuple ⟨[Value.int IntKind.i64 0, Value.int IntKind.i64 3]⟩) (by kernel_rfl) (by rfl)
                                   )
                                   (fun h10 =>
                                     RunsE.adv mixed 6 <| RunsE.branch (bif false then true else decide (v2 > 1073741824)) (by kernel_rfl)
                                      (fun h11 =>
                                        R.finIs mixed Try.func66 (Value.tuple ⟨[Value.int IntKind.i64 0, Value.int IntKind.i64 3]⟩) (by kernel_rfl) (by rfl)
                                      )
                                      (fun h11 =>
                                        R.call mixed (Con.of Try.func107 rfl rfl (mul_ w2 v2 a2.1 a2.2 b2.1 b2.2)) (by kernel_rfl) <|
                                        R.call mixed (c_add (0 + w0 * v0 + w1 * v1) (w2 * v2)) (by kernel_rfl) <|
                                        RunsE.adv mixed 21 <| RunsE.branch (IntKind.i64.wrap (IntKind.i64.wrap (IntKind.i64.wrap (0 + w0) + w1) + w2) == 0) (by kernel_rfl)
                                         (fun h12 =>
                                           R.finIs mixed Try.func66 (Value.tuple ⟨[Value.int IntKind.i64 0, Value.int IntKind.i64 3]⟩) (by kernel_rfl) (by rfl)
                                         )
                                         (fun h12 =>
                                           (by exfalso; have h13 := beq_eq_false_iff_ne.1 h12; simp at h0 h1 h2 h3 h4 h5 h6 h7 h8 h9 h10 h11; rw [all3 (by omega) (by omega) (by omega) (by omega) (by omega) (by omega)] at h13; omega)
                                         )
                                      )
                                   )
                                )
                             )
                          )
                       )
                    )
                 )
              )
           )
        )
     )

end Go.Proofs.Ytfkmhhbpomkakaa.Bary
