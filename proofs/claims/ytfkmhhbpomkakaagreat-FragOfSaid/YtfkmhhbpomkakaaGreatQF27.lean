/- Pixels: which are right; what is cleared. -/
import Derived.Test.YtfkmhhbpomkakaaGreatQF11
import Derived.Test.YtfkmhhbpomkakaaGreatQF10
namespace Go.Proofs.YtfkmhhbpomkakaaGreat.Frag
open Go Go.Dt Go.Proofs
set_option linter.unusedVariables false
set_option linter.unusedSimpArgs false

theorem mixed : Tryz.prog.follows .mixedOrders = true := by kernel_rfl
abbrev C4 (r g b a : Int) : Value := .agg ⟨[.int .i64 r, .int .i64 g, .int .i64 b, .int .i64 a]⟩
def is8 (n : Int) : Bool := decide (0 ≤ n) && decide (n ≤ 255)
def rightC (r g b a : Int) : Bool := is8 r && (is8 g && (is8 b && is8 a))
def sat (n lo hi : Int) : Int := if n < lo then lo else if n > hi then hi else n

theorem c_sat (n lo hi : Int) : Con Tryz.prog 18 [.int .i64 n, .int .i64 lo, .int .i64 hi] (.int .i64 (sat n lo hi)) := by
  refine Con.run Tryz.func18 rfl rfl (R.branch mixed 13 (decide (n < lo)) (by kernel_rfl) (fun h => ?_) (fun h => R.branch mixed 7 (decide (n > hi)) (by kernel_rfl) (fun h2 => ?_) (fun h2 => ?_)))
  · rw [sat, if_pos (by simpa using h)]; exact R.fin mixed Tryz.func18 (by kernel_rfl)
  · rw [sat, if_neg (by simpa using h), if_pos (by simpa using h2)]; exact R.fin mixed Tryz.func18 (by kernel_rfl)
  · rw [sat, if_neg (by simpa using h), if_neg (by simpa using h2)]; exact R.fin mixed Tryz.func18 (by kernel_rfl)
theorem c_sat255 (n m : Int) : Con Tryz.prog 80 [.int .i64 n, .int .i64 m] (.int .i64 (sat n 0 255)) := Con.run Tryz.func80 rfl rfl <| R.call mixed (c_sat n 0 255) (by kernel_rfl) <| R.fin mixed Tryz.func80 (by kernel_rfl)
theorem c_each (r g b a : Int) : ConM Tryz.prog 53 [C4 r g b a, C4 r g b a, .func (.func 80) ⟨[]⟩ ⟨[]⟩] [] (C4 (sat r 0 255) (sat g 0 255) (sat b 0 255) (sat a 0 255)) (List.replicate 0 .gone) :=
  ConM.reads Tryz.func53 rfl rfl <| R.call mixed (c_sat255 r r) (by kernel_rfl) <| R.call mixed (c_sat255 g g) (by kernel_rfl) <| R.call mixed (c_sat255 b b) (by kernel_rfl) <| R.call mixed (c_sat255 a a) (by kernel_rfl) <| R.fin mixed Tryz.func53 (by kernel_rfl)
theorem sat_is8 (n : Int) : (n == sat n 0 255) = is8 n := by
  unfold sat is8
  split
  · rw [beq_eq_false_iff_ne.2 (by omega), decide_eq_false (by omega)]; rfl
  · split
    · rw [beq_eq_false_iff_ne.2 (by omega), decide_eq_false (p := n ≤ 255) (by omega)]; simp
    · simp; omega
theorem c_tint (r g b a : Int) : Con Tryz.prog 35 [C4 r g b a] (.bool (rightC r g b a)) :=
  (Con.run (v := .bool (eqs [r, g, b, a] [sat r 0 255, sat g 0 255, sat b 0 255, sat a 0 255])) Tryz.func35 rfl rfl <| R.callM mixed [] (c_each r g b a) (by kernel_rfl) (by kernel_rfl) rfl <| R.fin mixed Tryz.func35 (by kernel_rfl)).val rfl (by
    simp only [eqs, sat_is8, rightC, Bool.and_true])

theorem c_is8 (n : Int) : Con Tryz.prog 71 [.int .i64 n] (.bool (is8 n)) := by
  refine Con.run Tryz.func71 rfl rfl (R.guard mixed 9 (decide (n ≥ 0)) (by kernel_rfl) (fun h => ?_) (fun h => ?_))
  · exact R.finIs mixed Tryz.func71 (.bool (bif true then decide (n ≤ 255) else false)) (by kernel_rfl) (by simp at h; simp [is8, h])
  · exact R.finIs mixed Tryz.func71 (.bool false) (by kernel_rfl) (by simp at h; simp [is8]; omega)

theorem c_rightC (r g b a : Int) : Con Tryz.prog 28 [C4 r g b a] (.bool (rightC r g b a)) := by
  have k1 := c_is8 r
  have k2 := c_is8 g
  have k3 := c_is8 b
  have k4 := c_is8 a
  unfold rightC
  cases h1 : is8 r with
  | false => rw [h1] at k1; exact Con.run Tryz.func28 rfl rfl <| R.call mixed k1 (by kernel_rfl) <| R.fin mixed Tryz.func28 (by kernel_rfl)
  | true =>
    cases h2 : is8 g with
    | false => rw [h1] at k1; rw [h2] at k2; exact Con.run Tryz.func28 rfl rfl <| R.call mixed k1 (by kernel_rfl) <| R.call mixed k2 (by kernel_rfl) <| R.fin mixed Tryz.func28 (by kernel_rfl)
    | true =>
      cases h3 : is8 b with
      | false => rw [h1] at k1; rw [h2] at k2; rw [h3] at k3; exact Con.run Tryz.func28 rfl rfl <| R.call mixed k1 (by kernel_rfl) <| R.call mixed k2 (by kernel_rfl) <| R.call mixed k3 (by kernel_rfl) <| R.fin mixed Tryz.func28 (by kernel_rfl)
      | true => rw [h1] at k1; rw [h2] at k2; rw [h3] at k3; exact Con.run Tryz.func28 rfl rfl <| R.call mixed k1 (by kernel_rfl) <| R.call mixed k2 (by kernel_rfl) <| R.call mixed k3 (by kernel_rfl) <| R.call mixed k4 (by kernel_rfl) <| R.fin mixed Tryz.func28 (by kernel_rfl)

/-! ### What is cleared -/
theorem awake19 : FnEq Tryz.prog 5 [] [] (.bool true) [] := FnEq.eval mixed (X := []) (fun f e h => by simp at h) 3000 Tryz.func5 (by kernel_rfl) rfl (by kernel_rfl)
theorem c_awake19 : Con Tryz.prog 5 [] (.bool true) := Con.of Tryz.func5 rfl rfl awake19

end Go.Proofs.YtfkmhhbpomkakaaGreat.Frag
