/- TriSetup: the walk. -/
import Derived.Test.YtfkmhhbpomkakaaTB
namespace Go.Proofs.Ytfkmhhbpomkakaa.Tri
open Go Go.Dt Go.Proofs Go.Proofs.Ytfkmhhbpomkakaa.Wide Go.Proofs.Ytfkmhhbpomkakaa.Bary
set_option linter.unusedVariables false
set_option linter.unusedSimpArgs false

theorem has0 : FnEq Try.prog 33 [T32 0 0 0 0 0 0 0 0 0 32 0 32 0 0 0 0 0 0 0 32 64 0 0 0 0 0 0 1024 0 0 2 2, .int .i64 0, .int .i64 0] [] (.bool true) [] := FnEq.eval mixed (X := []) (fun f e h => by simp at h) 3000 Try.func33 (by kernel_rfl) rfl (by kernel_rfl)
theorem mid0 : FnEq Try.prog 62 [.int .i64 0, .int .i64 0] [] (.tuple ⟨[PT 8 8, .int .i64 0]⟩) [] := FnEq.eval mixed (X := []) (fun f e h => by simp at h) 3000 Try.func62 (by kernel_rfl) rfl (by kernel_rfl)

theorem c_awake17 : Con Try.prog 27 [] (.bool true) := by
  have m0 : mayS 0 0 0 0 0 0 0 0 0 := by decide
  have m1 : mayS 0 32 64 0 0 0 0 0 0 := by decide
  have m2 : mayS 32 0 32 0 0 0 0 0 0 := by decide
  have hN : Con Try.prog 56 [PT 0 0, PT 0 32, PT 32 0] (.tuple ⟨[.int .i64 (-1024), .int .i64 0]⟩) := (c_edgeOk (ax := 0) (ay := 0) (bx := 0) (b_ := 32) (px := 32) (py := 0) (by decide)).val rfl (by kernel_rfl)
  have hB : Con Try.prog 57 [S27 0 0 0 0 0 0 0 0 0 32 0 32 0 0 0 0 0 0 0 32 64 0 0 0 0 0 0] (R4 0 0 2 2) := (c_box (by decide) (by decide) (by decide)).val rfl (by kernel_rfl)
  have s1 := set0_neg m0 m1 m2 hN hB (by decide)
  have a1 := at_ (w0 := 512) (w1 := 256) (w2 := 256) (mx := 8) (my := 8) (ar := 1024) (X0 := 0) (Y0 := 0) (X1 := 2) (Y1 := 2) m0.1 m2.1 m1.1 (by decide) m0.2 m2.2 m1.2 (Con.of Try.func33 (by kernel_rfl) rfl has0) (Con.of Try.func62 (by kernel_rfl) rfl mid0) (by decide) (by decide) (by decide) (by decide) (by decide) (by decide) (by decide) (by decide) (by decide) (by decide)
  exact Con.run Try.func27 (by kernel_rfl) rfl <| R.call mixed s1 (by kernel_rfl) <| R.call mixed a1 (by kernel_rfl) <| R.fin mixed Try.func27 (by kernel_rfl)

section
variable {x0 y0 z0 a0 b0 c0 d0 e0 f0 x1 y1 z1 a1 b1 c1 d1 e1 f1 x2 y2 z2 a2 b2 c2 d2 e2 f2 : Int}
theorem may28 {o : Bool} (h : decide (may3 x0 y0 z0 a0 b0 c0 d0 e0 f0 x1 y1 z1 a1 b1 c1 d1 e1 f1 x2 y2 z2 a2 b2 c2 d2 e2 f2) = o) : Con Try.prog 28 [S27 x0 y0 z0 a0 b0 c0 d0 e0 f0 x1 y1 z1 a1 b1 c1 d1 e1 f1 x2 y2 z2 a2 b2 c2 d2 e2 f2] (.bool o) := h ▸ c_may3

theorem setupKind {k : Int} (h : k < 0 ∨ 2 < k) : RunsE Try.prog 7 0 (entry Try.f7 [S27 x0 y0 z0 a0 b0 c0 d0 e0 f0 x1 y1 z1 a1 b1 c1 d1 e1 f1 x2 y2 z2 a2 b2 c2 d2 e2 f2, .int .i64 k] []) (.bool true) := by
  refine R.call mixed (@setKind x0 y0 z0 a0 b0 c0 d0 e0 f0 x1 y1 z1 a1 b1 c1 d1 e1 f1 x2 y2 z2 a2 b2 c2 d2 e2 f2 k h) (by kernel_rfl) ?_
  rcases Decidable.em (k < 0) with h1 | h1
  · exact R.guardIs mixed 15 (decide (k < 0)) true (decide_eq_true h1) (by kernel_rfl) <| R.call mixed c_awake17 (by kernel_rfl) <| R.fin mixed Try.func7 (by kernel_rfl)
  · exact R.guardIs mixed 15 (decide (k < 0)) false (decide_eq_false h1) (by kernel_rfl) <| R.cond mixed 4 (bif false then true else decide (k > 2)) true (by simp; omega) (by kernel_rfl) <| R.call mixed c_awake17 (by kernel_rfl) <| R.fin mixed Try.func7 (by kernel_rfl)

theorem setupLaw0 : RunsE Try.prog 7 0 (entry Try.f7 [S27 x0 y0 z0 a0 b0 c0 d0 e0 f0 x1 y1 z1 a1 b1 c1 d1 e1 f1 x2 y2 z2 a2 b2 c2 d2 e2 f2, .int .i64 0] []) (.bool true) := by
  rcases Decidable.em (may3 x0 y0 z0 a0 b0 c0 d0 e0 f0 x1 y1 z1 a1 b1 c1 d1 e1 f1 x2 y2 z2 a2 b2 c2 d2 e2 f2) with h | h
  · obtain ⟨m0, m1, m2⟩ := h
    have hN := c_edgeOk (ax := x0) (ay := y0) (bx := x1) (b_ := y1) (px := x2) (py := y2) (by simp [ok3, m0.1, m1.1, m2.1])
    have hR := c_rside x0 y0 x1 y1 x2 y2
    have hB := c_box (x0 := x0) (y0 := y0) (z0 := z0) (a0 := a0) (b0 := b0) (c0 := c0) (d0 := d0) (e0 := e0) (f0 := f0) (x1 := x1) (y1 := y1) (z1 := z1) (a1 := a1) (b1 := b1) (c1 := c1) (d1 := d1) (e1 := e1) (f1 := f1) (x2 := x2) (y2 := y2) (z2 := z2) (a2 := a2) (b2 := b2) (c2 := c2) (d2 := d2) (e2 := e2) (f2 := f2) m0.1 m1.1 m2.1
    have hB' := c_rbox (x0 := x0) (y0 := y0) (z0 := z0) (a0 := a0) (b0 := b0) (c0 := c0) (d0 := d0) (e0 := e0) (f0 := f0) (x1 := x1) (y1 := y1) (z1 := z1) (a1 := a1) (b1 := b1) (c1 := c1) (d1 := d1) (e1 := e1) (f1 := f1) (x2 := x2) (y2 := y2) (z2 := z2) (a2 := a2) (b2 := b2) (c2 := c2) (d2 := d2) (e2 := e2) (f2 := f2) m0.1 m1.1 m2.1
    have hC := c_box (x0 := x0) (y0 := y0) (z0 := z0) (a0 := a0) (b0 := b0) (c0 := c0) (d0 := d0) (e0 := e0) (f0 := f0) (x1 := x2) (y1 := y2) (z1 := z2) (a1 := a2) (b1 := b2) (c1 := c2) (d1 := d2) (e1 := e2) (f1 := f2) (x2 := x1) (y2 := y1) (z2 := z1) (a2 := a1) (b2 := b1) (c2 := c1) (d2 := d1) (e2 := e1) (f2 := f1) m0.1 m2.1 m1.1
    have hC' := c_rbox (x0 := x0) (y0 := y0) (z0 := z0) (a0 := a0) (b0 := b0) (c0 := c0) (d0 := d0) (e0 := e0) (f0 := f0) (x1 := x2) (y1 := y2) (z1 := z2) (a1 := a2) (b1 := b2) (c1 := c2) (d1 := d2) (e1 := e2) (f1 := f2) (x2 := x1) (y2 := y1) (z2 := z1) (a2 := a1) (b2 := b1) (c2 := c1) (d2 := d1) (e2 := e1) (f2 := f1) m0.1 m2.1 m1.1
    generalize sideR x0 y0 x1 y1 x2 y2 = N at *
    have cm := may28 (decide_eq_true (p := may3 x0 y0 z0 a0 b0 c0 d0 e0 f0 x1 y1 z1 a1 b1 c1 d1 e1 f1 x2 y2 z2 a2 b2 c2 d2 e2 f2) ⟨m0, m1, m2⟩)
    rcases Int.lt_trichotomy N 0 with hs | hs | hs
    · exact R.call mixed (set0_neg (x0 := x0) (y0 := y0) (z0 := z0) (a0 := a0) (b0 := b0) (c0 := c0) (d0 := d0) (e0 := e0) (f0 := f0) (x1 := x1) (y1 := y1) (z1 := z1) (a1 := a1) (b1 := b1) (c1 := c1) (d1 := d1) (e1 := e1) (f1 := f1) (x2 := x2) (y2 := y2) (z2 := z2) (a2 := a2) (b2 := b2) (c2 := c2) (d2 := d2) (e2 := e2) (f2 := f2) m0 m1 m2 hN hC hs) (by kernel_rfl) <| R.call mixed cm (by kernel_rfl) <| R.call mixed (rset0_neg (x0 := x0) (y0 := y0) (z0 := z0) (a0 := a0) (b0 := b0) (c0 := c0) (d0 := d0) (e0 := e0) (f0 := f0) (x1 := x1) (y1 := y1) (z1 := z1) (a1 := a1) (b1 := b1) (c1 := c1) (d1 := d1) (e1 := e1) (f1 := f1) (x2 := x2) (y2 := y2) (z2 := z2) (a2 := a2) (b2 := b2) (c2 := c2) (d2 := d2) (e2 := e2) (f2 := f2) hR hC' hs) (by kernel_rfl) <|
        R.guardIs mixed 17 ((((eqs [x0, y0] [x0, y0] && ((z0 == z0) && (eqs [a0, b0, c0, d0, e0, f0] [a0, b0, c0, d0, e0, f0] && true)))) && (((eqs [x2, y2] [x2, y2] && ((z2 == z2) && (eqs [a2, b2, c2, d2, e2, f2] [a2, b2, c2, d2, e2, f2] && true)))) && (((eqs [x1, y1] [x1, y1] && ((z1 == z1) && (eqs [a1, b1, c1, d1, e1, f1] [a1, b1, c1, d1, e1, f1] && true)))) && true))) && (((IntKind.i64.wrap (0 - N)) == (IntKind.i64.wrap (0 - N))) && (eqs [(bx0 x0 x2 x1), (bx0 y0 y2 y1), (bx1 x0 x2 x1), (bx1 y0 y2 y1)] [(bx0 x0 x2 x1), (bx0 y0 y2 y1), (bx1 x0 x2 x1), (bx1 y0 y2 y1)] && true))) true (by simp [eqs_self]) (by kernel_rfl) <|
        R.call mixed c_awake17 (by kernel_rfl) <| R.fin mixed Try.func7 (by kernel_rfl)
    · exact R.call mixed (set0_zero (x0 := x0) (y0 := y0) (z0 := z0) (a0 := a0) (b0 := b0) (c0 := c0) (d0 := d0) (e0 := e0) (f0 := f0) (x1 := x1) (y1 := y1) (z1 := z1) (a1 := a1) (b1 := b1) (c1 := c1) (d1 := d1) (e1 := e1) (f1 := f1) (x2 := x2) (y2 := y2) (z2 := z2) (a2 := a2) (b2 := b2) (c2 := c2) (d2 := d2) (e2 := e2) (f2 := f2) m0 m1 m2 hN hs) (by kernel_rfl) <| R.call mixed cm (by kernel_rfl) <| R.call mixed (rset0_zero (x0 := x0) (y0 := y0) (z0 := z0) (a0 := a0) (b0 := b0) (c0 := c0) (d0 := d0) (e0 := e0) (f0 := f0) (x1 := x1) (y1 := y1) (z1 := z1) (a1 := a1) (b1 := b1) (c1 := c1) (d1 := d1) (e1 := e1) (f1 := f1) (x2 := x2) (y2 := y2) (z2 := z2) (a2 := a2) (b2 := b2) (c2 := c2) (d2 := d2) (e2 := e2) (f2 := f2) hR hs) (by kernel_rfl) <|
        R.call mixed c_awake17 (by kernel_rfl) <| R.fin mixed Try.func7 (by kernel_rfl)
    · exact R.call mixed (set0_pos (x0 := x0) (y0 := y0) (z0 := z0) (a0 := a0) (b0 := b0) (c0 := c0) (d0 := d0) (e0 := e0) (f0 := f0) (x1 := x1) (y1 := y1) (z1 := z1) (a1 := a1) (b1 := b1) (c1 := c1) (d1 := d1) (e1 := e1) (f1 := f1) (x2 := x2) (y2 := y2) (z2 := z2) (a2 := a2) (b2 := b2) (c2 := c2) (d2 := d2) (e2 := e2) (f2 := f2) m0 m1 m2 hN hB hs) (by kernel_rfl) <| R.call mixed cm (by kernel_rfl) <| R.call mixed (rset0_pos (x0 := x0) (y0 := y0) (z0 := z0) (a0 := a0) (b0 := b0) (c0 := c0) (d0 := d0) (e0 := e0) (f0 := f0) (x1 := x1) (y1 := y1) (z1 := z1) (a1 := a1) (b1 := b1) (c1 := c1) (d1 := d1) (e1 := e1) (f1 := f1) (x2 := x2) (y2 := y2) (z2 := z2) (a2 := a2) (b2 := b2) (c2 := c2) (d2 := d2) (e2 := e2) (f2 := f2) hR hB' hs) (by kernel_rfl) <|
        R.guardIs mixed 17 ((((eqs [x0, y0] [x0, y0] && ((z0 == z0) && (eqs [a0, b0, c0, d0, e0, f0] [a0, b0, c0, d0, e0, f0] && true)))) && (((eqs [x1, y1] [x1, y1] && ((z1 == z1) && (eqs [a1, b1, c1, d1, e1, f1] [a1, b1, c1, d1, e1, f1] && true)))) && (((eqs [x2, y2] [x2, y2] && ((z2 == z2) && (eqs [a2, b2, c2, d2, e2, f2] [a2, b2, c2, d2, e2, f2] && true)))) && true))) && ((N == N) && (eqs [(bx0 x0 x1 x2), (bx0 y0 y1 y2), (bx1 x0 x1 x2), (bx1 y0 y1 y2)] [(bx0 x0 x1 x2), (bx0 y0 y1 y2), (bx1 x0 x1 x2), (bx1 y0 y1 y2)] && true))) true (by simp [eqs_self]) (by kernel_rfl) <|
        R.call mixed c_awake17 (by kernel_rfl) <| R.fin mixed Try.func7 (by kernel_rfl)
  · exact R.call mixed (setNo0 h) (by kernel_rfl) <| R.call mixed (may28 (decide_eq_false h)) (by kernel_rfl) <| R.call mixed c_awake17 (by kernel_rfl) <| R.fin mixed Try.func7 (by kernel_rfl)

theorem setupLaw1 : RunsE Try.prog 7 0 (entry Try.f7 [S27 x0 y0 z0 a0 b0 c0 d0 e0 f0 x1 y1 z1 a1 b1 c1 d1 e1 f1 x2 y2 z2 a2 b2 c2 d2 e2 f2, .int .i64 1] []) (.bool true) := by
  rcases Decidable.em (may3 x0 y0 z0 a0 b0 c0 d0 e0 f0 x1 y1 z1 a1 b1 c1 d1 e1 f1 x2 y2 z2 a2 b2 c2 d2 e2 f2) with h | h
  · obtain ⟨m0, m1, m2⟩ := h
    have hN := c_edgeOk (ax := x0) (ay := y0) (bx := x1) (b_ := y1) (px := x2) (py := y2) (by simp [ok3, m0.1, m1.1, m2.1])
    have hR := c_rside x0 y0 x1 y1 x2 y2
    have hB := c_box (x0 := x0) (y0 := y0) (z0 := z0) (a0 := a0) (b0 := b0) (c0 := c0) (d0 := d0) (e0 := e0) (f0 := f0) (x1 := x1) (y1 := y1) (z1 := z1) (a1 := a1) (b1 := b1) (c1 := c1) (d1 := d1) (e1 := e1) (f1 := f1) (x2 := x2) (y2 := y2) (z2 := z2) (a2 := a2) (b2 := b2) (c2 := c2) (d2 := d2) (e2 := e2) (f2 := f2) m0.1 m1.1 m2.1
    have hB' := c_rbox (x0 := x0) (y0 := y0) (z0 := z0) (a0 := a0) (b0 := b0) (c0 := c0) (d0 := d0) (e0 := e0) (f0 := f0) (x1 := x1) (y1 := y1) (z1 := z1) (a1 := a1) (b1 := b1) (c1 := c1) (d1 := d1) (e1 := e1) (f1 := f1) (x2 := x2) (y2 := y2) (z2 := z2) (a2 := a2) (b2 := b2) (c2 := c2) (d2 := d2) (e2 := e2) (f2 := f2) m0.1 m1.1 m2.1
    have hC := c_box (x0 := x0) (y0 := y0) (z0 := z0) (a0 := a0) (b0 := b0) (c0 := c0) (d0 := d0) (e0 := e0) (f0 := f0) (x1 := x2) (y1 := y2) (z1 := z2) (a1 := a2) (b1 := b2) (c1 := c2) (d1 := d2) (e1 := e2) (f1 := f2) (x2 := x1) (y2 := y1) (z2 := z1) (a2 := a1) (b2 := b1) (c2 := c1) (d2 := d1) (e2 := e1) (f2 := f1) m0.1 m2.1 m1.1
    have hC' := c_rbox (x0 := x0) (y0 := y0) (z0 := z0) (a0 := a0) (b0 := b0) (c0 := c0) (d0 := d0) (e0 := e0) (f0 := f0) (x1 := x2) (y1 := y2) (z1 := z2) (a1 := a2) (b1 := b2) (c1 := c2) (d1 := d2) (e1 := e2) (f1 := f2) (x2 := x1) (y2 := y1) (z2 := z1) (a2 := a1) (b2 := b1) (c2 := c1) (d2 := d1) (e2 := e1) (f2 := f1) m0.1 m2.1 m1.1
    generalize sideR x0 y0 x1 y1 x2 y2 = N at *
    have cm := may28 (decide_eq_true (p := may3 x0 y0 z0 a0 b0 c0 d0 e0 f0 x1 y1 z1 a1 b1 c1 d1 e1 f1 x2 y2 z2 a2 b2 c2 d2 e2 f2) ⟨m0, m1, m2⟩)
    rcases Int.lt_trichotomy N 0 with hs | hs | hs
    · exact R.call mixed (set1_neg (x0 := x0) (y0 := y0) (z0 := z0) (a0 := a0) (b0 := b0) (c0 := c0) (d0 := d0) (e0 := e0) (f0 := f0) (x1 := x1) (y1 := y1) (z1 := z1) (a1 := a1) (b1 := b1) (c1 := c1) (d1 := d1) (e1 := e1) (f1 := f1) (x2 := x2) (y2 := y2) (z2 := z2) (a2 := a2) (b2 := b2) (c2 := c2) (d2 := d2) (e2 := e2) (f2 := f2) m0 m1 m2 hN hs) (by kernel_rfl) <| R.call mixed cm (by kernel_rfl) <| R.call mixed (rset1_neg (x0 := x0) (y0 := y0) (z0 := z0) (a0 := a0) (b0 := b0) (c0 := c0) (d0 := d0) (e0 := e0) (f0 := f0) (x1 := x1) (y1 := y1) (z1 := z1) (a1 := a1) (b1 := b1) (c1 := c1) (d1 := d1) (e1 := e1) (f1 := f1) (x2 := x2) (y2 := y2) (z2 := z2) (a2 := a2) (b2 := b2) (c2 := c2) (d2 := d2) (e2 := e2) (f2 := f2) hR hs) (by kernel_rfl) <|
        R.call mixed c_awake17 (by kernel_rfl) <| R.fin mixed Try.func7 (by kernel_rfl)
    · exact R.call mixed (set1_zero (x0 := x0) (y0 := y0) (z0 := z0) (a0 := a0) (b0 := b0) (c0 := c0) (d0 := d0) (e0 := e0) (f0 := f0) (x1 := x1) (y1 := y1) (z1 := z1) (a1 := a1) (b1 := b1) (c1 := c1) (d1 := d1) (e1 := e1) (f1 := f1) (x2 := x2) (y2 := y2) (z2 := z2) (a2 := a2) (b2 := b2) (c2 := c2) (d2 := d2) (e2 := e2) (f2 := f2) m0 m1 m2 hN hs) (by kernel_rfl) <| R.call mixed cm (by kernel_rfl) <| R.call mixed (rset1_zero (x0 := x0) (y0 := y0) (z0 := z0) (a0 := a0) (b0 := b0) (c0 := c0) (d0 := d0) (e0 := e0) (f0 := f0) (x1 := x1) (y1 := y1) (z1 := z1) (a1 := a1) (b1 := b1) (c1 := c1) (d1 := d1) (e1 := e1) (f1 := f1) (x2 := x2) (y2 := y2) (z2 := z2) (a2 := a2) (b2 := b2) (c2 := c2) (d2 := d2) (e2 := e2) (f2 := f2) hR hs) (by kernel_rfl) <|
        R.call mixed c_awake17 (by kernel_rfl) <| R.fin mixed Try.func7 (by kernel_rfl)
    · exact R.call mixed (set1_pos (x0 := x0) (y0 := y0) (z0 := z0) (a0 := a0) (b0 := b0) (c0 := c0) (d0 := d0) (e0 := e0) (f0 := f0) (x1 := x1) (y1 := y1) (z1 := z1) (a1 := a1) (b1 := b1) (c1 := c1) (d1 := d1) (e1 := e1) (f1 := f1) (x2 := x2) (y2 := y2) (z2 := z2) (a2 := a2) (b2 := b2) (c2 := c2) (d2 := d2) (e2 := e2) (f2 := f2) m0 m1 m2 hN hB hs) (by kernel_rfl) <| R.call mixed cm (by kernel_rfl) <| R.call mixed (rset1_pos (x0 := x0) (y0 := y0) (z0 := z0) (a0 := a0) (b0 := b0) (c0 := c0) (d0 := d0) (e0 := e0) (f0 := f0) (x1 := x1) (y1 := y1) (z1 := z1) (a1 := a1) (b1 := b1) (c1 := c1) (d1 := d1) (e1 := e1) (f1 := f1) (x2 := x2) (y2 := y2) (z2 := z2) (a2 := a2) (b2 := b2) (c2 := c2) (d2 := d2) (e2 := e2) (f2 := f2) hR hB' hs) (by kernel_rfl) <|
        R.guardIs mixed 17 ((((eqs [x0, y0] [x0, y0] && ((z0 == z0) && (eqs [a0, b0, c0, d0, e0, f0] [a0, b0, c0, d0, e0, f0] && true)))) && (((eqs [x1, y1] [x1, y1] && ((z1 == z1) && (eqs [a1, b1, c1, d1, e1, f1] [a1, b1, c1, d1, e1, f1] && true)))) && (((eqs [x2, y2] [x2, y2] && ((z2 == z2) && (eqs [a2, b2, c2, d2, e2, f2] [a2, b2, c2, d2, e2, f2] && true)))) && true))) && ((N == N) && (eqs [(bx0 x0 x1 x2), (bx0 y0 y1 y2), (bx1 x0 x1 x2), (bx1 y0 y1 y2)] [(bx0 x0 x1 x2), (bx0 y0 y1 y2), (bx1 x0 x1 x2), (bx1 y0 y1 y2)] && true))) true (by simp [eqs_self]) (by kernel_rfl) <|
        R.call mixed c_awake17 (by kernel_rfl) <| R.fin mixed Try.func7 (by kernel_rfl)
  · exact R.call mixed (setNo1 h) (by kernel_rfl) <| R.call mixed (may28 (decide_eq_false h)) (by kernel_rfl) <| R.call mixed c_awake17 (by kernel_rfl) <| R.fin mixed Try.func7 (by kernel_rfl)

theorem setupLaw2 : RunsE Try.prog 7 0 (entry Try.f7 [S27 x0 y0 z0 a0 b0 c0 d0 e0 f0 x1 y1 z1 a1 b1 c1 d1 e1 f1 x2 y2 z2 a2 b2 c2 d2 e2 f2, .int .i64 2] []) (.bool true) := by
  rcases Decidable.em (may3 x0 y0 z0 a0 b0 c0 d0 e0 f0 x1 y1 z1 a1 b1 c1 d1 e1 f1 x2 y2 z2 a2 b2 c2 d2 e2 f2) with h | h
  · obtain ⟨m0, m1, m2⟩ := h
    have hN := c_edgeOk (ax := x0) (ay := y0) (bx := x1) (b_ := y1) (px := x2) (py := y2) (by simp [ok3, m0.1, m1.1, m2.1])
    have hR := c_rside x0 y0 x1 y1 x2 y2
    have hB := c_box (x0 := x0) (y0 := y0) (z0 := z0) (a0 := a0) (b0 := b0) (c0 := c0) (d0 := d0) (e0 := e0) (f0 := f0) (x1 := x1) (y1 := y1) (z1 := z1) (a1 := a1) (b1 := b1) (c1 := c1) (d1 := d1) (e1 := e1) (f1 := f1) (x2 := x2) (y2 := y2) (z2 := z2) (a2 := a2) (b2 := b2) (c2 := c2) (d2 := d2) (e2 := e2) (f2 := f2) m0.1 m1.1 m2.1
    have hB' := c_rbox (x0 := x0) (y0 := y0) (z0 := z0) (a0 := a0) (b0 := b0) (c0 := c0) (d0 := d0) (e0 := e0) (f0 := f0) (x1 := x1) (y1 := y1) (z1 := z1) (a1 := a1) (b1 := b1) (c1 := c1) (d1 := d1) (e1 := e1) (f1 := f1) (x2 := x2) (y2 := y2) (z2 := z2) (a2 := a2) (b2 := b2) (c2 := c2) (d2 := d2) (e2 := e2) (f2 := f2) m0.1 m1.1 m2.1
    have hC := c_box (x0 := x0) (y0 := y0) (z0 := z0) (a0 := a0) (b0 := b0) (c0 := c0) (d0 := d0) (e0 := e0) (f0 := f0) (x1 := x2) (y1 := y2) (z1 := z2) (a1 := a2) (b1 := b2) (c1 := c2) (d1 := d2) (e1 := e2) (f1 := f2) (x2 := x1) (y2 := y1) (z2 := z1) (a2 := a1) (b2 := b1) (c2 := c1) (d2 := d1) (e2 := e1) (f2 := f1) m0.1 m2.1 m1.1
    have hC' := c_rbox (x0 := x0) (y0 := y0) (z0 := z0) (a0 := a0) (b0 := b0) (c0 := c0) (d0 := d0) (e0 := e0) (f0 := f0) (x1 := x2) (y1 := y2) (z1 := z2) (a1 := a2) (b1 := b2) (c1 := c2) (d1 := d2) (e1 := e2) (f1 := f2) (x2 := x1) (y2 := y1) (z2 := z1) (a2 := a1) (b2 := b1) (c2 := c1) (d2 := d1) (e2 := e1) (f2 := f1) m0.1 m2.1 m1.1
    generalize sideR x0 y0 x1 y1 x2 y2 = N at *
    have cm := may28 (decide_eq_true (p := may3 x0 y0 z0 a0 b0 c0 d0 e0 f0 x1 y1 z1 a1 b1 c1 d1 e1 f1 x2 y2 z2 a2 b2 c2 d2 e2 f2) ⟨m0, m1, m2⟩)
    rcases Int.lt_trichotomy N 0 with hs | hs | hs
    · exact R.call mixed (set2_neg (x0 := x0) (y0 := y0) (z0 := z0) (a0 := a0) (b0 := b0) (c0 := c0) (d0 := d0) (e0 := e0) (f0 := f0) (x1 := x1) (y1 := y1) (z1 := z1) (a1 := a1) (b1 := b1) (c1 := c1) (d1 := d1) (e1 := e1) (f1 := f1) (x2 := x2) (y2 := y2) (z2 := z2) (a2 := a2) (b2 := b2) (c2 := c2) (d2 := d2) (e2 := e2) (f2 := f2) m0 m1 m2 hN hC hs) (by kernel_rfl) <| R.call mixed cm (by kernel_rfl) <| R.call mixed (rset2_neg (x0 := x0) (y0 := y0) (z0 := z0) (a0 := a0) (b0 := b0) (c0 := c0) (d0 := d0) (e0 := e0) (f0 := f0) (x1 := x1) (y1 := y1) (z1 := z1) (a1 := a1) (b1 := b1) (c1 := c1) (d1 := d1) (e1 := e1) (f1 := f1) (x2 := x2) (y2 := y2) (z2 := z2) (a2 := a2) (b2 := b2) (c2 := c2) (d2 := d2) (e2 := e2) (f2 := f2) hR hC' hs) (by kernel_rfl) <|
        R.guardIs mixed 17 ((((eqs [x0, y0] [x0, y0] && ((z0 == z0) && (eqs [a0, b0, c0, d0, e0, f0] [a0, b0, c0, d0, e0, f0] && true)))) && (((eqs [x2, y2] [x2, y2] && ((z2 == z2) && (eqs [a2, b2, c2, d2, e2, f2] [a2, b2, c2, d2, e2, f2] && true)))) && (((eqs [x1, y1] [x1, y1] && ((z1 == z1) && (eqs [a1, b1, c1, d1, e1, f1] [a1, b1, c1, d1, e1, f1] && true)))) && true))) && (((IntKind.i64.wrap (0 - N)) == (IntKind.i64.wrap (0 - N))) && (eqs [(bx0 x0 x2 x1), (bx0 y0 y2 y1), (bx1 x0 x2 x1), (bx1 y0 y2 y1)] [(bx0 x0 x2 x1), (bx0 y0 y2 y1), (bx1 x0 x2 x1), (bx1 y0 y2 y1)] && true))) true (by simp [eqs_self]) (by kernel_rfl) <|
        R.call mixed c_awake17 (by kernel_rfl) <| R.fin mixed Try.func7 (by kernel_rfl)
    · exact R.call mixed (set2_zero (x0 := x0) (y0 := y0) (z0 := z0) (a0 := a0) (b0 := b0) (c0 := c0) (d0 := d0) (e0 := e0) (f0 := f0) (x1 := x1) (y1 := y1) (z1 := z1) (a1 := a1) (b1 := b1) (c1 := c1) (d1 := d1) (e1 := e1) (f1 := f1) (x2 := x2) (y2 := y2) (z2 := z2) (a2 := a2) (b2 := b2) (c2 := c2) (d2 := d2) (e2 := e2) (f2 := f2) m0 m1 m2 hN hs) (by kernel_rfl) <| R.call mixed cm (by kernel_rfl) <| R.call mixed (rset2_zero (x0 := x0) (y0 := y0) (z0 := z0) (a0 := a0) (b0 := b0) (c0 := c0) (d0 := d0) (e0 := e0) (f0 := f0) (x1 := x1) (y1 := y1) (z1 := z1) (a1 := a1) (b1 := b1) (c1 := c1) (d1 := d1) (e1 := e1) (f1 := f1) (x2 := x2) (y2 := y2) (z2 := z2) (a2 := a2) (b2 := b2) (c2 := c2) (d2 := d2) (e2 := e2) (f2 := f2) hR hs) (by kernel_rfl) <|
        R.call mixed c_awake17 (by kernel_rfl) <| R.fin mixed Try.func7 (by kernel_rfl)
    · exact R.call mixed (set2_pos (x0 := x0) (y0 := y0) (z0 := z0) (a0 := a0) (b0 := b0) (c0 := c0) (d0 := d0) (e0 := e0) (f0 := f0) (x1 := x1) (y1 := y1) (z1 := z1) (a1 := a1) (b1 := b1) (c1 := c1) (d1 := d1) (e1 := e1) (f1 := f1) (x2 := x2) (y2 := y2) (z2 := z2) (a2 := a2) (b2 := b2) (c2 := c2) (d2 := d2) (e2 := e2) (f2 := f2) m0 m1 m2 hN hs) (by kernel_rfl) <| R.call mixed cm (by kernel_rfl) <| R.call mixed (rset2_pos (x0 := x0) (y0 := y0) (z0 := z0) (a0 := a0) (b0 := b0) (c0 := c0) (d0 := d0) (e0 := e0) (f0 := f0) (x1 := x1) (y1 := y1) (z1 := z1) (a1 := a1) (b1 := b1) (c1 := c1) (d1 := d1) (e1 := e1) (f1 := f1) (x2 := x2) (y2 := y2) (z2 := z2) (a2 := a2) (b2 := b2) (c2 := c2) (d2 := d2) (e2 := e2) (f2 := f2) hR hs) (by kernel_rfl) <|
        R.call mixed c_awake17 (by kernel_rfl) <| R.fin mixed Try.func7 (by kernel_rfl)
  · exact R.call mixed (setNo2 h) (by kernel_rfl) <| R.call mixed (may28 (decide_eq_false h)) (by kernel_rfl) <| R.call mixed c_awake17 (by kernel_rfl) <| R.fin mixed Try.func7 (by kernel_rfl)
end

theorem setups_ (x0 y0 z0 a0 b0 c0 d0 e0 f0 x1 y1 z1 a1 b1 c1 d1 e1 f1 x2 y2 z2 a2 b2 c2 d2 e2 f2 k : Int) : FnEq Try.prog 7 [S27 x0 y0 z0 a0 b0 c0 d0 e0 f0 x1 y1 z1 a1 b1 c1 d1 e1 f1 x2 y2 z2 a2 b2 c2 d2 e2 f2, .int .i64 k] [] (.bool true) [] := by
  refine FnEq.run Try.func7 (by kernel_rfl) rfl ?_
  rcases Decidable.em (k < 0 ∨ 2 < k) with h | h
  · exact setupKind h
  · have hk : k = 0 ∨ k = 1 ∨ k = 2 := by omega
    rcases hk with rfl | rfl | rfl
    · exact setupLaw0
    · exact setupLaw1
    · exact setupLaw2

end Go.Proofs.Ytfkmhhbpomkakaa.Tri
