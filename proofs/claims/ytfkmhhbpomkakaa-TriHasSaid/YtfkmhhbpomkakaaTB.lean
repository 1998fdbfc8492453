/- Package tri: what a triangle has at a pixel. -/
import Derived.Test.YtfkmhhbpomkakaaTA
namespace Go.Proofs.Ytfkmhhbpomkakaa.Tri
open Go Go.Dt Go.Proofs Go.Proofs.Ytfkmhhbpomkakaa.Wide Go.Proofs.Ytfkmhhbpomkakaa.Bary
set_option linter.unusedVariables false
set_option linter.unusedSimpArgs false

def tcells (x0 y0 z0 a0 b0 c0 d0 e0 f0 x1 y1 z1 a1 b1 c1 d1 e1 f1 x2 y2 z2 a2 b2 c2 d2 e2 f2 ar X0 Y0 X1 Y1 : Int) : List Value := [.int .i64 x0, .int .i64 y0, .int .i64 z0, .int .i64 a0, .int .i64 b0, .int .i64 c0, .int .i64 d0, .int .i64 e0, .int .i64 f0, .int .i64 x1, .int .i64 y1, .int .i64 z1, .int .i64 a1, .int .i64 b1, .int .i64 c1, .int .i64 d1, .int .i64 e1, .int .i64 f1, .int .i64 x2, .int .i64 y2, .int .i64 z2, .int .i64 a2, .int .i64 b2, .int .i64 c2, .int .i64 d2, .int .i64 e2, .int .i64 f2, .int .i64 ar, .int .i64 X0, .int .i64 Y0, .int .i64 X1, .int .i64 Y1]
def p_ (b : Nat) : Value := .pointer (some ⟨b, 0, none⟩)
def wcells (w0 w1 w2 : Int) : Blk := .cells [.int .i64 w0, .int .i64 w1, .int .i64 w2] 0 false
theorem b20 {n : Int} (h : ok20 n) : (-9223372036854775808 ≤ n ∧ n ≤ 9223372036854775807) ∧ (-1073741824 ≤ n ∧ n ≤ 1073741824) := by unfold ok20 at h; omega
theorem ofA0 (x y z a b c d e f : Int) : ConM Try.prog 67 [S9 x y z a b c d e f, p_ 0] [.cells [.int .i64 0] 0 false] (.int .i64 a) (List.replicate 1 .gone) := ConM.reads Try.func67 (by kernel_rfl) rfl <| R.fin mixed Try.func67 (by kernel_rfl)
theorem ofA1 (x y z a b c d e f : Int) : ConM Try.prog 67 [S9 x y z a b c d e f, p_ 0] [.cells [.int .i64 1] 0 false] (.int .i64 b) (List.replicate 1 .gone) := ConM.reads Try.func67 (by kernel_rfl) rfl <| R.fin mixed Try.func67 (by kernel_rfl)
theorem ofA2 (x y z a b c d e f : Int) : ConM Try.prog 67 [S9 x y z a b c d e f, p_ 0] [.cells [.int .i64 2] 0 false] (.int .i64 c) (List.replicate 1 .gone) := ConM.reads Try.func67 (by kernel_rfl) rfl <| R.fin mixed Try.func67 (by kernel_rfl)
theorem ofA3 (x y z a b c d e f : Int) : ConM Try.prog 67 [S9 x y z a b c d e f, p_ 0] [.cells [.int .i64 3] 0 false] (.int .i64 d) (List.replicate 1 .gone) := ConM.reads Try.func67 (by kernel_rfl) rfl <| R.fin mixed Try.func67 (by kernel_rfl)
theorem ofA4 (x y z a b c d e f : Int) : ConM Try.prog 67 [S9 x y z a b c d e f, p_ 0] [.cells [.int .i64 4] 0 false] (.int .i64 e) (List.replicate 1 .gone) := ConM.reads Try.func67 (by kernel_rfl) rfl <| R.fin mixed Try.func67 (by kernel_rfl)
theorem ofA5 (x y z a b c d e f : Int) : ConM Try.prog 67 [S9 x y z a b c d e f, p_ 0] [.cells [.int .i64 5] 0 false] (.int .i64 f) (List.replicate 1 .gone) := ConM.reads Try.func67 (by kernel_rfl) rfl <| R.fin mixed Try.func67 (by kernel_rfl)
theorem ofZ (x y z a b c d e f : Int) : ConM Try.prog 68 [S9 x y z a b c d e f] [] (.int .i64 z) (List.replicate 0 .gone) := ConM.reads Try.func68 (by kernel_rfl) rfl <| R.fin mixed Try.func68 (by kernel_rfl)

section
variable {x0 y0 z0 a0 b0 c0 d0 e0 f0 x1 y1 z1 a1 b1 c1 d1 e1 f1 x2 y2 z2 a2 b2 c2 d2 e2 f2 ar X0 Y0 X1 Y1 w0 w1 w2 : Int}
theorem wB (h : Bary.okM w0 0 ∧ Bary.okM w1 0 ∧ Bary.okM w2 0) : (-9223372036854775808 ≤ w0 ∧ w0 ≤ 9223372036854775807) ∧ (-9223372036854775808 ≤ w1 ∧ w1 ≤ 9223372036854775807) ∧ (-9223372036854775808 ≤ w2 ∧ w2 ≤ 9223372036854775807) := by
  unfold Bary.okM at h; omega
theorem mixA0 (h : mayM w0 w1 w2 a0 a1 a2) (h0 : ok20 a0) (h1 : ok20 a1) (h2 : ok20 a2) : ConM Try.prog 65 [.func (.func 67) ⟨[]⟩ ⟨[p_ 2]⟩, p_ 0, p_ 1] [wcells w0 w1 w2, .cells (tcells x0 y0 z0 a0 b0 c0 d0 e0 f0 x1 y1 z1 a1 b1 c1 d1 e1 f1 x2 y2 z2 a2 b2 c2 d2 e2 f2 ar X0 Y0 X1 Y1) 0 false, .cells [.int .i64 0] 0 false]
    (.int .i64 (mixed_ w0 w1 w2 a0 a1 a2)) (List.replicate 3 .gone) := by
  have hw := h
  unfold mayM Bary.okM at hw
  have cm := c_mix (w0 := w0) (w1 := w1) (w2 := w2) (v0 := a0) (v1 := a1) (v2 := a2) (by omega) (by omega) (by omega) (b20 h0).1 (b20 h1).1 (b20 h2).1 h
  exact ConM.reads Try.func65 (by kernel_rfl) rfl <| R.callM mixed [.win 2 0 1 false] (ofA0 x0 y0 z0 a0 b0 c0 d0 e0 f0) (by kernel_rfl) (by kernel_rfl) rfl <| R.callM mixed [.win 2 0 1 false] (ofA0 x1 y1 z1 a1 b1 c1 d1 e1 f1) (by kernel_rfl) (by kernel_rfl) rfl <|
    R.callM mixed [.win 2 0 1 false] (ofA0 x2 y2 z2 a2 b2 c2 d2 e2 f2) (by kernel_rfl) (by kernel_rfl) rfl <| R.call mixed cm (by kernel_rfl) <| R.fin mixed Try.func65 (by kernel_rfl)
theorem mixA1 (h : mayM w0 w1 w2 b0 b1 b2) (h0 : ok20 b0) (h1 : ok20 b1) (h2 : ok20 b2) : ConM Try.prog 65 [.func (.func 67) ⟨[]⟩ ⟨[p_ 2]⟩, p_ 0, p_ 1] [wcells w0 w1 w2, .cells (tcells x0 y0 z0 a0 b0 c0 d0 e0 f0 x1 y1 z1 a1 b1 c1 d1 e1 f1 x2 y2 z2 a2 b2 c2 d2 e2 f2 ar X0 Y0 X1 Y1) 0 false, .cells [.int .i64 1] 0 false]
    (.int .i64 (mixed_ w0 w1 w2 b0 b1 b2)) (List.replicate 3 .gone) := by
  have hw := h
  unfold mayM Bary.okM at hw
  have cm := c_mix (w0 := w0) (w1 := w1) (w2 := w2) (v0 := b0) (v1 := b1) (v2 := b2) (by omega) (by omega) (by omega) (b20 h0).1 (b20 h1).1 (b20 h2).1 h
  exact ConM.reads Try.func65 (by kernel_rfl) rfl <| R.callM mixed [.win 2 0 1 false] (ofA1 x0 y0 z0 a0 b0 c0 d0 e0 f0) (by kernel_rfl) (by kernel_rfl) rfl <| R.callM mixed [.win 2 0 1 false] (ofA1 x1 y1 z1 a1 b1 c1 d1 e1 f1) (by kernel_rfl) (by kernel_rfl) rfl <|
    R.callM mixed [.win 2 0 1 false] (ofA1 x2 y2 z2 a2 b2 c2 d2 e2 f2) (by kernel_rfl) (by kernel_rfl) rfl <| R.call mixed cm (by kernel_rfl) <| R.fin mixed Try.func65 (by kernel_rfl)
theorem mixA2 (h : mayM w0 w1 w2 c0 c1 c2) (h0 : ok20 c0) (h1 : ok20 c1) (h2 : ok20 c2) : ConM Try.prog 65 [.func (.func 67) ⟨[]⟩ ⟨[p_ 2]⟩, p_ 0, p_ 1] [wcells w0 w1 w2, .cells (tcells x0 y0 z0 a0 b0 c0 d0 e0 f0 x1 y1 z1 a1 b1 c1 d1 e1 f1 x2 y2 z2 a2 b2 c2 d2 e2 f2 ar X0 Y0 X1 Y1) 0 false, .cells [.int .i64 2] 0 false]
    (.int .i64 (mixed_ w0 w1 w2 c0 c1 c2)) (List.replicate 3 .gone) := by
  have hw := h
  unfold mayM Bary.okM at hw
  have cm := c_mix (w0 := w0) (w1 := w1) (w2 := w2) (v0 := c0) (v1 := c1) (v2 := c2) (by omega) (by omega) (by omega) (b20 h0).1 (b20 h1).1 (b20 h2).1 h
  exact ConM.reads Try.func65 (by kernel_rfl) rfl <| R.callM mixed [.win 2 0 1 false] (ofA2 x0 y0 z0 a0 b0 c0 d0 e0 f0) (by kernel_rfl) (by kernel_rfl) rfl <| R.callM mixed [.win 2 0 1 false] (ofA2 x1 y1 z1 a1 b1 c1 d1 e1 f1) (by kernel_rfl) (by kernel_rfl) rfl <|
    R.callM mixed [.win 2 0 1 false] (ofA2 x2 y2 z2 a2 b2 c2 d2 e2 f2) (by kernel_rfl) (by kernel_rfl) rfl <| R.call mixed cm (by kernel_rfl) <| R.fin mixed Try.func65 (by kernel_rfl)
theorem mixA3 (h : mayM w0 w1 w2 d0 d1 d2) (h0 : ok20 d0) (h1 : ok20 d1) (h2 : ok20 d2) : ConM Try.prog 65 [.func (.func 67) ⟨[]⟩ ⟨[p_ 2]⟩, p_ 0, p_ 1] [wcells w0 w1 w2, .cells (tcells x0 y0 z0 a0 b0 c0 d0 e0 f0 x1 y1 z1 a1 b1 c1 d1 e1 f1 x2 y2 z2 a2 b2 c2 d2 e2 f2 ar X0 Y0 X1 Y1) 0 false, .cells [.int .i64 3] 0 false]
    (.int .i64 (mixed_ w0 w1 w2 d0 d1 d2)) (List.replicate 3 .gone) := by
  have hw := h
  unfold mayM Bary.okM at hw
  have cm := c_mix (w0 := w0) (w1 := w1) (w2 := w2) (v0 := d0) (v1 := d1) (v2 := d2) (by omega) (by omega) (by omega) (b20 h0).1 (b20 h1).1 (b20 h2).1 h
  exact ConM.reads Try.func65 (by kernel_rfl) rfl <| R.callM mixed [.win 2 0 1 false] (ofA3 x0 y0 z0 a0 b0 c0 d0 e0 f0) (by kernel_rfl) (by kernel_rfl) rfl <| R.callM mixed [.win 2 0 1 false] (ofA3 x1 y1 z1 a1 b1 c1 d1 e1 f1) (by kernel_rfl) (by kernel_rfl) rfl <|
    R.callM mixed [.win 2 0 1 false] (ofA3 x2 y2 z2 a2 b2 c2 d2 e2 f2) (by kernel_rfl) (by kernel_rfl) rfl <| R.call mixed cm (by kernel_rfl) <| R.fin mixed Try.func65 (by kernel_rfl)
theorem mixA4 (h : mayM w0 w1 w2 e0 e1 e2) (h0 : ok20 e0) (h1 : ok20 e1) (h2 : ok20 e2) : ConM Try.prog 65 [.func (.func 67) ⟨[]⟩ ⟨[p_ 2]⟩, p_ 0, p_ 1] [wcells w0 w1 w2, .cells (tcells x0 y0 z0 a0 b0 c0 d0 e0 f0 x1 y1 z1 a1 b1 c1 d1 e1 f1 x2 y2 z2 a2 b2 c2 d2 e2 f2 ar X0 Y0 X1 Y1) 0 false, .cells [.int .i64 4] 0 false]
    (.int .i64 (mixed_ w0 w1 w2 e0 e1 e2)) (List.replicate 3 .gone) := by
  have hw := h
  unfold mayM Bary.okM at hw
  have cm := c_mix (w0 := w0) (w1 := w1) (w2 := w2) (v0 := e0) (v1 := e1) (v2 := e2) (by omega) (by omega) (by omega) (b20 h0).1 (b20 h1).1 (b20 h2).1 h
  exact ConM.reads Try.func65 (by kernel_rfl) rfl <| R.callM mixed [.win 2 0 1 false] (ofA4 x0 y0 z0 a0 b0 c0 d0 e0 f0) (by kernel_rfl) (by kernel_rfl) rfl <| R.callM mixed [.win 2 0 1 false] (ofA4 x1 y1 z1 a1 b1 c1 d1 e1 f1) (by kernel_rfl) (by kernel_rfl) rfl <|
    R.callM mixed [.win 2 0 1 false] (ofA4 x2 y2 z2 a2 b2 c2 d2 e2 f2) (by kernel_rfl) (by kernel_rfl) rfl <| R.call mixed cm (by kernel_rfl) <| R.fin mixed Try.func65 (by kernel_rfl)
theorem mixA5 (h : mayM w0 w1 w2 f0 f1 f2) (h0 : ok20 f0) (h1 : ok20 f1) (h2 : ok20 f2) : ConM Try.prog 65 [.func (.func 67) ⟨[]⟩ ⟨[p_ 2]⟩, p_ 0, p_ 1] [wcells w0 w1 w2, .cells (tcells x0 y0 z0 a0 b0 c0 d0 e0 f0 x1 y1 z1 a1 b1 c1 d1 e1 f1 x2 y2 z2 a2 b2 c2 d2 e2 f2 ar X0 Y0 X1 Y1) 0 false, .cells [.int .i64 5] 0 false]
    (.int .i64 (mixed_ w0 w1 w2 f0 f1 f2)) (List.replicate 3 .gone) := by
  have hw := h
  unfold mayM Bary.okM at hw
  have cm := c_mix (w0 := w0) (w1 := w1) (w2 := w2) (v0 := f0) (v1 := f1) (v2 := f2) (by omega) (by omega) (by omega) (b20 h0).1 (b20 h1).1 (b20 h2).1 h
  exact ConM.reads Try.func65 (by kernel_rfl) rfl <| R.callM mixed [.win 2 0 1 false] (ofA5 x0 y0 z0 a0 b0 c0 d0 e0 f0) (by kernel_rfl) (by kernel_rfl) rfl <| R.callM mixed [.win 2 0 1 false] (ofA5 x1 y1 z1 a1 b1 c1 d1 e1 f1) (by kernel_rfl) (by kernel_rfl) rfl <|
    R.callM mixed [.win 2 0 1 false] (ofA5 x2 y2 z2 a2 b2 c2 d2 e2 f2) (by kernel_rfl) (by kernel_rfl) rfl <| R.call mixed cm (by kernel_rfl) <| R.fin mixed Try.func65 (by kernel_rfl)
theorem mixZ (h : mayM w0 w1 w2 z0 z1 z2) : ConM Try.prog 65 [.func (.func 68) ⟨[]⟩ ⟨[]⟩, p_ 0, p_ 1] [wcells w0 w1 w2, .cells (tcells x0 y0 z0 a0 b0 c0 d0 e0 f0 x1 y1 z1 a1 b1 c1 d1 e1 f1 x2 y2 z2 a2 b2 c2 d2 e2 f2 ar X0 Y0 X1 Y1) 0 false] (.int .i64 (mixed_ w0 w1 w2 z0 z1 z2)) (List.replicate 2 .gone) := by
  have hw := h
  unfold mayM Bary.okM at hw
  have cm := c_mix (w0 := w0) (w1 := w1) (w2 := w2) (v0 := z0) (v1 := z1) (v2 := z2) (by omega) (by omega) (by omega) (by omega) (by omega) (by omega) h
  exact ConM.reads Try.func65 (by kernel_rfl) rfl <| R.callM mixed [] (ofZ x0 y0 z0 a0 b0 c0 d0 e0 f0) (by kernel_rfl) (by kernel_rfl) rfl <| R.callM mixed [] (ofZ x1 y1 z1 a1 b1 c1 d1 e1 f1) (by kernel_rfl) (by kernel_rfl) rfl <|
    R.callM mixed [] (ofZ x2 y2 z2 a2 b2 c2 d2 e2 f2) (by kernel_rfl) (by kernel_rfl) rfl <| R.call mixed cm (by kernel_rfl) <| R.fin mixed Try.func65 (by kernel_rfl)

abbrev A6 (a b c d e f : Int) : Value := .agg ⟨[.int .i64 a, .int .i64 b, .int .i64 c, .int .i64 d, .int .i64 e, .int .i64 f]⟩
theorem c_points : Con Try.prog 64 [T32 x0 y0 z0 a0 b0 c0 d0 e0 f0 x1 y1 z1 a1 b1 c1 d1 e1 f1 x2 y2 z2 a2 b2 c2 d2 e2 f2 ar X0 Y0 X1 Y1] (T6 x0 y0 x1 y1 x2 y2) := Con.run Try.func64 (by kernel_rfl) rfl <| R.fin mixed Try.func64 (by kernel_rfl)

/-- What a triangle has at a pixel that it has. -/
theorem at_ {px py mx my : Int} (h0 : okP x0 y0 = true) (h1 : okP x1 y1 = true) (h2 : okP x2 y2 = true) (hm : okP mx my = true) (r0 : restS z0 a0 b0 c0 d0 e0 f0) (r1 : restS z1 a1 b1 c1 d1 e1 f1) (r2 : restS z2 a2 b2 c2 d2 e2 f2)
    (hH : Con Try.prog 33 [T32 x0 y0 z0 a0 b0 c0 d0 e0 f0 x1 y1 z1 a1 b1 c1 d1 e1 f1 x2 y2 z2 a2 b2 c2 d2 e2 f2 ar X0 Y0 X1 Y1, .int .i64 px, .int .i64 py] (.bool true)) (hM : Con Try.prog 62 [.int .i64 px, .int .i64 py] (.tuple ⟨[PT mx my, .int .i64 0]⟩))
    (hs0 : sideR x1 y1 x2 y2 mx my = w0) (hs1 : sideR x2 y2 x0 y0 mx my = w1) (hs2 : sideR x0 y0 x1 y1 mx my = w2) (q0 : 0 ≤ w0) (q1 : 0 ≤ w1) (q2 : 0 ≤ w2) (qs : 0 < w0 + w1 + w2) (u0 : w0 ≤ 4398046511104) (u1 : w1 ≤ 4398046511104) (u2 : w2 ≤ 4398046511104) :
    Con Try.prog 32 [T32 x0 y0 z0 a0 b0 c0 d0 e0 f0 x1 y1 z1 a1 b1 c1 d1 e1 f1 x2 y2 z2 a2 b2 c2 d2 e2 f2 ar X0 Y0 X1 Y1, .int .i64 px, .int .i64 py] (.tuple ⟨[.int .i64 (mixed_ w0 w1 w2 z0 z1 z2), A6 (mixed_ w0 w1 w2 a0 a1 a2) (mixed_ w0 w1 w2 b0 b1 b2) (mixed_ w0 w1 w2 c0 c1 c2) (mixed_ w0 w1 w2 d0 d1 d2) (mixed_ w0 w1 w2 e0 e1 e2) (mixed_ w0 w1 w2 f0 f1 f2), .bool true]⟩) := by
  have hw := c_weights h0 h1 h2 hm
  rw [hs0, hs1, hs2] at hw
  obtain ⟨k0, ka0, kb0, kc0, kd0, ke0, kf0⟩ := r0
  obtain ⟨k1, ka1, kb1, kc1, kd1, ke1, kf1⟩ := r1
  obtain ⟨k2, ka2, kb2, kc2, kd2, ke2, kf2⟩ := r2
  have M : ∀ {v0 v1 v2 : Int}, (-1073741824 ≤ v0 ∧ v0 ≤ 1073741824) → (-1073741824 ≤ v1 ∧ v1 ≤ 1073741824) → (-1073741824 ≤ v2 ∧ v2 ≤ 1073741824) → mayM w0 w1 w2 v0 v1 v2 := fun a b c => ⟨⟨q0, u0, a.1, a.2⟩, ⟨q1, u1, b.1, b.2⟩, ⟨q2, u2, c.1, c.2⟩, qs⟩
  exact Con.run Try.func32 (by kernel_rfl) rfl <| R.call mixed hH (by kernel_rfl) <| R.call mixed hM (by kernel_rfl) <| R.call mixed (@c_points x0 y0 z0 a0 b0 c0 d0 e0 f0 x1 y1 z1 a1 b1 c1 d1 e1 f1 x2 y2 z2 a2 b2 c2 d2 e2 f2 ar X0 Y0 X1 Y1) (by kernel_rfl) <| R.call mixed hw (by kernel_rfl) <|
    R.callM mixed [.win 3 0 3 false, .win 0 0 32 false, .win 5 0 1 false] (@mixA0 x0 y0 z0 a0 b0 c0 d0 e0 f0 x1 y1 z1 a1 b1 c1 d1 e1 f1 x2 y2 z2 a2 b2 c2 d2 e2 f2 ar X0 Y0 X1 Y1 w0 w1 w2 (M (b20 ka0).2 (b20 ka1).2 (b20 ka2).2) ka0 ka1 ka2) (by kernel_rfl) (by kernel_rfl) rfl <|
    R.callM mixed [.win 3 0 3 false, .win 0 0 32 false, .win 6 0 1 false] (@mixA1 x0 y0 z0 a0 b0 c0 d0 e0 f0 x1 y1 z1 a1 b1 c1 d1 e1 f1 x2 y2 z2 a2 b2 c2 d2 e2 f2 ar X0 Y0 X1 Y1 w0 w1 w2 (M (b20 kb0).2 (b20 kb1).2 (b20 kb2).2) kb0 kb1 kb2) (by kernel_rfl) (by kernel_rfl) rfl <|
    R.callM mixed [.win 3 0 3 false, .win 0 0 32 false, .win 7 0 1 false] (@mixA2 x0 y0 z0 a0 b0 c0 d0 e0 f0 x1 y1 z1 a1 b1 c1 d1 e1 f1 x2 y2 z2 a2 b2 c2 d2 e2 f2 ar X0 Y0 X1 Y1 w0 w1 w2 (M (b20 kc0).2 (b20 kc1).2 (b20 kc2).2) kc0 kc1 kc2) (by kernel_rfl) (by kernel_rfl) rfl <|
    R.callM mixed [.win 3 0 3 false, .win 0 0 32 false, .win 8 0 1 false] (@mixA3 x0 y0 z0 a0 b0 c0 d0 e0 f0 x1 y1 z1 a1 b1 c1 d1 e1 f1 x2 y2 z2 a2 b2 c2 d2 e2 f2 ar X0 Y0 X1 Y1 w0 w1 w2 (M (b20 kd0).2 (b20 kd1).2 (b20 kd2).2) kd0 kd1 kd2) (by kernel_rfl) (by kernel_rfl) rfl <|
    R.callM mixed [.win 3 0 3 false, .win 0 0 32 false, .win 9 0 1 false] (@mixA4 x0 y0 z0 a0 b0 c0 d0 e0 f0 x1 y1 z1 a1 b1 c1 d1 e1 f1 x2 y2 z2 a2 b2 c2 d2 e2 f2 ar X0 Y0 X1 Y1 w0 w1 w2 (M (b20 ke0).2 (b20 ke1).2 (b20 ke2).2) ke0 ke1 ke2) (by kernel_rfl) (by kernel_rfl) rfl <|
    R.callM mixed [.win 3 0 3 false, .win 0 0 32 false, .win 10 0 1 false] (@mixA5 x0 y0 z0 a0 b0 c0 d0 e0 f0 x1 y1 z1 a1 b1 c1 d1 e1 f1 x2 y2 z2 a2 b2 c2 d2 e2 f2 ar X0 Y0 X1 Y1 w0 w1 w2 (M (b20 kf0).2 (b20 kf1).2 (b20 kf2).2) kf0 kf1 kf2) (by kernel_rfl) (by kernel_rfl) rfl <|
    R.callM mixed [.win 3 0 3 false, .win 0 0 32 false] (@mixZ x0 y0 z0 a0 b0 c0 d0 e0 f0 x1 y1 z1 a1 b1 c1 d1 e1 f1 x2 y2 z2 a2 b2 c2 d2 e2 f2 ar X0 Y0 X1 Y1 w0 w1 w2 (@M z0 z1 z2 (by omega) (by omega) (by omega))) (by kernel_rfl) (by kernel_rfl) rfl <| R.fin mixed Try.func32 (by kernel_rfl)
end

end Go.Proofs.Ytfkmhhbpomkakaa.Tri
