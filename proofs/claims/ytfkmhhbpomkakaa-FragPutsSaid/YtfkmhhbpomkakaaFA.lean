/- Pixels: which are right; what is cleared. -/
import Derived.Test.YtfkmhhbpomkakaaDt22
import Derived.Test.YtfkmhhbpomkakaaDt20
namespace Go.Proofs.Ytfkmhhbpomkakaa.Frag
open Go Go.Dt Go.Proofs
set_option linter.unusedVariables false
set_option linter.unusedSimpArgs false

theorem mixed : Try.prog.follows .mixedOrders = true := by kernel_rfl
abbrev C4 (r g b a : Int) : Value := .agg ⟨[.int .i64 r, .int .i64 g, .int .i64 b, .int .i64 a]⟩
abbrev P6 (r g b a z s : Int) : Value := .agg ⟨[.int .i64 r, .int .i64 g, .int .i64 b, .int .i64 a, .int .i64 z, .int .i64 s]⟩
def is8 (n : Int) : Bool := decide (0 ≤ n) && decide (n ≤ 255)
def is16 (n : Int) : Bool := decide (0 ≤ n) && decide (n ≤ 65535)
def rightC (r g b a : Int) : Bool := is8 r && (is8 g && (is8 b && is8 a))
def okPx (r g b a z s : Int) : Bool := rightC r g b a && (is16 z && is8 s)
def sat (n lo hi : Int) : Int := if n < lo then lo else if n > hi then hi else n

theorem c_sat (n lo hi : Int) : Con Try.prog 120 [.int .i64 n, .int .i64 lo, .int .i64 hi] (.int .i64 (sat n lo hi)) := by
  refine Con.run Try.func120 rfl rfl (R.branch mixed 13 (decide (n < lo)) (by kernel_rfl) (fun h => ?_) (fun h => R.branch mixed 7 (decide (n > hi)) (by kernel_rfl) (fun h2 => ?_) (fun h2 => ?_)))
  · rw [sat, if_pos (by simpa using h)]; exact R.fin mixed Try.func120 (by kernel_rfl)
  · rw [sat, if_neg (by simpa using h), if_pos (by simpa using h2)]; exact R.fin mixed Try.func120 (by kernel_rfl)
  · rw [sat, if_neg (by simpa using h), if_neg (by simpa using h2)]; exact R.fin mixed Try.func120 (by kernel_rfl)
theorem c_sat255 (n m : Int) : Con Try.prog 119 [.int .i64 n, .int .i64 m] (.int .i64 (sat n 0 255)) := Con.run Try.func119 rfl rfl <| R.call mixed (c_sat n 0 255) (by kernel_rfl) <| R.fin mixed Try.func119 (by kernel_rfl)
theorem c_each (r g b a : Int) : ConM Try.prog 118 [C4 r g b a, C4 r g b a, .func (.func 119) ⟨[]⟩ ⟨[]⟩] [] (C4 (sat r 0 255) (sat g 0 255) (sat b 0 255) (sat a 0 255)) (List.replicate 0 .gone) :=
  ConM.reads Try.func118 rfl rfl <| R.call mixed (c_sat255 r r) (by kernel_rfl) <| R.call mixed (c_sat255 g g) (by kernel_rfl) <| R.call mixed (c_sat255 b b) (by kernel_rfl) <| R.call mixed (c_sat255 a a) (by kernel_rfl) <| R.fin mixed Try.func118 (by kernel_rfl)
theorem sat_is8 (n : Int) : (n == sat n 0 255) = is8 n := by
  unfold sat is8
  split
  · rw [beq_eq_false_iff_ne.2 (by omega), decide_eq_false (by omega)]; rfl
  · split
    · rw [beq_eq_false_iff_ne.2 (by omega), decide_eq_false (p := n ≤ 255) (by omega)]; simp
    · simp; omega
theorem c_tint (r g b a : Int) : Con Try.prog 74 [C4 r g b a] (.bool (rightC r g b a)) :=
  (Con.run (v := .bool (eqs [r, g, b, a] [sat r 0 255, sat g 0 255, sat b 0 255, sat a 0 255])) Try.func74 rfl rfl <| R.callM mixed [] (c_each r g b a) (by kernel_rfl) (by kernel_rfl) rfl <| R.fin mixed Try.func74 (by kernel_rfl)).val rfl (by
    simp only [eqs, sat_is8, rightC, Bool.and_true])

theorem c_is8 (n : Int) : Con Try.prog 129 [.int .i64 n] (.bool (is8 n)) := by
  refine Con.run Try.func129 rfl rfl (R.guard mixed 9 (decide (n ≥ 0)) (by kernel_rfl) (fun h => ?_) (fun h => ?_))
  · exact R.finIs mixed Try.func129 (.bool (bif true then decide (n ≤ 255) else false)) (by kernel_rfl) (by simp at h; simp [is8, h])
  · exact R.finIs mixed Try.func129 (.bool false) (by kernel_rfl) (by simp at h; simp [is8]; omega)

theorem c_is8b (n : Int) : Con Try.prog 89 [.int .i64 n] (.bool (is8 n)) := by
  refine Con.run Try.func89 rfl rfl (R.guard mixed 9 (decide (n ≥ 0)) (by kernel_rfl) (fun h => ?_) (fun h => ?_))
  · exact R.finIs mixed Try.func89 (.bool (bif true then decide (n ≤ 255) else false)) (by kernel_rfl) (by simp at h; simp [is8, h])
  · exact R.finIs mixed Try.func89 (.bool false) (by kernel_rfl) (by simp at h; simp [is8]; omega)

theorem c_deep (n : Int) : Con Try.prog 88 [.int .i64 n] (.bool (is16 n)) := by
  refine Con.run Try.func88 rfl rfl (R.guard mixed 9 (decide (n ≥ 0)) (by kernel_rfl) (fun h => ?_) (fun h => ?_))
  · exact R.finIs mixed Try.func88 (.bool (bif true then decide (n ≤ 65535) else false)) (by kernel_rfl) (by simp at h; simp [is16, h])
  · exact R.finIs mixed Try.func88 (.bool false) (by kernel_rfl) (by simp at h; simp [is16]; omega)

theorem c_deepf (n : Int) : Con Try.prog 75 [.int .i64 n] (.bool (is16 n)) := by
  refine Con.run Try.func75 rfl rfl (R.guard mixed 9 (decide (n ≥ 0)) (by kernel_rfl) (fun h => ?_) (fun h => ?_))
  · exact R.finIs mixed Try.func75 (.bool (bif true then decide (n ≤ 65535) else false)) (by kernel_rfl) (by simp at h; simp [is16, h])
  · exact R.finIs mixed Try.func75 (.bool false) (by kernel_rfl) (by simp at h; simp [is16]; omega)

theorem c_rightC (r g b a : Int) : Con Try.prog 87 [C4 r g b a] (.bool (rightC r g b a)) := by
  have k1 := c_is8 r
  have k2 := c_is8 g
  have k3 := c_is8 b
  have k4 := c_is8 a
  unfold rightC
  cases h1 : is8 r with
  | false => rw [h1] at k1; exact Con.run Try.func87 rfl rfl <| R.call mixed k1 (by kernel_rfl) <| R.fin mixed Try.func87 (by kernel_rfl)
  | true =>
    cases h2 : is8 g with
    | false => rw [h1] at k1; rw [h2] at k2; exact Con.run Try.func87 rfl rfl <| R.call mixed k1 (by kernel_rfl) <| R.call mixed k2 (by kernel_rfl) <| R.fin mixed Try.func87 (by kernel_rfl)
    | true =>
      cases h3 : is8 b with
      | false => rw [h1] at k1; rw [h2] at k2; rw [h3] at k3; exact Con.run Try.func87 rfl rfl <| R.call mixed k1 (by kernel_rfl) <| R.call mixed k2 (by kernel_rfl) <| R.call mixed k3 (by kernel_rfl) <| R.fin mixed Try.func87 (by kernel_rfl)
      | true => rw [h1] at k1; rw [h2] at k2; rw [h3] at k3; exact Con.run Try.func87 rfl rfl <| R.call mixed k1 (by kernel_rfl) <| R.call mixed k2 (by kernel_rfl) <| R.call mixed k3 (by kernel_rfl) <| R.call mixed k4 (by kernel_rfl) <| R.fin mixed Try.func87 (by kernel_rfl)

theorem c_rright (r g b a z s : Int) : Con Try.prog 42 [P6 r g b a z s] (.bool (okPx r g b a z s)) := by
  have k1 := c_rightC r g b a
  have k2 := c_deep z
  have k3 := c_is8b s
  unfold okPx
  cases h1 : rightC r g b a with
  | false => rw [h1] at k1; exact Con.run Try.func42 rfl rfl <| R.call mixed k1 (by kernel_rfl) <| R.fin mixed Try.func42 (by kernel_rfl)
  | true =>
    cases h2 : is16 z with
    | false => rw [h1] at k1; rw [h2] at k2; exact Con.run Try.func42 rfl rfl <| R.call mixed k1 (by kernel_rfl) <| R.call mixed k2 (by kernel_rfl) <| R.fin mixed Try.func42 (by kernel_rfl)
    | true => rw [h1] at k1; rw [h2] at k2; exact Con.run Try.func42 rfl rfl <| R.call mixed k1 (by kernel_rfl) <| R.call mixed k2 (by kernel_rfl) <| R.call mixed k3 (by kernel_rfl) <| R.fin mixed Try.func42 (by kernel_rfl)

theorem c_right (r g b a z s : Int) : Con Try.prog 41 [P6 r g b a z s] (.bool (okPx r g b a z s)) := by
  have k1 := c_tint r g b a
  have k2 := c_deepf z
  unfold okPx
  cases h1 : rightC r g b a with
  | false => rw [h1] at k1; exact Con.run Try.func41 rfl rfl <| R.call mixed k1 (by kernel_rfl) <| R.fin mixed Try.func41 (by kernel_rfl)
  | true =>
    cases h2 : is16 z with
    | false => rw [h1] at k1; rw [h2] at k2; exact Con.run Try.func41 rfl rfl <| R.call mixed k1 (by kernel_rfl) <| R.call mixed k2 (by kernel_rfl) <| R.fin mixed Try.func41 (by kernel_rfl)
    | true =>
      rw [h1] at k1; rw [h2] at k2
      refine Con.run Try.func41 rfl rfl <| R.call mixed k1 (by kernel_rfl) <| R.call mixed k2 (by kernel_rfl) <| R.guard mixed 7 (decide (s ≥ 0)) (by kernel_rfl) (fun h => ?_) (fun h => ?_)
      · exact R.finIs mixed Try.func41 (.bool (bif true then decide (s ≤ 255) else false)) (by kernel_rfl) (by simp at h; simp [is8, h])
      · exact R.finIs mixed Try.func41 (.bool false) (by kernel_rfl) (by simp at h; simp [is8]; omega)

theorem okR {r g b a z s : Int} {o : Bool} (h : okPx r g b a z s = o) : Con Try.prog 41 [P6 r g b a z s] (.bool o) := h ▸ c_right r g b a z s
theorem okRR {r g b a z s : Int} {o : Bool} (h : okPx r g b a z s = o) : Con Try.prog 42 [P6 r g b a z s] (.bool o) := h ▸ c_rright r g b a z s

/-! ### What is cleared -/
def sel (c : Bool) (x y : Int) : Int := bif c then y else x
theorem sel_sel (c : Bool) (x y : Int) : sel c (sel c x y) y = sel c x y := by cases c <;> rfl
abbrev clr (k r g b a z s r' g' b' a' z' s' : Int) : Value := P6 (sel (k % 2 == 1) r r') (sel (k % 2 == 1) g g') (sel (k % 2 == 1) b b') (sel (k % 2 == 1) a a') (sel (k / 2 % 2 == 1) z z') (sel (k / 4 == 1) s s')

theorem awake19 : FnEq Try.prog 40 [] [] (.bool true) [] := FnEq.eval mixed (X := []) (fun f e h => by simp at h) 3000 Try.func40 (by kernel_rfl) rfl (by kernel_rfl)
theorem c_awake19 : Con Try.prog 40 [] (.bool true) := Con.of Try.func40 rfl rfl awake19

theorem clearKind (k r g b a z s r' g' b' a' z' s' : Int) (h : k < 1 ∨ 7 < k) : Con Try.prog 45 [P6 r g b a z s, .int .i64 k, P6 r' g' b' a' z' s'] (.tuple ⟨[P6 0 0 0 0 0 0, .int .i64 9]⟩) := by
  refine Con.run Try.func45 rfl rfl ?_
  rcases Decidable.em (k < 1) with h1 | h1
  · exact R.guardIs mixed 14 (decide (k < 1)) true (decide_eq_true h1) (by kernel_rfl) <| R.fin mixed Try.func45 (by kernel_rfl)
  · exact R.guardIs mixed 14 (decide (k < 1)) false (decide_eq_false h1) (by kernel_rfl) <| R.cond mixed 5 (bif false then true else decide (k > 7)) true (by simp; omega) (by kernel_rfl) <| R.fin mixed Try.func45 (by kernel_rfl)

theorem clear1 (r g b a z s r' g' b' a' z' s' : Int) (h1 : okPx r g b a z s = true) (h2 : okPx r' g' b' a' z' s' = true) : Con Try.prog 45 [P6 r g b a z s, .int .i64 1, P6 r' g' b' a' z' s'] (.tuple ⟨[clr 1 r g b a z s r' g' b' a' z' s', .int .i64 0]⟩) :=
  Con.run Try.func45 rfl rfl <| R.call mixed (okR h1) (by kernel_rfl) <| R.call mixed (okR h2) (by kernel_rfl) <| R.fin mixed Try.func45 (by kernel_rfl)
theorem clearNo1 (r g b a z s r' g' b' a' z' s' : Int) (h : (okPx r g b a z s && okPx r' g' b' a' z' s') = false) : Con Try.prog 45 [P6 r g b a z s, .int .i64 1, P6 r' g' b' a' z' s'] (.tuple ⟨[P6 0 0 0 0 0 0, .int .i64 3]⟩) := by
  cases h1 : okPx r g b a z s with
  | false => exact Con.run Try.func45 rfl rfl <| R.call mixed (okR h1) (by kernel_rfl) <| R.fin mixed Try.func45 (by kernel_rfl)
  | true =>
    have h2 : okPx r' g' b' a' z' s' = false := by simpa [h1] using h
    exact Con.run Try.func45 rfl rfl <| R.call mixed (okR h1) (by kernel_rfl) <| R.call mixed (okR h2) (by kernel_rfl) <| R.fin mixed Try.func45 (by kernel_rfl)
theorem rclear1 (r g b a z s r' g' b' a' z' s' : Int) : Con Try.prog 46 [P6 r g b a z s, .int .i64 1, P6 r' g' b' a' z' s'] (clr 1 r g b a z s r' g' b' a' z' s') := Con.run Try.func46 rfl rfl <| R.fin mixed Try.func46 (by kernel_rfl)
theorem clearLaw1 (r g b a z s r' g' b' a' z' s' : Int) : RunsE Try.prog 12 0 (entry Try.f12 [P6 r g b a z s, .int .i64 1, P6 r' g' b' a' z' s'] []) (.bool true) := by
  cases h : (okPx r g b a z s && okPx r' g' b' a' z' s') with
  | false =>
    cases h1 : okPx r g b a z s with
    | false => exact R.call mixed (clearNo1 _ _ _ _ _ _ _ _ _ _ _ _ h) (by kernel_rfl) <| R.call mixed (okRR h1) (by kernel_rfl) <| R.call mixed c_awake19 (by kernel_rfl) <| R.fin mixed Try.func12 (by kernel_rfl)
    | true =>
      have h2 : okPx r' g' b' a' z' s' = false := by simpa [h1] using h
      exact R.call mixed (clearNo1 _ _ _ _ _ _ _ _ _ _ _ _ h) (by kernel_rfl) <| R.call mixed (okRR h1) (by kernel_rfl) <| R.call mixed (okRR h2) (by kernel_rfl) <| R.call mixed c_awake19 (by kernel_rfl) <| R.fin mixed Try.func12 (by kernel_rfl)
  | true =>
    rw [Bool.and_eq_true] at h
    have h3 : okPx (sel ((1 : Int) % 2 == 1) r r') (sel ((1 : Int) % 2 == 1) g g') (sel ((1 : Int) % 2 == 1) b b') (sel ((1 : Int) % 2 == 1) a a') (sel ((1 : Int) / 2 % 2 == 1) z z') (sel ((1 : Int) / 4 == 1) s s') = true := by
      have a1 := h.1
      have a2 := h.2
      simp only [okPx, rightC, Bool.and_eq_true] at a1 a2
      simp [okPx, rightC, sel, a1, a2]
    have c2 := clear1 (sel ((1 : Int) % 2 == 1) r r') (sel ((1 : Int) % 2 == 1) g g') (sel ((1 : Int) % 2 == 1) b b') (sel ((1 : Int) % 2 == 1) a a') (sel ((1 : Int) / 2 % 2 == 1) z z') (sel ((1 : Int) / 4 == 1) s s') r' g' b' a' z' s' h3 h.2
    unfold clr at c2
    simp only [sel_sel] at c2
    exact R.call mixed (clear1 r g b a z s r' g' b' a' z' s' h.1 h.2) (by kernel_rfl) <| R.call mixed (okRR h.1) (by kernel_rfl) <| R.call mixed (okRR h.2) (by kernel_rfl) <| R.call mixed c2 (by kernel_rfl) <| R.call mixed (rclear1 r g b a z s r' g' b' a' z' s') (by kernel_rfl) <|
      R.guardIs mixed 3 (eqs [sel ((1 : Int) % 2 == 1) r r', sel ((1 : Int) % 2 == 1) g g', sel ((1 : Int) % 2 == 1) b b', sel ((1 : Int) % 2 == 1) a a'] [sel ((1 : Int) % 2 == 1) r r', sel ((1 : Int) % 2 == 1) g g', sel ((1 : Int) % 2 == 1) b b', sel ((1 : Int) % 2 == 1) a a'] && eqs [sel ((1 : Int) / 2 % 2 == 1) z z', sel ((1 : Int) / 4 == 1) s s'] [sel ((1 : Int) / 2 % 2 == 1) z z', sel ((1 : Int) / 4 == 1) s s']) true (by rw [eqs_self, eqs_self]; rfl) (by kernel_rfl) <|
      R.guardIs mixed 5 (eqs [sel ((1 : Int) % 2 == 1) r r', sel ((1 : Int) % 2 == 1) g g', sel ((1 : Int) % 2 == 1) b b', sel ((1 : Int) % 2 == 1) a a'] [sel ((1 : Int) % 2 == 1) r r', sel ((1 : Int) % 2 == 1) g g', sel ((1 : Int) % 2 == 1) b b', sel ((1 : Int) % 2 == 1) a a'] && eqs [sel ((1 : Int) / 2 % 2 == 1) z z', sel ((1 : Int) / 4 == 1) s s'] [sel ((1 : Int) / 2 % 2 == 1) z z', sel ((1 : Int) / 4 == 1) s s']) true (by rw [eqs_self, eqs_self]; rfl) (by kernel_rfl) <|
      R.call mixed c_awake19 (by kernel_rfl) <| R.fin mixed Try.func12 (by kernel_rfl)

theorem clear2 (r g b a z s r' g' b' a' z' s' : Int) (h1 : okPx r g b a z s = true) (h2 : okPx r' g' b' a' z' s' = true) : Con Try.prog 45 [P6 r g b a z s, .int .i64 2, P6 r' g' b' a' z' s'] (.tuple ⟨[clr 2 r g b a z s r' g' b' a' z' s', .int .i64 0]⟩) :=
  Con.run Try.func45 rfl rfl <| R.call mixed (okR h1) (by kernel_rfl) <| R.call mixed (okR h2) (by kernel_rfl) <| R.fin mixed Try.func45 (by kernel_rfl)
theorem clearNo2 (r g b a z s r' g' b' a' z' s' : Int) (h : (okPx r g b a z s && okPx r' g' b' a' z' s') = false) : Con Try.prog 45 [P6 r g b a z s, .int .i64 2, P6 r' g' b' a' z' s'] (.tuple ⟨[P6 0 0 0 0 0 0, .int .i64 3]⟩) := by
  cases h1 : okPx r g b a z s with
  | false => exact Con.run Try.func45 rfl rfl <| R.call mixed (okR h1) (by kernel_rfl) <| R.fin mixed Try.func45 (by kernel_rfl)
  | true =>
    have h2 : okPx r' g' b' a' z' s' = false := by simpa [h1] using h
    exact Con.run Try.func45 rfl rfl <| R.call mixed (okR h1) (by kernel_rfl) <| R.call mixed (okR h2) (by kernel_rfl) <| R.fin mixed Try.func45 (by kernel_rfl)
theorem rclear2 (r g b a z s r' g' b' a' z' s' : Int) : Con Try.prog 46 [P6 r g b a z s, .int .i64 2, P6 r' g' b' a' z' s'] (clr 2 r g b a z s r' g' b' a' z' s') := Con.run Try.func46 rfl rfl <| R.fin mixed Try.func46 (by kernel_rfl)
theorem clearLaw2 (r g b a z s r' g' b' a' z' s' : Int) : RunsE Try.prog 12 0 (entry Try.f12 [P6 r g b a z s, .int .i64 2, P6 r' g' b' a' z' s'] []) (.bool true) := by
  cases h : (okPx r g b a z s && okPx r' g' b' a' z' s') with
  | false =>
    cases h1 : okPx r g b a z s with
    | false => exact R.call mixed (clearNo2 _ _ _ _ _ _ _ _ _ _ _ _ h) (by kernel_rfl) <| R.call mixed (okRR h1) (by kernel_rfl) <| R.call mixed c_awake19 (by kernel_rfl) <| R.fin mixed Try.func12 (by kernel_rfl)
    | true =>
      have h2 : okPx r' g' b' a' z' s' = false := by simpa [h1] using h
      exact R.call mixed (clearNo2 _ _ _ _ _ _ _ _ _ _ _ _ h) (by kernel_rfl) <| R.call mixed (okRR h1) (by kernel_rfl) <| R.call mixed (okRR h2) (by kernel_rfl) <| R.call mixed c_awake19 (by kernel_rfl) <| R.fin mixed Try.func12 (by kernel_rfl)
  | true =>
    rw [Bool.and_eq_true] at h
    have h3 : okPx (sel ((2 : Int) % 2 == 1) r r') (sel ((2 : Int) % 2 == 1) g g') (sel ((2 : Int) % 2 == 1) b b') (sel ((2 : Int) % 2 == 1) a a') (sel ((2 : Int) / 2 % 2 == 1) z z') (sel ((2 : Int) / 4 == 1) s s') = true := by
      have a1 := h.1
      have a2 := h.2
      simp only [okPx, rightC, Bool.and_eq_true] at a1 a2
      simp [okPx, rightC, sel, a1, a2]
    have c2 := clear2 (sel ((2 : Int) % 2 == 1) r r') (sel ((2 : Int) % 2 == 1) g g') (sel ((2 : Int) % 2 == 1) b b') (sel ((2 : Int) % 2 == 1) a a') (sel ((2 : Int) / 2 % 2 == 1) z z') (sel ((2 : Int) / 4 == 1) s s') r' g' b' a' z' s' h3 h.2
    unfold clr at c2
    simp only [sel_sel] at c2
    exact R.call mixed (clear2 r g b a z s r' g' b' a' z' s' h.1 h.2) (by kernel_rfl) <| R.call mixed (okRR h.1) (by kernel_rfl) <| R.call mixed (okRR h.2) (by kernel_rfl) <| R.call mixed c2 (by kernel_rfl) <| R.call mixed (rclear2 r g b a z s r' g' b' a' z' s') (by kernel_rfl) <|
      R.guardIs mixed 3 (eqs [sel ((2 : Int) % 2 == 1) r r', sel ((2 : Int) % 2 == 1) g g', sel ((2 : Int) % 2 == 1) b b', sel ((2 : Int) % 2 == 1) a a'] [sel ((2 : Int) % 2 == 1) r r', sel ((2 : Int) % 2 == 1) g g', sel ((2 : Int) % 2 == 1) b b', sel ((2 : Int) % 2 == 1) a a'] && eqs [sel ((2 : Int) / 2 % 2 == 1) z z', sel ((2 : Int) / 4 == 1) s s'] [sel ((2 : Int) / 2 % 2 == 1) z z', sel ((2 : Int) / 4 == 1) s s']) true (by rw [eqs_self, eqs_self]; rfl) (by kernel_rfl) <|
      R.guardIs mixed 5 (eqs [sel ((2 : Int) % 2 == 1) r r', sel ((2 : Int) % 2 == 1) g g', sel ((2 : Int) % 2 == 1) b b', sel ((2 : Int) % 2 == 1) a a'] [sel ((2 : Int) % 2 == 1) r r', sel ((2 : Int) % 2 == 1) g g', sel ((2 : Int) % 2 == 1) b b', sel ((2 : Int) % 2 == 1) a a'] && eqs [sel ((2 : Int) / 2 % 2 == 1) z z', sel ((2 : Int) / 4 == 1) s s'] [sel ((2 : Int) / 2 % 2 == 1) z z', sel ((2 : Int) / 4 == 1) s s']) true (by rw [eqs_self, eqs_self]; rfl) (by kernel_rfl) <|
      R.call mixed c_awake19 (by kernel_rfl) <| R.fin mixed Try.func12 (by kernel_rfl)

theorem clear3 (r g b a z s r' g' b' a' z' s' : Int) (h1 : okPx r g b a z s = true) (h2 : okPx r' g' b' a' z' s' = true) : Con Try.prog 45 [P6 r g b a z s, .int .i64 3, P6 r' g' b' a' z' s'] (.tuple ⟨[clr 3 r g b a z s r' g' b' a' z' s', .int .i64 0]⟩) :=
  Con.run Try.func45 rfl rfl <| R.call mixed (okR h1) (by kernel_rfl) <| R.call mixed (okR h2) (by kernel_rfl) <| R.fin mixed Try.func45 (by kernel_rfl)
theorem clearNo3 (r g b a z s r' g' b' a' z' s' : Int) (h : (okPx r g b a z s && okPx r' g' b' a' z' s') = false) : Con Try.prog 45 [P6 r g b a z s, .int .i64 3, P6 r' g' b' a' z' s'] (.tuple ⟨[P6 0 0 0 0 0 0, .int .i64 3]⟩) := by
  cases h1 : okPx r g b a z s with
  | false => exact Con.run Try.func45 rfl rfl <| R.call mixed (okR h1) (by kernel_rfl) <| R.fin mixed Try.func45 (by kernel_rfl)
  | true =>
    have h2 : okPx r' g' b' a' z' s' = false := by simpa [h1] using h
    exact Con.run Try.func45 rfl rfl <| R.call mixed (okR h1) (by kernel_rfl) <| R.call mixed (okR h2) (by kernel_rfl) <| R.fin mixed Try.func45 (by kernel_rfl)
theorem rclear3 (r g b a z s r' g' b' a' z' s' : Int) : Con Try.prog 46 [P6 r g b a z s, .int .i64 3, P6 r' g' b' a' z' s'] (clr 3 r g b a z s r' g' b' a' z' s') := Con.run Try.func46 rfl rfl <| R.fin mixed Try.func46 (by kernel_rfl)
theorem clearLaw3 (r g b a z s r' g' b' a' z' s' : Int) : RunsE Try.prog 12 0 (entry Try.f12 [P6 r g b a z s, .int .i64 3, P6 r' g' b' a' z' s'] []) (.bool true) := by
  cases h : (okPx r g b a z s && okPx r' g' b' a' z' s') with
  | false =>
    cases h1 : okPx r g b a z s with
    | false => exact R.call mixed (clearNo3 _ _ _ _ _ _ _ _ _ _ _ _ h) (by kernel_rfl) <| R.call mixed (okRR h1) (by kernel_rfl) <| R.call mixed c_awake19 (by kernel_rfl) <| R.fin mixed Try.func12 (by kernel_rfl)
    | true =>
      have h2 : okPx r' g' b' a' z' s' = false := by simpa [h1] using h
      exact R.call mixed (clearNo3 _ _ _ _ _ _ _ _ _ _ _ _ h) (by kernel_rfl) <| R.call mixed (okRR h1) (by kernel_rfl) <| R.call mixed (okRR h2) (by kernel_rfl) <| R.call mixed c_awake19 (by kernel_rfl) <| R.fin mixed Try.func12 (by kernel_rfl)
  | true =>
    rw [Bool.and_eq_true] at h
    have h3 : okPx (sel ((3 : Int) % 2 == 1) r r') (sel ((3 : Int) % 2 == 1) g g') (sel ((3 : Int) % 2 == 1) b b') (sel ((3 : Int) % 2 == 1) a a') (sel ((3 : Int) / 2 % 2 == 1) z z') (sel ((3 : Int) / 4 == 1) s s') = true := by
      have a1 := h.1
      have a2 := h.2
      simp only [okPx, rightC, Bool.and_eq_true] at a1 a2
      simp [okPx, rightC, sel, a1, a2]
    have c2 := clear3 (sel ((3 : Int) % 2 == 1) r r') (sel ((3 : Int) % 2 == 1) g g') (sel ((3 : Int) % 2 == 1) b b') (sel ((3 : Int) % 2 == 1) a a') (sel ((3 : Int) / 2 % 2 == 1) z z') (sel ((3 : Int) / 4 == 1) s s') r' g' b' a' z' s' h3 h.2
    unfold clr at c2
    simp only [sel_sel] at c2
    exact R.call mixed (clear3 r g b a z s r' g' b' a' z' s' h.1 h.2) (by kernel_rfl) <| R.call mixed (okRR h.1) (by kernel_rfl) <| R.call mixed (okRR h.2) (by kernel_rfl) <| R.call mixed c2 (by kernel_rfl) <| R.call mixed (rclear3 r g b a z s r' g' b' a' z' s') (by kernel_rfl) <|
      R.guardIs mixed 3 (eqs [sel ((3 : Int) % 2 == 1) r r', sel ((3 : Int) % 2 == 1) g g', sel ((3 : Int) % 2 == 1) b b', sel ((3 : Int) % 2 == 1) a a'] [sel ((3 : Int) % 2 == 1) r r', sel ((3 : Int) % 2 == 1) g g', sel ((3 : Int) % 2 == 1) b b', sel ((3 : Int) % 2 == 1) a a'] && eqs [sel ((3 : Int) / 2 % 2 == 1) z z', sel ((3 : Int) / 4 == 1) s s'] [sel ((3 : Int) / 2 % 2 == 1) z z', sel ((3 : Int) / 4 == 1) s s']) true (by rw [eqs_self, eqs_self]; rfl) (by kernel_rfl) <|
      R.guardIs mixed 5 (eqs [sel ((3 : Int) % 2 == 1) r r', sel ((3 : Int) % 2 == 1) g g', sel ((3 : Int) % 2 == 1) b b', sel ((3 : Int) % 2 == 1) a a'] [sel ((3 : Int) % 2 == 1) r r', sel ((3 : Int) % 2 == 1) g g', sel ((3 : Int) % 2 == 1) b b', sel ((3 : Int) % 2 == 1) a a'] && eqs [sel ((3 : Int) / 2 % 2 == 1) z z', sel ((3 : Int) / 4 == 1) s s'] [sel ((3 : Int) / 2 % 2 == 1) z z', sel ((3 : Int) / 4 == 1) s s']) true (by rw [eqs_self, eqs_self]; rfl) (by kernel_rfl) <|
      R.call mixed c_awake19 (by kernel_rfl) <| R.fin mixed Try.func12 (by kernel_rfl)

theorem clear4 (r g b a z s r' g' b' a' z' s' : Int) (h1 : okPx r g b a z s = true) (h2 : okPx r' g' b' a' z' s' = true) : Con Try.prog 45 [P6 r g b a z s, .int .i64 4, P6 r' g' b' a' z' s'] (.tuple ⟨[clr 4 r g b a z s r' g' b' a' z' s', .int .i64 0]⟩) :=
  Con.run Try.func45 rfl rfl <| R.call mixed (okR h1) (by kernel_rfl) <| R.call mixed (okR h2) (by kernel_rfl) <| R.fin mixed Try.func45 (by kernel_rfl)
theorem clearNo4 (r g b a z s r' g' b' a' z' s' : Int) (h : (okPx r g b a z s && okPx r' g' b' a' z' s') = false) : Con Try.prog 45 [P6 r g b a z s, .int .i64 4, P6 r' g' b' a' z' s'] (.tuple ⟨[P6 0 0 0 0 0 0, .int .i64 3]⟩) := by
  cases h1 : okPx r g b a z s with
  | false => exact Con.run Try.func45 rfl rfl <| R.call mixed (okR h1) (by kernel_rfl) <| R.fin mixed Try.func45 (by kernel_rfl)
  | true =>
    have h2 : okPx r' g' b' a' z' s' = false := by simpa [h1] using h
    exact Con.run Try.func45 rfl rfl <| R.call mixed (okR h1) (by kernel_rfl) <| R.call mixed (okR h2) (by kernel_rfl) <| R.fin mixed Try.func45 (by kernel_rfl)
theorem rclear4 (r g b a z s r' g' b' a' z' s' : Int) : Con Try.prog 46 [P6 r g b a z s, .int .i64 4, P6 r' g' b' a' z' s'] (clr 4 r g b a z s r' g' b' a' z' s') := Con.run Try.func46 rfl rfl <| R.fin mixed Try.func46 (by kernel_rfl)
theorem clearLaw4 (r g b a z s r' g' b' a' z' s' : Int) : RunsE Try.prog 12 0 (entry Try.f12 [P6 r g b a z s, .int .i64 4, P6 r' g' b' a' z' s'] []) (.bool true) := by
  cases h : (okPx r g b a z s && okPx r' g' b' a' z' s') with
  | false =>
    cases h1 : okPx r g b a z s with
    | false => exact R.call mixed (clearNo4 _ _ _ _ _ _ _ _ _ _ _ _ h) (by kernel_rfl) <| R.call mixed (okRR h1) (by kernel_rfl) <| R.call mixed c_awake19 (by kernel_rfl) <| R.fin mixed Try.func12 (by kernel_rfl)
    | true =>
      have h2 : okPx r' g' b' a' z' s' = false := by simpa [h1] using h
      exact R.call mixed (clearNo4 _ _ _ _ _ _ _ _ _ _ _ _ h) (by kernel_rfl) <| R.call mixed (okRR h1) (by kernel_rfl) <| R.call mixed (okRR h2) (by kernel_rfl) <| R.call mixed c_awake19 (by kernel_rfl) <| R.fin mixed Try.func12 (by kernel_rfl)
  | true =>
    rw [Bool.and_eq_true] at h
    have h3 : okPx (sel ((4 : Int) % 2 == 1) r r') (sel ((4 : Int) % 2 == 1) g g') (sel ((4 : Int) % 2 == 1) b b') (sel ((4 : Int) % 2 == 1) a a') (sel ((4 : Int) / 2 % 2 == 1) z z') (sel ((4 : Int) / 4 == 1) s s') = true := by
      have a1 := h.1
      have a2 := h.2
      simp only [okPx, rightC, Bool.and_eq_true] at a1 a2
      simp [okPx, rightC, sel, a1, a2]
    have c2 := clear4 (sel ((4 : Int) % 2 == 1) r r') (sel ((4 : Int) % 2 == 1) g g') (sel ((4 : Int) % 2 == 1) b b') (sel ((4 : Int) % 2 == 1) a a') (sel ((4 : Int) / 2 % 2 == 1) z z') (sel ((4 : Int) / 4 == 1) s s') r' g' b' a' z' s' h3 h.2
    unfold clr at c2
    simp only [sel_sel] at c2
    exact R.call mixed (clear4 r g b a z s r' g' b' a' z' s' h.1 h.2) (by kernel_rfl) <| R.call mixed (okRR h.1) (by kernel_rfl) <| R.call mixed (okRR h.2) (by kernel_rfl) <| R.call mixed c2 (by kernel_rfl) <| R.call mixed (rclear4 r g b a z s r' g' b' a' z' s') (by kernel_rfl) <|
      R.guardIs mixed 3 (eqs [sel ((4 : Int) % 2 == 1) r r', sel ((4 : Int) % 2 == 1) g g', sel ((4 : Int) % 2 == 1) b b', sel ((4 : Int) % 2 == 1) a a'] [sel ((4 : Int) % 2 == 1) r r', sel ((4 : Int) % 2 == 1) g g', sel ((4 : Int) % 2 == 1) b b', sel ((4 : Int) % 2 == 1) a a'] && eqs [sel ((4 : Int) / 2 % 2 == 1) z z', sel ((4 : Int) / 4 == 1) s s'] [sel ((4 : Int) / 2 % 2 == 1) z z', sel ((4 : Int) / 4 == 1) s s']) true (by rw [eqs_self, eqs_self]; rfl) (by kernel_rfl) <|
      R.guardIs mixed 5 (eqs [sel ((4 : Int) % 2 == 1) r r', sel ((4 : Int) % 2 == 1) g g', sel ((4 : Int) % 2 == 1) b b', sel ((4 : Int) % 2 == 1) a a'] [sel ((4 : Int) % 2 == 1) r r', sel ((4 : Int) % 2 == 1) g g', sel ((4 : Int) % 2 == 1) b b', sel ((4 : Int) % 2 == 1) a a'] && eqs [sel ((4 : Int) / 2 % 2 == 1) z z', sel ((4 : Int) / 4 == 1) s s'] [sel ((4 : Int) / 2 % 2 == 1) z z', sel ((4 : Int) / 4 == 1) s s']) true (by rw [eqs_self, eqs_self]; rfl) (by kernel_rfl) <|
      R.call mixed c_awake19 (by kernel_rfl) <| R.fin mixed Try.func12 (by kernel_rfl)

theorem clear5 (r g b a z s r' g' b' a' z' s' : Int) (h1 : okPx r g b a z s = true) (h2 : okPx r' g' b' a' z' s' = true) : Con Try.prog 45 [P6 r g b a z s, .int .i64 5, P6 r' g' b' a' z' s'] (.tuple ⟨[clr 5 r g b a z s r' g' b' a' z' s', .int .i64 0]⟩) :=
  Con.run Try.func45 rfl rfl <| R.call mixed (okR h1) (by kernel_rfl) <| R.call mixed (okR h2) (by kernel_rfl) <| R.fin mixed Try.func45 (by kernel_rfl)
theorem clearNo5 (r g b a z s r' g' b' a' z' s' : Int) (h : (okPx r g b a z s && okPx r' g' b' a' z' s') = false) : Con Try.prog 45 [P6 r g b a z s, .int .i64 5, P6 r' g' b' a' z' s'] (.tuple ⟨[P6 0 0 0 0 0 0, .int .i64 3]⟩) := by
  cases h1 : okPx r g b a z s with
  | false => exact Con.run Try.func45 rfl rfl <| R.call mixed (okR h1) (by kernel_rfl) <| R.fin mixed Try.func45 (by kernel_rfl)
  | true =>
    have h2 : okPx r' g' b' a' z' s' = false := by simpa [h1] using h
    exact Con.run Try.func45 rfl rfl <| R.call mixed (okR h1) (by kernel_rfl) <| R.call mixed (okR h2) (by kernel_rfl) <| R.fin mixed Try.func45 (by kernel_rfl)
theorem rclear5 (r g b a z s r' g' b' a' z' s' : Int) : Con Try.prog 46 [P6 r g b a z s, .int .i64 5, P6 r' g' b' a' z' s'] (clr 5 r g b a z s r' g' b' a' z' s') := Con.run Try.func46 rfl rfl <| R.fin mixed Try.func46 (by kernel_rfl)
theorem clearLaw5 (r g b a z s r' g' b' a' z' s' : Int) : RunsE Try.prog 12 0 (entry Try.f12 [P6 r g b a z s, .int .i64 5, P6 r' g' b' a' z' s'] []) (.bool true) := by
  cases h : (okPx r g b a z s && okPx r' g' b' a' z' s') with
  | false =>
    cases h1 : okPx r g b a z s with
    | false => exact R.call mixed (clearNo5 _ _ _ _ _ _ _ _ _ _ _ _ h) (by kernel_rfl) <| R.call mixed (okRR h1) (by kernel_rfl) <| R.call mixed c_awake19 (by kernel_rfl) <| R.fin mixed Try.func12 (by kernel_rfl)
    | true =>
      have h2 : okPx r' g' b' a' z' s' = false := by simpa [h1] using h
      exact R.call mixed (clearNo5 _ _ _ _ _ _ _ _ _ _ _ _ h) (by kernel_rfl) <| R.call mixed (okRR h1) (by kernel_rfl) <| R.call mixed (okRR h2) (by kernel_rfl) <| R.call mixed c_awake19 (by kernel_rfl) <| R.fin mixed Try.func12 (by kernel_rfl)
  | true =>
    rw [Bool.and_eq_true] at h
    have h3 : okPx (sel ((5 : Int) % 2 == 1) r r') (sel ((5 : Int) % 2 == 1) g g') (sel ((5 : Int) % 2 == 1) b b') (sel ((5 : Int) % 2 == 1) a a') (sel ((5 : Int) / 2 % 2 == 1) z z') (sel ((5 : Int) / 4 == 1) s s') = true := by
      have a1 := h.1
      have a2 := h.2
      simp only [okPx, rightC, Bool.and_eq_true] at a1 a2
      simp [okPx, rightC, sel, a1, a2]
    have c2 := clear5 (sel ((5 : Int) % 2 == 1) r r') (sel ((5 : Int) % 2 == 1) g g') (sel ((5 : Int) % 2 == 1) b b') (sel ((5 : Int) % 2 == 1) a a') (sel ((5 : Int) / 2 % 2 == 1) z z') (sel ((5 : Int) / 4 == 1) s s') r' g' b' a' z' s' h3 h.2
    unfold clr at c2
    simp only [sel_sel] at c2
    exact R.call mixed (clear5 r g b a z s r' g' b' a' z' s' h.1 h.2) (by kernel_rfl) <| R.call mixed (okRR h.1) (by kernel_rfl) <| R.call mixed (okRR h.2) (by kernel_rfl) <| R.call mixed c2 (by kernel_rfl) <| R.call mixed (rclear5 r g b a z s r' g' b' a' z' s') (by kernel_rfl) <|
      R.guardIs mixed 3 (eqs [sel ((5 : Int) % 2 == 1) r r', sel ((5 : Int) % 2 == 1) g g', sel ((5 : Int) % 2 == 1) b b', sel ((5 : Int) % 2 == 1) a a'] [sel ((5 : Int) % 2 == 1) r r', sel ((5 : Int) % 2 == 1) g g', sel ((5 : Int) % 2 == 1) b b', sel ((5 : Int) % 2 == 1) a a'] && eqs [sel ((5 : Int) / 2 % 2 == 1) z z', sel ((5 : Int) / 4 == 1) s s'] [sel ((5 : Int) / 2 % 2 == 1) z z', sel ((5 : Int) / 4 == 1) s s']) true (by rw [eqs_self, eqs_self]; rfl) (by kernel_rfl) <|
      R.guardIs mixed 5 (eqs [sel ((5 : Int) % 2 == 1) r r', sel ((5 : Int) % 2 == 1) g g', sel ((5 : Int) % 2 == 1) b b', sel ((5 : Int) % 2 == 1) a a'] [sel ((5 : Int) % 2 == 1) r r', sel ((5 : Int) % 2 == 1) g g', sel ((5 : Int) % 2 == 1) b b', sel ((5 : Int) % 2 == 1) a a'] && eqs [sel ((5 : Int) / 2 % 2 == 1) z z', sel ((5 : Int) / 4 == 1) s s'] [sel ((5 : Int) / 2 % 2 == 1) z z', sel ((5 : Int) / 4 == 1) s s']) true (by rw [eqs_self, eqs_self]; rfl) (by kernel_rfl) <|
      R.call mixed c_awake19 (by kernel_rfl) <| R.fin mixed Try.func12 (by kernel_rfl)

theorem clear6 (r g b a z s r' g' b' a' z' s' : Int) (h1 : okPx r g b a z s = true) (h2 : okPx r' g' b' a' z' s' = true) : Con Try.prog 45 [P6 r g b a z s, .int .i64 6, P6 r' g' b' a' z' s'] (.tuple ⟨[clr 6 r g b a z s r' g' b' a' z' s', .int .i64 0]⟩) :=
  Con.run Try.func45 rfl rfl <| R.call mixed (okR h1) (by kernel_rfl) <| R.call mixed (okR h2) (by kernel_rfl) <| R.fin mixed Try.func45 (by kernel_rfl)
theorem clearNo6 (r g b a z s r' g' b' a' z' s' : Int) (h : (okPx r g b a z s && okPx r' g' b' a' z' s') = false) : Con Try.prog 45 [P6 r g b a z s, .int .i64 6, P6 r' g' b' a' z' s'] (.tuple ⟨[P6 0 0 0 0 0 0, .int .i64 3]⟩) := by
  cases h1 : okPx r g b a z s with
  | false => exact Con.run Try.func45 rfl rfl <| R.call mixed (okR h1) (by kernel_rfl) <| R.fin mixed Try.func45 (by kernel_rfl)
  | true =>
    have h2 : okPx r' g' b' a' z' s' = false := by simpa [h1] using h
    exact Con.run Try.func45 rfl rfl <| R.call mixed (okR h1) (by kernel_rfl) <| R.call mixed (okR h2) (by kernel_rfl) <| R.fin mixed Try.func45 (by kernel_rfl)
theorem rclear6 (r g b a z s r' g' b' a' z' s' : Int) : Con Try.prog 46 [P6 r g b a z s, .int .i64 6, P6 r' g' b' a' z' s'] (clr 6 r g b a z s r' g' b' a' z' s') := Con.run Try.func46 rfl rfl <| R.fin mixed Try.func46 (by kernel_rfl)
theorem clearLaw6 (r g b a z s r' g' b' a' z' s' : Int) : RunsE Try.prog 12 0 (entry Try.f12 [P6 r g b a z s, .int .i64 6, P6 r' g' b' a' z' s'] []) (.bool true) := by
  cases h : (okPx r g b a z s && okPx r' g' b' a' z' s') with
  | false =>
    cases h1 : okPx r g b a z s with
    | false => exact R.call mixed (clearNo6 _ _ _ _ _ _ _ _ _ _ _ _ h) (by kernel_rfl) <| R.call mixed (okRR h1) (by kernel_rfl) <| R.call mixed c_awake19 (by kernel_rfl) <| R.fin mixed Try.func12 (by kernel_rfl)
    | true =>
      have h2 : okPx r' g' b' a' z' s' = false := by simpa [h1] using h
      exact R.call mixed (clearNo6 _ _ _ _ _ _ _ _ _ _ _ _ h) (by kernel_rfl) <| R.call mixed (okRR h1) (by kernel_rfl) <| R.call mixed (okRR h2) (by kernel_rfl) <| R.call mixed c_awake19 (by kernel_rfl) <| R.fin mixed Try.func12 (by kernel_rfl)
  | true =>
    rw [Bool.and_eq_true] at h
    have h3 : okPx (sel ((6 : Int) % 2 == 1) r r') (sel ((6 : Int) % 2 == 1) g g') (sel ((6 : Int) % 2 == 1) b b') (sel ((6 : Int) % 2 == 1) a a') (sel ((6 : Int) / 2 % 2 == 1) z z') (sel ((6 : Int) / 4 == 1) s s') = true := by
      have a1 := h.1
      have a2 := h.2
      simp only [okPx, rightC, Bool.and_eq_true] at a1 a2
      simp [okPx, rightC, sel, a1, a2]
    have c2 := clear6 (sel ((6 : Int) % 2 == 1) r r') (sel ((6 : Int) % 2 == 1) g g') (sel ((6 : Int) % 2 == 1) b b') (sel ((6 : Int) % 2 == 1) a a') (sel ((6 : Int) / 2 % 2 == 1) z z') (sel ((6 : Int) / 4 == 1) s s') r' g' b' a' z' s' h3 h.2
    unfold clr at c2
    simp only [sel_sel] at c2
    exact R.call mixed (clear6 r g b a z s r' g' b' a' z' s' h.1 h.2) (by kernel_rfl) <| R.call mixed (okRR h.1) (by kernel_rfl) <| R.call mixed (okRR h.2) (by kernel_rfl) <| R.call mixed c2 (by kernel_rfl) <| R.call mixed (rclear6 r g b a z s r' g' b' a' z' s') (by kernel_rfl) <|
      R.guardIs mixed 3 (eqs [sel ((6 : Int) % 2 == 1) r r', sel ((6 : Int) % 2 == 1) g g', sel ((6 : Int) % 2 == 1) b b', sel ((6 : Int) % 2 == 1) a a'] [sel ((6 : Int) % 2 == 1) r r', sel ((6 : Int) % 2 == 1) g g', sel ((6 : Int) % 2 == 1) b b', sel ((6 : Int) % 2 == 1) a a'] && eqs [sel ((6 : Int) / 2 % 2 == 1) z z', sel ((6 : Int) / 4 == 1) s s'] [sel ((6 : Int) / 2 % 2 == 1) z z', sel ((6 : Int) / 4 == 1) s s']) true (by rw [eqs_self, eqs_self]; rfl) (by kernel_rfl) <|
      R.guardIs mixed 5 (eqs [sel ((6 : Int) % 2 == 1) r r', sel ((6 : Int) % 2 == 1) g g', sel ((6 : Int) % 2 == 1) b b', sel ((6 : Int) % 2 == 1) a a'] [sel ((6 : Int) % 2 == 1) r r', sel ((6 : Int) % 2 == 1) g g', sel ((6 : Int) % 2 == 1) b b', sel ((6 : Int) % 2 == 1) a a'] && eqs [sel ((6 : Int) / 2 % 2 == 1) z z', sel ((6 : Int) / 4 == 1) s s'] [sel ((6 : Int) / 2 % 2 == 1) z z', sel ((6 : Int) / 4 == 1) s s']) true (by rw [eqs_self, eqs_self]; rfl) (by kernel_rfl) <|
      R.call mixed c_awake19 (by kernel_rfl) <| R.fin mixed Try.func12 (by kernel_rfl)

theorem clear7 (r g b a z s r' g' b' a' z' s' : Int) (h1 : okPx r g b a z s = true) (h2 : okPx r' g' b' a' z' s' = true) : Con Try.prog 45 [P6 r g b a z s, .int .i64 7, P6 r' g' b' a' z' s'] (.tuple ⟨[clr 7 r g b a z s r' g' b' a' z' s', .int .i64 0]⟩) :=
  Con.run Try.func45 rfl rfl <| R.call mixed (okR h1) (by kernel_rfl) <| R.call mixed (okR h2) (by kernel_rfl) <| R.fin mixed Try.func45 (by kernel_rfl)
theorem clearNo7 (r g b a z s r' g' b' a' z' s' : Int) (h : (okPx r g b a z s && okPx r' g' b' a' z' s') = false) : Con Try.prog 45 [P6 r g b a z s, .int .i64 7, P6 r' g' b' a' z' s'] (.tuple ⟨[P6 0 0 0 0 0 0, .int .i64 3]⟩) := by
  cases h1 : okPx r g b a z s with
  | false => exact Con.run Try.func45 rfl rfl <| R.call mixed (okR h1) (by kernel_rfl) <| R.fin mixed Try.func45 (by kernel_rfl)
  | true =>
    have h2 : okPx r' g' b' a' z' s' = false := by simpa [h1] using h
    exact Con.run Try.func45 rfl rfl <| R.call mixed (okR h1) (by kernel_rfl) <| R.call mixed (okR h2) (by kernel_rfl) <| R.fin mixed Try.func45 (by kernel_rfl)
theorem rclear7 (r g b a z s r' g' b' a' z' s' : Int) : Con Try.prog 46 [P6 r g b a z s, .int .i64 7, P6 r' g' b' a' z' s'] (clr 7 r g b a z s r' g' b' a' z' s') := Con.run Try.func46 rfl rfl <| R.fin mixed Try.func46 (by kernel_rfl)
theorem clearLaw7 (r g b a z s r' g' b' a' z' s' : Int) : RunsE Try.prog 12 0 (entry Try.f12 [P6 r g b a z s, .int .i64 7, P6 r' g' b' a' z' s'] []) (.bool true) := by
  cases h : (okPx r g b a z s && okPx r' g' b' a' z' s') with
  | false =>
    cases h1 : okPx r g b a z s with
    | false => exact R.call mixed (clearNo7 _ _ _ _ _ _ _ _ _ _ _ _ h) (by kernel_rfl) <| R.call mixed (okRR h1) (by kernel_rfl) <| R.call mixed c_awake19 (by kernel_rfl) <| R.fin mixed Try.func12 (by kernel_rfl)
    | true =>
      have h2 : okPx r' g' b' a' z' s' = false := by simpa [h1] using h
      exact R.call mixed (clearNo7 _ _ _ _ _ _ _ _ _ _ _ _ h) (by kernel_rfl) <| R.call mixed (okRR h1) (by kernel_rfl) <| R.call mixed (okRR h2) (by kernel_rfl) <| R.call mixed c_awake19 (by kernel_rfl) <| R.fin mixed Try.func12 (by kernel_rfl)
  | true =>
    rw [Bool.and_eq_true] at h
    have h3 : okPx (sel ((7 : Int) % 2 == 1) r r') (sel ((7 : Int) % 2 == 1) g g') (sel ((7 : Int) % 2 == 1) b b') (sel ((7 : Int) % 2 == 1) a a') (sel ((7 : Int) / 2 % 2 == 1) z z') (sel ((7 : Int) / 4 == 1) s s') = true := by
      have a1 := h.1
      have a2 := h.2
      simp only [okPx, rightC, Bool.and_eq_true] at a1 a2
      simp [okPx, rightC, sel, a1, a2]
    have c2 := clear7 (sel ((7 : Int) % 2 == 1) r r') (sel ((7 : Int) % 2 == 1) g g') (sel ((7 : Int) % 2 == 1) b b') (sel ((7 : Int) % 2 == 1) a a') (sel ((7 : Int) / 2 % 2 == 1) z z') (sel ((7 : Int) / 4 == 1) s s') r' g' b' a' z' s' h3 h.2
    unfold clr at c2
    simp only [sel_sel] at c2
    exact R.call mixed (clear7 r g b a z s r' g' b' a' z' s' h.1 h.2) (by kernel_rfl) <| R.call mixed (okRR h.1) (by kernel_rfl) <| R.call mixed (okRR h.2) (by kernel_rfl) <| R.call mixed c2 (by kernel_rfl) <| R.call mixed (rclear7 r g b a z s r' g' b' a' z' s') (by kernel_rfl) <|
      R.guardIs mixed 3 (eqs [sel ((7 : Int) % 2 == 1) r r', sel ((7 : Int) % 2 == 1) g g', sel ((7 : Int) % 2 == 1) b b', sel ((7 : Int) % 2 == 1) a a'] [sel ((7 : Int) % 2 == 1) r r', sel ((7 : Int) % 2 == 1) g g', sel ((7 : Int) % 2 == 1) b b', sel ((7 : Int) % 2 == 1) a a'] && eqs [sel ((7 : Int) / 2 % 2 == 1) z z', sel ((7 : Int) / 4 == 1) s s'] [sel ((7 : Int) / 2 % 2 == 1) z z', sel ((7 : Int) / 4 == 1) s s']) true (by rw [eqs_self, eqs_self]; rfl) (by kernel_rfl) <|
      R.guardIs mixed 5 (eqs [sel ((7 : Int) % 2 == 1) r r', sel ((7 : Int) % 2 == 1) g g', sel ((7 : Int) % 2 == 1) b b', sel ((7 : Int) % 2 == 1) a a'] [sel ((7 : Int) % 2 == 1) r r', sel ((7 : Int) % 2 == 1) g g', sel ((7 : Int) % 2 == 1) b b', sel ((7 : Int) % 2 == 1) a a'] && eqs [sel ((7 : Int) / 2 % 2 == 1) z z', sel ((7 : Int) / 4 == 1) s s'] [sel ((7 : Int) / 2 % 2 == 1) z z', sel ((7 : Int) / 4 == 1) s s']) true (by rw [eqs_self, eqs_self]; rfl) (by kernel_rfl) <|
      R.guardIs mixed 9 (eqs [r', g', b', a'] [r', g', b', a'] && eqs [z', s'] [z', s']) true (by rw [eqs_self, eqs_self]; rfl) (by kernel_rfl) <|
      R.call mixed c_awake19 (by kernel_rfl) <| R.fin mixed Try.func12 (by kernel_rfl)

theorem clears_ (r g b a z s k r' g' b' a' z' s' : Int) : FnEq Try.prog 12 [P6 r g b a z s, .int .i64 k, P6 r' g' b' a' z' s'] [] (.bool true) [] := by
  refine FnEq.run Try.func12 rfl rfl ?_
  rcases Decidable.em (k < 1 ∨ 7 < k) with h | h
  · refine R.call mixed (clearKind k r g b a z s r' g' b' a' z' s' h) (by kernel_rfl) ?_
    rcases Decidable.em (k < 1) with h1 | h1
    · exact R.guardIs mixed 13 (decide (k < 1)) true (decide_eq_true h1) (by kernel_rfl) <| R.call mixed c_awake19 (by kernel_rfl) <| R.fin mixed Try.func12 (by kernel_rfl)
    · exact R.guardIs mixed 13 (decide (k < 1)) false (decide_eq_false h1) (by kernel_rfl) <| R.cond mixed 4 (bif false then true else decide (k > 7)) true (by simp; omega) (by kernel_rfl) <| R.call mixed c_awake19 (by kernel_rfl) <| R.fin mixed Try.func12 (by kernel_rfl)
  · have hk : k = 1 ∨ k = 2 ∨ k = 3 ∨ k = 4 ∨ k = 5 ∨ k = 6 ∨ k = 7 := by omega
    rcases hk with rfl | rfl | rfl | rfl | rfl | rfl | rfl
    · exact clearLaw1 r g b a z s r' g' b' a' z' s'
    · exact clearLaw2 r g b a z s r' g' b' a' z' s'
    · exact clearLaw3 r g b a z s r' g' b' a' z' s'
    · exact clearLaw4 r g b a z s r' g' b' a' z' s'
    · exact clearLaw5 r g b a z s r' g' b' a' z' s'
    · exact clearLaw6 r g b a z s r' g' b' a' z' s'
    · exact clearLaw7 r g b a z s r' g' b' a' z' s'

end Go.Proofs.Ytfkmhhbpomkakaa.Frag
