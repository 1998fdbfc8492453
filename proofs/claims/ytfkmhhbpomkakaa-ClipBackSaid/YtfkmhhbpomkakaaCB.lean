/- ClipCuts: the walk. -/
import Derived.Test.YtfkmhhbpomkakaaCA
namespace Go.Proofs.Ytfkmhhbpomkakaa.Clip
open Go Go.Dt Go.Proofs Go.Proofs.Ytfkmhhbpomkakaa.Wide
set_option linter.unusedVariables false
set_option linter.unusedSimpArgs false

section
variable {k x y z w a b c d_ e_ f x' y' z' w' a' b' c' d_' e_' f' : Int}
theorem may' {o : Bool} (h : decide (mayC x y z w a b c d_ e_ f) = o) : Con Try.prog 48 [C10 x y z w a b c d_ e_ f] (.bool o) := h ▸ c_may x y z w a b c d_ e_ f
theorem rmay' {o : Bool} (h : decide (mayC x y z w a b c d_ e_ f) = o) : Con Try.prog 16 [C10 x y z w a b c d_ e_ f] (.bool o) := h ▸ c_rmayC x y z w a b c d_ e_ f

theorem farBad (h : k < 0 ∨ 6 < k) : Con Try.prog 14 [.int .i64 k, C10 x y z w a b c d_ e_ f] (.tuple ⟨[.int .i64 0, .int .i64 2]⟩) := by
  refine Con.run Try.func14 (by kernel_rfl) rfl ?_
  rcases Decidable.em (k < 0) with h1 | h1
  · exact R.guardIs mixed 13 (decide (k < 0)) true (decide_eq_true h1) (by kernel_rfl) <| R.fin mixed Try.func14 (by kernel_rfl)
  · exact R.guardIs mixed 13 (decide (k < 0)) false (decide_eq_false h1) (by kernel_rfl) <| R.cond mixed 5 (bif false then true else decide (k ≥ 7)) true (by simp; omega) (by kernel_rfl) <| R.fin mixed Try.func14 (by kernel_rfl)
theorem farNo (hk : 0 ≤ k ∧ k ≤ 6) (h : ¬ mayC x y z w a b c d_ e_ f) : Con Try.prog 14 [.int .i64 k, C10 x y z w a b c d_ e_ f] (.tuple ⟨[.int .i64 0, .int .i64 3]⟩) :=
  Con.run Try.func14 (by kernel_rfl) rfl <| R.guardIs mixed 13 (decide (k < 0)) false (decide_eq_false (by omega)) (by kernel_rfl) <| R.cond mixed 5 (bif false then true else decide (k ≥ 7)) false (by simp; omega) (by kernel_rfl) <|
    R.call mixed (may' (decide_eq_false h)) (by kernel_rfl) <| R.fin mixed Try.func14 (by kernel_rfl)
theorem farOk (hk : 0 ≤ k ∧ k ≤ 6) (h : mayC x y z w a b c d_ e_ f) : Con Try.prog 14 [.int .i64 k, C10 x y z w a b c d_ e_ f] (.tuple ⟨[.int .i64 (farI k x y z w), .int .i64 0]⟩) :=
  Con.run Try.func14 (by kernel_rfl) rfl <| R.guardIs mixed 13 (decide (k < 0)) false (decide_eq_false (by omega)) (by kernel_rfl) <| R.cond mixed 5 (bif false then true else decide (k ≥ 7)) false (by simp; omega) (by kernel_rfl) <|
    R.call mixed (may' (decide_eq_true h)) (by kernel_rfl) <| R.call mixed (c_far hk h.1) (by kernel_rfl) <| R.fin mixed Try.func14 (by kernel_rfl)

theorem cutBad (h : k < 0 ∨ 6 < k) : Con Try.prog 13 [.int .i64 k, C10 x y z w a b c d_ e_ f, C10 x' y' z' w' a' b' c' d_' e_' f'] (.tuple ⟨[C10 0 0 0 0 0 0 0 0 0 0, .int .i64 2]⟩) :=
  Con.run Try.func13 (by kernel_rfl) rfl <| R.call mixed (@farBad k x y z w a b c d_ e_ f h) (by kernel_rfl) <| R.call mixed (@farBad k x' y' z' w' a' b' c' d_' e_' f' h) (by kernel_rfl) <| R.fin mixed Try.func13 (by kernel_rfl)
theorem cutNoA (hk : 0 ≤ k ∧ k ≤ 6) (h : ¬ mayC x y z w a b c d_ e_ f) : Con Try.prog 13 [.int .i64 k, C10 x y z w a b c d_ e_ f, C10 x' y' z' w' a' b' c' d_' e_' f'] (.tuple ⟨[C10 0 0 0 0 0 0 0 0 0 0, .int .i64 3]⟩) := by
  refine Con.run Try.func13 (by kernel_rfl) rfl <| R.call mixed (farNo hk h) (by kernel_rfl) ?_
  rcases Decidable.em (mayC x' y' z' w' a' b' c' d_' e_' f') with h2 | h2
  · exact R.call mixed (farOk hk h2) (by kernel_rfl) <| R.fin mixed Try.func13 (by kernel_rfl)
  · exact R.call mixed (farNo hk h2) (by kernel_rfl) <| R.fin mixed Try.func13 (by kernel_rfl)
theorem cutNoB (hk : 0 ≤ k ∧ k ≤ 6) (h : mayC x y z w a b c d_ e_ f) (h2 : ¬ mayC x' y' z' w' a' b' c' d_' e_' f') : Con Try.prog 13 [.int .i64 k, C10 x y z w a b c d_ e_ f, C10 x' y' z' w' a' b' c' d_' e_' f'] (.tuple ⟨[C10 0 0 0 0 0 0 0 0 0 0, .int .i64 3]⟩) :=
  Con.run Try.func13 (by kernel_rfl) rfl <| R.call mixed (farOk hk h) (by kernel_rfl) <| R.call mixed (farNo hk h2) (by kernel_rfl) <| R.fin mixed Try.func13 (by kernel_rfl)
theorem cutForm (hk : 0 ≤ k ∧ k ≤ 6) (h : mayC x y z w a b c d_ e_ f) (h2 : mayC x' y' z' w' a' b' c' d_' e_' f') (h3 : farI k x y z w < 0 ∨ 0 ≤ farI k x' y' z' w') : Con Try.prog 13 [.int .i64 k, C10 x y z w a b c d_ e_ f, C10 x' y' z' w' a' b' c' d_' e_' f'] (.tuple ⟨[C10 0 0 0 0 0 0 0 0 0 0, .int .i64 6]⟩) := by
  refine Con.run Try.func13 (by kernel_rfl) rfl <| R.call mixed (farOk hk h) (by kernel_rfl) <| R.call mixed (farOk hk h2) (by kernel_rfl) ?_
  rcases Decidable.em (farI k x y z w < 0) with h4 | h4
  · exact R.guardIs mixed 27 (decide (farI k x y z w < 0)) true (decide_eq_true h4) (by kernel_rfl) <| R.fin mixed Try.func13 (by kernel_rfl)
  · exact R.guardIs mixed 27 (decide (farI k x y z w < 0)) false (decide_eq_false h4) (by kernel_rfl) <| R.cond mixed 5 (bif false then true else decide (farI k x' y' z' w' ≥ 0)) true (by simp; omega) (by kernel_rfl) <| R.fin mixed Try.func13 (by kernel_rfl)
theorem cutOk (hk : 0 ≤ k ∧ k ≤ 6) (h : mayC x y z w a b c d_ e_ f) (h2 : mayC x' y' z' w' a' b' c' d_' e_' f') (hd : 0 ≤ farI k x y z w) (he : farI k x' y' z' w' < 0) {D E : Int} (hc : Con Try.prog 47 [.int .i64 k, C10 x y z w a b c d_ e_ f, C10 x' y' z' w' a' b' c' d_' e_' f'] (cutV k (bet x x' D E) (bet y y' D E) (bet z z' D E) (bet w w' D E) (bet a a' D E) (bet b b' D E) (bet c c' D E) (bet d_ d_' D E) (bet e_ e_' D E) (bet f f' D E))) :
    Con Try.prog 13 [.int .i64 k, C10 x y z w a b c d_ e_ f, C10 x' y' z' w' a' b' c' d_' e_' f'] (.tuple ⟨[cutV k (bet x x' D E) (bet y y' D E) (bet z z' D E) (bet w w' D E) (bet a a' D E) (bet b b' D E) (bet c c' D E) (bet d_ d_' D E) (bet e_ e_' D E) (bet f f' D E), .int .i64 0]⟩) :=
  Con.run Try.func13 (by kernel_rfl) rfl <| R.call mixed (farOk hk h) (by kernel_rfl) <| R.call mixed (farOk hk h2) (by kernel_rfl) <| R.guardIs mixed 27 (decide (farI k x y z w < 0)) false (decide_eq_false (by omega)) (by kernel_rfl) <|
    R.cond mixed 5 (bif false then true else decide (farI k x' y' z' w' ≥ 0)) false (by simp; omega) (by kernel_rfl) <| R.call mixed hc (by kernel_rfl) <| R.fin mixed Try.func13 (by kernel_rfl)

theorem far_zero (hk : 0 ≤ k ∧ k ≤ 6) (X Y Z W : Int) : farI k (mx k X W) (my k Y W) (mz k Z W) (mw k W) = 0 := by
  have hk' : k = 0 ∨ k = 1 ∨ k = 2 ∨ k = 3 ∨ k = 4 ∨ k = 5 ∨ k = 6 := by omega
  rcases hk' with rfl | rfl | rfl | rfl | rfl | rfl | rfl <;> simp [farI, mx, my, mz, mw] <;> omega

theorem cut_may {D E : Int} (hk : 0 ≤ k ∧ k ≤ 6) (h : mayC x y z w a b c d_ e_ f) (h' : mayC x' y' z' w' a' b' c' d_' e_' f') (s : Sep D E) (hD : D = farI k x y z w) (hE : E = farI k x' y' z' w') :
    mayC (mx k (bet x x' D E) (bet w w' D E)) (my k (bet y y' D E) (bet w w' D E)) (mz k (bet z z' D E) (bet w w' D E)) (mw k (bet w w' D E)) (bet a a' D E) (bet b b' D E) (bet c c' D E) (bet d_ d_' D E) (bet e_ e_' D E) (bet f f' D E) := by
  obtain ⟨⟨h0, h1, h2, h3⟩, i4, i5, i6, i7, i8, i9⟩ := h
  obtain ⟨⟨g0, g1, g2, g3⟩, j4, j5, j6, j7, j8, j9⟩ := h'
  have X := bet_range (M := 1073741824) s h0 g0 (by omega)
  have Y := bet_range (M := 1073741824) s h1 g1 (by omega)
  have Z := bet_range (M := 1073741824) s h2 g2 (by omega)
  have W := bet_range (M := 1073741824) s h3 g3 (by omega)
  refine ⟨?_, bet_range s i4 j4 (by omega), bet_range s i5 j5 (by omega), bet_range s i6 j6 (by omega), bet_range s i7 j7 (by omega), bet_range s i8 j8 (by omega), bet_range s i9 j9 (by omega)⟩
  have nx : ok30 (-x) := by simp only [ok30] at *; omega
  have nx' : ok30 (-x') := by simp only [ok30] at *; omega
  have ny : ok30 (-y) := by simp only [ok30] at *; omega
  have ny' : ok30 (-y') := by simp only [ok30] at *; omega
  have hk' : k = 0 ∨ k = 1 ∨ k = 2 ∨ k = 3 ∨ k = 4 ∨ k = 5 ∨ k = 6 := by omega
  rcases hk' with rfl | rfl | rfl | rfl | rfl | rfl | rfl
  · simp [mayV, ok30, mx, my, mz, mw]; omega
  · simp [mayV, ok30, mx, my, mz, mw]; omega
  · simp [mayV, ok30, mx, my, mz, mw]; omega
  · have M := meet4 s h0 g0 (w := w) (w' := w') (by simpa [farI] using hD) (by simpa [farI] using hE)
    simp [mayV, ok30, mx, my, mz, mw]; omega
  · have M := meet4 s nx nx' (w := w) (w' := w') (by simp [farI] at hD; omega) (by simp [farI] at hE; omega)
    simp [mayV, ok30, mx, my, mz, mw]; omega
  · have M := meet4 s h1 g1 (w := w) (w' := w') (by simpa [farI] using hD) (by simpa [farI] using hE)
    simp [mayV, ok30, mx, my, mz, mw]; omega
  · have M := meet4 s ny ny' (w := w) (w' := w') (by simp [farI] at hD; omega) (by simp [farI] at hE; omega)
    simp [mayV, ok30, mx, my, mz, mw]; omega

theorem c_awake15 : Con Try.prog 15 [] (.bool true) := by
  have ha : mayC 0 0 0 3 0 0 0 0 0 0 := by decide
  have hb : mayC 4 0 0 (-1) 0 0 0 0 0 0 := by decide
  have hc : mayC 1 0 0 2 0 0 0 0 0 0 := by decide
  obtain ⟨D, E, hD, hE, c1, _⟩ := cuts_ (k := 0) (by omega) ha hb (by decide) (by decide)
  subst hD hE
  exact Con.run Try.func15 (by kernel_rfl) rfl <| R.call mixed (cutOk (k := 0) (by omega) ha hb (by decide) (by decide) c1) (by kernel_rfl) <| R.call mixed (farOk (k := 3) (by omega) hc) (by kernel_rfl) <| R.fin mixed Try.func15 (by kernel_rfl)

theorem cutsLaw : RunsE Try.prog 3 0 (entry Try.f3 [.int .i64 k, C10 x y z w a b c d_ e_ f, C10 x' y' z' w' a' b' c' d_' e_' f'] []) (.bool true) := by
  rcases Decidable.em (k < 0 ∨ 6 < k) with hk | hk
  · refine R.call mixed (@cutBad k x y z w a b c d_ e_ f x' y' z' w' a' b' c' d_' e_' f' hk) (by kernel_rfl) <| R.call mixed (@farBad k x y z w a b c d_ e_ f hk) (by kernel_rfl) ?_
    rcases Decidable.em (k < 0) with h1 | h1
    · exact R.guardIs mixed 12 (decide (k < 0)) true (decide_eq_true h1) (by kernel_rfl) <| R.call mixed c_awake15 (by kernel_rfl) <| R.fin mixed Try.func3 (by kernel_rfl)
    · exact R.guardIs mixed 12 (decide (k < 0)) false (decide_eq_false h1) (by kernel_rfl) <| R.cond mixed 4 (bif false then true else decide (k > 6)) true (by simp; omega) (by kernel_rfl) <| R.call mixed c_awake15 (by kernel_rfl) <| R.fin mixed Try.func3 (by kernel_rfl)
  · have hk' : 0 ≤ k ∧ k ≤ 6 := by omega
    have k1 : decide (k < 0) = false := decide_eq_false (by omega)
    have k2 : (bif false then true else decide (k > 6)) = false := by simp; omega
    rcases Decidable.em (mayC x y z w a b c d_ e_ f) with ha | ha
    · have rf := c_rfar hk' ha.1
      rcases Decidable.em (mayC x' y' z' w' a' b' c' d_' e_' f') with hb | hb
      · have rf' := c_rfar hk' hb.1
        rcases Decidable.em (farI k x y z w < 0) with hd | hd
        · exact R.call mixed (cutForm hk' ha hb (.inl hd)) (by kernel_rfl) <| R.call mixed (farOk hk' ha) (by kernel_rfl) <| R.guardIs mixed 12 (decide (k < 0)) false k1 (by kernel_rfl) <| R.cond mixed 4 (bif false then true else decide (k > 6)) false k2 (by kernel_rfl) <|
            R.call mixed (rmay' (decide_eq_true ha)) (by kernel_rfl) <| R.call mixed rf (by kernel_rfl) <| R.cond mixed 3 (farI k x y z w != farI k x y z w) false (by simp) (by kernel_rfl) <| R.call mixed (rmay' (decide_eq_true hb)) (by kernel_rfl) <|
            R.guardIs mixed 10 (decide (farI k x y z w < 0)) true (decide_eq_true hd) (by kernel_rfl) <| R.call mixed c_awake15 (by kernel_rfl) <| R.fin mixed Try.func3 (by kernel_rfl)
        · rcases Decidable.em (0 ≤ farI k x' y' z' w') with he | he
          · exact R.call mixed (cutForm hk' ha hb (.inr he)) (by kernel_rfl) <| R.call mixed (farOk hk' ha) (by kernel_rfl) <| R.guardIs mixed 12 (decide (k < 0)) false k1 (by kernel_rfl) <| R.cond mixed 4 (bif false then true else decide (k > 6)) false k2 (by kernel_rfl) <|
              R.call mixed (rmay' (decide_eq_true ha)) (by kernel_rfl) <| R.call mixed rf (by kernel_rfl) <| R.cond mixed 3 (farI k x y z w != farI k x y z w) false (by simp) (by kernel_rfl) <| R.call mixed (rmay' (decide_eq_true hb)) (by kernel_rfl) <|
              R.guardIs mixed 10 (decide (farI k x y z w < 0)) false (decide_eq_false hd) (by kernel_rfl) <| R.call mixed rf' (by kernel_rfl) <| R.cond mixed 3 (bif false then true else decide (farI k x' y' z' w' ≥ 0)) true (by simp; omega) (by kernel_rfl) <|
              R.call mixed c_awake15 (by kernel_rfl) <| R.fin mixed Try.func3 (by kernel_rfl)
          · obtain ⟨D, E, hD, hE, c1, c2⟩ := cuts_ hk' ha hb (by omega) (by omega)
            have fb := farI_bounds (k := k) ha.1
            have fb' := farI_bounds (k := k) hb.1
            have s : Sep D E := ⟨by omega, by omega, by omega, by omega⟩
            have hm := cut_may hk' ha hb s hD hE
            have rz := (c_rfar hk' hm.1).val rfl (by rw [far_zero hk'])
            exact R.call mixed (cutOk hk' ha hb (by omega) (by omega) c1) (by kernel_rfl) <| R.call mixed (farOk hk' ha) (by kernel_rfl) <| R.guardIs mixed 12 (decide (k < 0)) false k1 (by kernel_rfl) <| R.cond mixed 4 (bif false then true else decide (k > 6)) false k2 (by kernel_rfl) <|
              R.call mixed (rmay' (decide_eq_true ha)) (by kernel_rfl) <| R.call mixed rf (by kernel_rfl) <| R.cond mixed 3 (farI k x y z w != farI k x y z w) false (by simp) (by kernel_rfl) <| R.call mixed (rmay' (decide_eq_true hb)) (by kernel_rfl) <|
              R.guardIs mixed 10 (decide (farI k x y z w < 0)) false (decide_eq_false hd) (by kernel_rfl) <| R.call mixed rf' (by kernel_rfl) <| R.cond mixed 3 (bif false then true else decide (farI k x' y' z' w' ≥ 0)) false (by simp; omega) (by kernel_rfl) <|
              R.call mixed c2 (by kernel_rfl) <|
              R.guardIs mixed 3 (eqs [(mx k (bet x x' D E) (bet w w' D E)), (my k (bet y y' D E) (bet w w' D E)), (mz k (bet z z' D E) (bet w w' D E)), (mw k (bet w w' D E))] [(mx k (bet x x' D E) (bet w w' D E)), (my k (bet y y' D E) (bet w w' D E)), (mz k (bet z z' D E) (bet w w' D E)), (mw k (bet w w' D E))] && (eqs [(bet a a' D E), (bet b b' D E), (bet c c' D E), (bet d_ d_' D E), (bet e_ e_' D E), (bet f f' D E)] [(bet a a' D E), (bet b b' D E), (bet c c' D E), (bet d_ d_' D E), (bet e_ e_' D E), (bet f f' D E)] && true)) true (by rw [eqs_self, eqs_self]; rfl) (by kernel_rfl) <|
              R.call mixed rz (by kernel_rfl) <| R.call mixed (rmay' (decide_eq_true hm)) (by kernel_rfl) <| R.call mixed c_awake15 (by kernel_rfl) <| R.fin mixed Try.func3 (by kernel_rfl)
      · exact R.call mixed (cutNoB hk' ha hb) (by kernel_rfl) <| R.call mixed (farOk hk' ha) (by kernel_rfl) <| R.guardIs mixed 12 (decide (k < 0)) false k1 (by kernel_rfl) <| R.cond mixed 4 (bif false then true else decide (k > 6)) false k2 (by kernel_rfl) <|
          R.call mixed (rmay' (decide_eq_true ha)) (by kernel_rfl) <| R.call mixed rf (by kernel_rfl) <| R.cond mixed 3 (farI k x y z w != farI k x y z w) false (by simp) (by kernel_rfl) <| R.call mixed (rmay' (decide_eq_false hb)) (by kernel_rfl) <|
          R.call mixed c_awake15 (by kernel_rfl) <| R.fin mixed Try.func3 (by kernel_rfl)
    · exact R.call mixed (@cutNoA k x y z w a b c d_ e_ f x' y' z' w' a' b' c' d_' e_' f' hk' ha) (by kernel_rfl) <| R.call mixed (farNo hk' ha) (by kernel_rfl) <| R.guardIs mixed 12 (decide (k < 0)) false k1 (by kernel_rfl) <| R.cond mixed 4 (bif false then true else decide (k > 6)) false k2 (by kernel_rfl) <|
        R.call mixed (rmay' (decide_eq_false ha)) (by kernel_rfl) <| R.call mixed c_awake15 (by kernel_rfl) <| R.fin mixed Try.func3 (by kernel_rfl)
end

theorem cutsFn (k x y z w a b c d_ e_ f x' y' z' w' a' b' c' d_' e_' f' : Int) : FnEq Try.prog 3 [.int .i64 k, C10 x y z w a b c d_ e_ f, C10 x' y' z' w' a' b' c' d_' e_' f'] [] (.bool true) [] := FnEq.run Try.func3 (by kernel_rfl) rfl cutsLaw

end Go.Proofs.Ytfkmhhbpomkakaa.Clip
