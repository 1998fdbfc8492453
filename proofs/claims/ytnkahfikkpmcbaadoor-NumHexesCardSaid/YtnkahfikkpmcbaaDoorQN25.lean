/- The law NumHexes: true. -/
import Derived.Test.YtnkahfikkpmcbaaDoorQN24
namespace Go.Proofs.YtnkahfikkpmcbaaDoor.Lf
open Go Go.Dt Go.Proofs
set_option linter.unusedVariables false
set_option linter.unusedSimpArgs false

theorem strs_eq (s : ByteArray) : (s.toList == s.toList) = true := by simp
theorem unhex_z (s : ByteArray) : ∀ (K : Nat) (i p x : Int), FR03_Unhex_5 s K p i = some (x, false) → x = 0
  | 0, i, p, x, h => by cases h
  | K + 1, i, p, x, h => by
    have ih := fun i p => unhex_z s K i p x
    have z : some ((0 : Int), false) = some (x, false) → x = 0 := fun h => by cases h; rfl
    rw [FR03_Unhex_5] at h
    generalize IntKind.i64.wrap (byteAt s i) = c at h
    cases h1 : decide (i < (s.size : Int)) with
    | false => rw [h1] at h; cases h
    | true =>
      cases h2 : inR i s.size with
      | false => rw [h1, h2] at h; cases h
      | true =>
        rw [h1, h2] at h
        revert h
        cases decide (c ≥ 48) <;> cases decide (c ≤ 57) <;> cases decide (c ≥ 97) <;> cases decide (c ≤ 102) <;> simp only [cond_true, cond_false] <;> first | exact ih _ _ | exact z
theorem unhex_zero {K : Nat} {s : ByteArray} {x : Int} (h : FR03_Unhex K s = some (x, false)) : x = 0 := by
  have z : some ((0 : Int), false) = some (x, false) → x = 0 := fun h => by cases h; rfl
  unfold FR03_Unhex at h
  revert h
  cases decide ((s.size : Int) < 1) <;> cases decide ((s.size : Int) > 15) <;> simp only [cond_true, cond_false] <;> first | exact unhex_z s K _ _ x | exact z
theorem FL03_ok {K : Nat} {n many : Int} {s : ByteArray} (hK : 200 ≤ K) (n1 : -9223372036854775808 ≤ n) (n2 : n ≤ 9223372036854775807) : FL03_NumHexes K n many s = some true := by
  obtain ⟨⟨x, ok⟩, hr⟩ := FR03_Unhex_tot (s := s) hK
  have hu : Fnum_Unhex K s = some (hexR (x, ok)) := by rw [Unhex_same, hr]; rfl
  have ha := awake03_ok K (by omega)
  have hx : ok = false → x = 0 := by
    intro h; subst h
    exact unhex_zero hr
  unfold FL03_NumHexes
  rw [hu, hr, ha]
  cases decide ((s.size : Int) > 100) with
  | true => rfl
  | false =>
    have c1 : (x != x) = false := by simp
    rcases Decidable.em (many < 1) with g1 | g1
    · rw [Hex_many (Or.inl g1), decide_eq_true g1]
      cases ok with
      | true => simp [hexR, c1]
      | false => rw [hx rfl]; simp [hexR]
    · rcases Decidable.em (15 < many) with g2 | g2
      · rw [Hex_many (Or.inr g2), decide_eq_false g1, decide_eq_true (show many > 15 from g2)]
        cases ok with
        | true => simp [hexR, c1]
        | false => rw [hx rfl]; simp [hexR]
      · rcases Decidable.em (n < 0) with g3 | g3
        · rw [Hex_neg (by omega) (by omega) g3, decide_eq_false g1, decide_eq_false (show ¬ many > 15 from g2), decide_eq_true g3]
          cases ok with
          | true => simp [hexR, c1]
          | false => rw [hx rfl]; simp [hexR]
        · obtain ⟨k, rfl⟩ : ∃ k : Nat, many = (k + 1 : Nat) := ⟨(many - 1).toNat, by omega⟩
          obtain ⟨m, rfl⟩ : ∃ m : Nat, n = m := ⟨n.toNat, by omega⟩
          have e : IntKind.i64.wrap (4 * ((k + 1 : Nat) : Int)) = ((4 * (k + 1) : Nat) : Int) := by rw [wrap_i64_of (by omega) (by omega)]; omega
          have e16 : (2 : Nat) ^ (4 * (k + 1)) = 16 ^ (k + 1) := by rw [Nat.pow_mul]
          rw [e, FR01_Power_eq (by omega) (by omega), decide_eq_false g1, decide_eq_false (show ¬ ((k + 1 : Nat) : Int) > 15 from g2), decide_eq_false g3]
          rcases Decidable.em (((2 ^ (4 * (k + 1)) : Nat) : Int) ≤ (m : Int)) with g4 | g4
          · rw [Hex_big (by omega) (by omega) g4]
            simp only [Option.bind_some]
            rw [decide_eq_true (show (m : Int) ≥ ((2 ^ (4 * (k + 1)) : Nat) : Int) from g4)]
            cases ok with
            | true => simp [hexR, c1]
            | false => rw [hx rfl]; simp [hexR]
          · have hm : m < 16 ^ (k + 1) := by rw [e16] at g4; omega
            rw [Hex_ok (by omega) hm hK]
            simp only [Option.bind_some]
            rw [decide_eq_false (show ¬ (m : Int) ≥ ((2 ^ (4 * (k + 1)) : Nat) : Int) from g4)]
            have hh : Fnum_Unhex K (strU (hexL (k + 1) m)) = some (hexR ((m : Int), true)) := by rw [Unhex_same, FR03_Unhex_hex (by omega) (by omega) hm (by omega)]; rfl
            rw [hh, FR03_Hex_eq K (k + 1) m (by omega) (by omega) (by omega)]
            cases ok with
            | true => simp [hexR, c1]
            | false => rw [hx rfl]; simp [hexR]
theorem numHexes_walk (a0 : Int) (w0 : (Lit.int .i64 a0).wf = true) (a1 : Int) (w1 : (Lit.int .i64 a1).wf = true) (a2 : ByteArray) (w2 : a2.size ≤ maxLen) :
    Con Tryd.prog 4 [.int .i64 a0, .int .i64 a1, .string a2] (.bool true) := by
  have h : -9223372036854775808 ≤ a0 ∧ a0 ≤ 9223372036854775807 := by
    simp only [Lit.wf, Bool.and_eq_true, decide_eq_true_eq] at w0
    exact w0
  exact cL03_NumHexes 200 a0 a1 a2 true (FL03_ok (Nat.le_refl _) h.1 h.2)
end Go.Proofs.YtnkahfikkpmcbaaDoor.Lf
