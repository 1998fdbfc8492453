/- The reference's mix. -/
import Derived.Test.YtfkmhhbpomkakaaBB2
namespace Go.Proofs.Ytfkmhhbpomkakaa.Bary
open Go Go.Dt Go.Proofs Go.Proofs.Ytfkmhhbpomkakaa.Wide
set_option linter.unusedVariables false

theorem mix_parts {w v : Int} (h : okM w v) : IntKind.i64.wrap (w * (v / 32768)) = w * (v / 32768) ∧ IntKind.i64.wrap (w * IntKind.i64.wrap (v - IntKind.i64.wrap (32768 * (v / 32768)))) = w * v - w * (v / 32768) * 32768 ∧
    -(w * 32768) ≤ w * (v / 32768) ∧ w * (v / 32768) ≤ w * 32768 ∧ 0 ≤ w * v - w * (v / 32768) * 32768 ∧ w * v - w * (v / 32768) * 32768 ≤ w * 32767 := by
  obtain ⟨w0, w1, v0, v1⟩ := h
  have s1 := scaled w0 (show -32768 ≤ v / 32768 by omega) (show v / 32768 ≤ 32768 by omega)
  have s2 := scaled w0 (show 0 ≤ v - 32768 * (v / 32768) by omega) (show v - 32768 * (v / 32768) ≤ 32767 by omega)
  have e : w * (v - 32768 * (v / 32768)) = w * v - w * (v / 32768) * 32768 := by
    rw [Int.mul_sub, Int.mul_comm 32768 (v / 32768), Int.mul_assoc]
  rw [wrap_i64_of (n := 32768 * (v / 32768)) (by omega) (by omega), wrap_i64_of (n := v - 32768 * (v / 32768)) (by omega) (by omega), e]
  rw [e] at s2
  exact ⟨wrap_i64_of (by omega) (by omega), wrap_i64_of (by omega) (by omega), by omega, by omega, by omega, by omega⟩

theorem c_rmix {w0 w1 w2 v0 v1 v2 : Int} (h : mayM w0 w1 w2 v0 v1 v2) : Con Try.prog 72 [A3 w0 w1 w2, A3 v0 v1 v2] (.int .i64 (mixed_ w0 w1 w2 v0 v1 v2)) := by
  obtain ⟨m0, m1, m2, hs⟩ := h
  obtain ⟨a1, a2, a3, a4, a5, a6⟩ := mix_parts m0
  obtain ⟨b1, b2, b3, b4, b5, b6⟩ := mix_parts m1
  obtain ⟨c1, c2, c3, c4, c5, c6⟩ := mix_parts m2
  obtain ⟨p1, p2, p3, p4⟩ := m0
  obtain ⟨q1, q2, q3, q4⟩ := m1
  obtain ⟨r1, r2, r3, r4⟩ := m2
  have hall : IntKind.i64.wrap (IntKind.i64.wrap (w0 + w1) + w2) = w0 + w1 + w2 := by rw [wrap_i64_of (n := w0 + w1) (by omega) (by omega), wrap_i64_of (by omega) (by omega)]
  have hhi : IntKind.i64.wrap (IntKind.i64.wrap (IntKind.i64.wrap (0 + IntKind.i64.wrap (w0 * (v0 / 32768))) + IntKind.i64.wrap (w1 * (v1 / 32768))) + IntKind.i64.wrap (w2 * (v2 / 32768))) = w0 * (v0 / 32768) + w1 * (v1 / 32768) + w2 * (v2 / 32768) := by
    rw [a1, b1, c1, Int.zero_add, wrap_i64_of (n := w0 * (v0 / 32768)) (by omega) (by omega), wrap_i64_of (n := w0 * (v0 / 32768) + w1 * (v1 / 32768)) (by omega) (by omega), wrap_i64_of (by omega) (by omega)]
  have hlo : IntKind.i64.wrap (IntKind.i64.wrap (IntKind.i64.wrap (0 + IntKind.i64.wrap (w0 * IntKind.i64.wrap (v0 - IntKind.i64.wrap (32768 * (v0 / 32768))))) + IntKind.i64.wrap (w1 * IntKind.i64.wrap (v1 - IntKind.i64.wrap (32768 * (v1 / 32768))))) + IntKind.i64.wrap (w2 * IntKind.i64.wrap (v2 - IntKind.i64.wrap (32768 * (v2 / 32768))))) =
      w0 * v0 + w1 * v1 + w2 * v2 - (w0 * (v0 / 32768) + w1 * (v1 / 32768) + w2 * (v2 / 32768)) * 32768 := by
    rw [a2, b2, c2, Int.zero_add, wrap_i64_of (n := w0 * v0 - w0 * (v0 / 32768) * 32768) (by omega) (by omega), wrap_i64_of (n := w0 * v0 - w0 * (v0 / 32768) * 32768 + (w1 * v1 - w1 * (v1 / 32768) * 32768)) (by omega) (by omega), wrap_i64_of (by omega) (by omega)]
    omega
  have lo0 : 0 ≤ w0 * v0 + w1 * v1 + w2 * v2 - (w0 * (v0 / 32768) + w1 * (v1 / 32768) + w2 * (v2 / 32768)) * 32768 := by omega
  have lo1 : w0 * v0 + w1 * v1 + w2 * v2 - (w0 * (v0 / 32768) + w1 * (v1 / 32768) + w2 * (v2 / 32768)) * 32768 ≤ (w0 + w1 + w2) * 32767 := by omega
  have hi0 : -((w0 + w1 + w2) * 32768) ≤ w0 * (v0 / 32768) + w1 * (v1 / 32768) + w2 * (v2 / 32768) := by omega
  have hi1 : w0 * (v0 / 32768) + w1 * (v1 / 32768) + w2 * (v2 / 32768) ≤ (w0 + w1 + w2) * 32768 := by omega
  have all1 : w0 + w1 + w2 ≤ 13194139533312 := by omega
  have hc : Con Try.prog 104 [.int .i64 (IntKind.i64.wrap (IntKind.i64.wrap (IntKind.i64.wrap (0 + IntKind.i64.wrap (w0 * (v0 / 32768))) + IntKind.i64.wrap (w1 * (v1 / 32768))) + IntKind.i64.wrap (w2 * (v2 / 32768)))), .int .i64 (IntKind.i64.wrap (IntKind.i64.wrap (w0 + w1) + w2))]
      (.int .i64 ((w0 * (v0 / 32768) + w1 * (v1 / 32768) + w2 * (v2 / 32768)) / (w0 + w1 + w2))) := by
    rw [hall, hhi]
    exact c_floor1 _ _ (by omega) (by omega) hs (by omega)
  unfold mixed_
  have k0 : Con Try.prog 104 [.int .i64 v0, .int .i64 32768] (.int .i64 (v0 / 32768)) := c_floor1 v0 32768 (by omega) (by omega) (by omega) (by omega)
  have k1 : Con Try.prog 104 [.int .i64 v1, .int .i64 32768] (.int .i64 (v1 / 32768)) := c_floor1 v1 32768 (by omega) (by omega) (by omega) (by omega)
  have k2 : Con Try.prog 104 [.int .i64 v2, .int .i64 32768] (.int .i64 (v2 / 32768)) := c_floor1 v2 32768 (by omega) (by omega) (by omega) (by omega)
  have hq0 := Int.le_ediv_of_mul_le (a := -32768) (b := w0 * (v0 / 32768) + w1 * (v1 / 32768) + w2 * (v2 / 32768)) hs (by omega)
  have hq1 := Int.ediv_lt_of_lt_mul (a := w0 * (v0 / 32768) + w1 * (v1 / 32768) + w2 * (v2 / 32768)) (b := 32769) hs (by omega)
  have em := Int.mul_ediv_add_emod (w0 * (v0 / 32768) + w1 * (v1 / 32768) + w2 * (v2 / 32768)) (w0 + w1 + w2)
  have em0 := Int.emod_nonneg (w0 * (v0 / 32768) + w1 * (v1 / 32768) + w2 * (v2 / 32768)) (b := w0 + w1 + w2) (by omega)
  have em1 := Int.emod_lt_of_pos (w0 * (v0 / 32768) + w1 * (v1 / 32768) + w2 * (v2 / 32768)) hs
  rw [Int.mul_comm] at em
  have fin_ : ∀ lo' hi' al, lo' = IntKind.i64.wrap (IntKind.i64.wrap (IntKind.i64.wrap (0 + IntKind.i64.wrap (w0 * IntKind.i64.wrap (v0 - IntKind.i64.wrap (32768 * (v0 / 32768))))) + IntKind.i64.wrap (w1 * IntKind.i64.wrap (v1 - IntKind.i64.wrap (32768 * (v1 / 32768))))) + IntKind.i64.wrap (w2 * IntKind.i64.wrap (v2 - IntKind.i64.wrap (32768 * (v2 / 32768))))) →
      hi' = IntKind.i64.wrap (IntKind.i64.wrap (IntKind.i64.wrap (0 + IntKind.i64.wrap (w0 * (v0 / 32768))) + IntKind.i64.wrap (w1 * (v1 / 32768))) + IntKind.i64.wrap (w2 * (v2 / 32768))) → al = IntKind.i64.wrap (IntKind.i64.wrap (w0 + w1) + w2) →
      (∃ X, Con Try.prog 104 [.int .i64 (IntKind.i64.wrap (IntKind.i64.wrap (IntKind.i64.wrap (hi' - IntKind.i64.wrap ((w0 * (v0 / 32768) + w1 * (v1 / 32768) + w2 * (v2 / 32768)) / (w0 + w1 + w2) * al)) * 32768) + lo')), .int .i64 al] (.int .i64 X) ∧
        IntKind.i64.wrap (IntKind.i64.wrap ((w0 * (v0 / 32768) + w1 * (v1 / 32768) + w2 * (v2 / 32768)) / (w0 + w1 + w2) * 32768) + X) = (w0 * v0 + w1 * v1 + w2 * v2) / (w0 + w1 + w2)) := by
    intro lo' hi' al e1 e2 e3
    rw [hlo] at e1
    rw [hhi] at e2
    rw [hall] at e3
    subst e1 e2 e3
    generalize hL : w0 * v0 + w1 * v1 + w2 * v2 - (w0 * (v0 / 32768) + w1 * (v1 / 32768) + w2 * (v2 / 32768)) * 32768 = L at *
    have hS : w0 * v0 + w1 * v1 + w2 * v2 = (w0 * (v0 / 32768) + w1 * (v1 / 32768) + w2 * (v2 / 32768)) * 32768 + L := by omega
    rw [hS]
    clear hS hL hc hlo hhi hall
    generalize w0 * (v0 / 32768) + w1 * (v1 / 32768) + w2 * (v2 / 32768) = Hi at *
    generalize w0 + w1 + w2 = al at *
    have ew : IntKind.i64.wrap (IntKind.i64.wrap (IntKind.i64.wrap (Hi - IntKind.i64.wrap (Hi / al * al)) * 32768) + L) = Hi % al * 32768 + L := by
      rw [wrap_i64_of (n := Hi / al * al) (by omega) (by omega), wrap_i64_of (n := Hi - Hi / al * al) (by omega) (by omega), wrap_i64_of (n := _ * 32768) (by omega) (by omega), wrap_i64_of (by omega) (by omega)]
      omega
    have x0 : 0 ≤ (Hi % al * 32768 + L) / al := Int.ediv_nonneg (by omega) (by omega)
    have x1 := Int.ediv_lt_of_lt_mul (a := Hi % al * 32768 + L) (b := 65536) hs (by omega)
    refine ⟨(Hi % al * 32768 + L) / al, ?_, ?_⟩
    · rw [ew]
      exact c_floor1 _ _ (by omega) (by omega) hs (by omega)
    · rw [wrap_i64_of (n := Hi / al * 32768) (by omega) (by omega), wrap_i64_of (by omega) (by omega)]
      have e4 : Hi * 32768 + L = Hi % al * 32768 + L + al * (Hi / al * 32768) := by
        rw [← Int.mul_assoc, Int.mul_comm al]
        omega
      rw [e4, Int.add_mul_ediv_left _ _ (by omega)]
      omega
  obtain ⟨X, hX, hv⟩ := fin_ _ _ _ rfl rfl rfl
  rw [← hv]
  exact Con.run Try.func72 (by kernel_rfl) rfl <| R.call mixed k0 (by kernel_rfl) <| R.call mixed k1 (by kernel_rfl) <| R.call mixed k2 (by kernel_rfl) <| R.call mixed hc (by kernel_rfl) <| R.call mixed hX (by kernel_rfl) <| R.fin mixed Try.func72 (by kernel_rfl)

end Go.Proofs.Ytfkmhhbpomkakaa.Bary
