/- Several texts in one: LNl, LNm, LNn. -/
import Derived.Test.YtnkahfikkpmcbaaDoorQB23
namespace Go.Proofs.YtnkahfikkpmcbaaDoor.Lf

section
open Go Go.Dt Go.Proofs
set_option linter.unusedVariables false
set_option linter.unusedSimpArgs false

theorem getR_at {xs : List U8} {i : Nat} {b : U8} (h : xs[i]? = some b) : getR xs i = b := by
  unfold getR
  rw [List.getD_eq_getElem?_getD, h]; rfl
theorem rev_loop (a0 : List U8) : ∀ (K : Nat) (pre mid post : List U8), mid.length < 2 * K → pre.length + mid.length + post.length ≤ 100000 →
    Fslices_Reverse_1 a0 K (pre ++ mid ++ post) (pre.length : Int) ((pre.length : Int) + mid.length - 1) = some ((), pre ++ mid.reverse ++ post)
  | 0, _, _, _, h, _ => absurd h (Nat.not_lt_zero _)
  | K + 1, pre, [], post, h, hb => by
    rw [Fslices_Reverse_1, decide_eq_false (by simp; omega)]
    rfl
  | K + 1, pre, x :: t, post, h, hb => by
    rcases List.eq_nil_or_concat t with rfl | ⟨m, y, rfl⟩
    · rw [Fslices_Reverse_1, decide_eq_false (by simp)]
      rfl
    · rw [List.concat_eq_append] at h hb ⊢
      have hj : (pre.length : Int) + ((x :: (m ++ [y])).length : Nat) - 1 = ((pre.length + m.length + 1 : Nat) : Int) := by simp; omega
      have hlen : (pre ++ x :: (m ++ [y]) ++ post).length = pre.length + m.length + 2 + post.length := by simp; omega
      have gx : getR (pre ++ x :: (m ++ [y]) ++ post) pre.length = x := getR_at (by simp)
      have gy : getR (pre ++ x :: (m ++ [y]) ++ post) (pre.length + m.length + 1) = y := getR_at (by
        rw [List.append_assoc, List.getElem?_append_right (by omega), show pre.length + m.length + 1 - pre.length = m.length + 1 by omega]
        simp)
      have r1 : inR ((pre.length : Nat) : Int) (pre ++ x :: (m ++ [y]) ++ post).length = true := by
        rw [hlen]; simp only [inR, Bool.and_eq_true, decide_eq_true_eq]; omega
      have r2 : inR ((pre.length + m.length + 1 : Nat) : Int) (pre ++ x :: (m ++ [y]) ++ post).length = true := by
        rw [hlen]; simp only [inR, Bool.and_eq_true, decide_eq_true_eq]; omega
      have e : ((pre ++ x :: (m ++ [y]) ++ post).set pre.length y).set (pre.length + m.length + 1) x = (pre ++ [y]) ++ m ++ (x :: post) := by
        have e1 : (pre ++ x :: (m ++ [y]) ++ post).set pre.length y = (pre ++ y :: m) ++ (y :: post) := by simp [List.set_append]
        rw [e1, List.set_append_right _ _ (by simp; omega)]
        have e2 : pre.length + m.length + 1 - (pre ++ y :: m).length = 0 := by simp; omega
        rw [e2]
        simp
      have hb' : pre.length + m.length + 2 + post.length ≤ 100000 := by simp at hb; omega
      have w1 : IntKind.i64.wrap ((pre.length : Int) + 1) = ((pre ++ [y]).length : Int) := by rw [wrap_i64_of (by omega) (by omega)]; simp
      have w2 : IntKind.i64.wrap (((pre.length + m.length + 1 : Nat) : Int) - 1) = ((pre ++ [y]).length : Int) + m.length - 1 := by rw [wrap_i64_of (by omega) (by omega)]; simp; omega
      have ih := rev_loop a0 K (pre ++ [y]) m (x :: post) (by simp at h; omega) (by simp; omega)
      rw [Fslices_Reverse_1, hj, decide_eq_true (by omega)]
      simp only [cond_true, r1, r2, Int.toNat_natCast, gx, gy, w1, w2]
      show Fslices_Reverse_1 a0 K (((pre ++ x :: (m ++ [y]) ++ post).set pre.length y).set (pre.length + m.length + 1) x) _ _ = _
      rw [e, ih]
      simp
theorem Fslices_Reverse_eq {K : Nat} {xs : List U8} (h : xs.length < 2 * K) (hb : xs.length ≤ 100000) : Fslices_Reverse K xs = some ((), xs.reverse) := by
  have := rev_loop xs K [] xs [] h (by simpa using hb)
  unfold Fslices_Reverse
  rw [wrap_i64_of (by omega) (by omega)]
  simpa using this
end

section
open Go Go.Dt Go.Proofs
set_option linter.unusedVariables false
set_option linter.unusedSimpArgs false

theorem code_all : (List.range 16).all (fun d => byteAt digs (d : Nat) == (codeV d).n) = true := by kernel_rfl
theorem code_eq {d : Nat} (h : d < 16) : byteAt digs (d : Int) = (codeV d).n := eq_of_beq (List.all_eq_true.1 code_all d (List.mem_range.2 h))
end

section
open Go Go.Dt Go.Proofs
set_option linter.unusedVariables false
set_option linter.unusedSimpArgs false

end

end Go.Proofs.YtnkahfikkpmcbaaDoor.Lf
