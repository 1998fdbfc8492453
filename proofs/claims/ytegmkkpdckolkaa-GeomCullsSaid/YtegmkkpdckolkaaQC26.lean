/- Several texts in one: PDz1, PEz1. -/
import Derived.Test.YtegmkkpdckolkaaQC25
import Derived.Test.YtegmkkpdckolkaaQC13
namespace Go.Proofs.Ytegmkkpdckolkaa.Pol

section
open Go Go.Dt Go.Proofs Go.Proofs.Ytegmkkpdckolkaa.Clip Go.Proofs.Ytegmkkpdckolkaa.Wide
set_option linter.unusedVariables false
set_option linter.unusedSimpArgs false

theorem far_cut {k : Int} {a b : Cr} (hk : 0 ≤ k ∧ k ≤ 6) : farC k (cutC k a b) = 0 := far_zero hk _ _ _ _
theorem step_far {k : Int} {a b : Cr} (hk : 0 ≤ k ∧ k ≤ 6) : ∀ c, c ∈ stepAt k a b → 0 ≤ farC k c := by
  intro c hc
  unfold stepAt at hc
  split at hc
  · rename_i h
    split at hc
    · simp only [List.mem_singleton] at hc; subst hc; exact h
    · simp only [List.mem_cons, List.not_mem_nil, or_false] at hc
      rcases hc with rfl | rfl
      · exact h
      · rw [far_cut hk]; omega
  · split at hc
    · simp only [List.mem_singleton] at hc; subst hc; rw [far_cut hk]; omega
    · cases hc
theorem flat_far {k : Int} {ps : List Cr} (hk : 0 ≤ k ∧ k ≤ 6) : ∀ (d i : Nat) (c : Cr), c ∈ flat k ps d i → 0 ≤ farC k c
  | 0, i, c, h => by cases h
  | d + 1, i, c, h => by
    rw [flat_succ rfl] at h
    rcases List.mem_append.1 h with h | h
    · exact step_far hk c h
    · exact flat_far hk d (i + 1) c h
theorem flat_in {k : Int} {ps : List Cr} (h : ∀ i, i < ps.length → 0 ≤ farC k (ps.getD i c0)) : ∀ (d i : Nat), i + d = ps.length → flat k ps d i = ps.drop i
  | 0, i, hi => by
    rw [List.drop_eq_nil_of_le (by omega)]; rfl
  | d + 1, i, hi => by
    have hs : stepAt k (ps.getD i c0) (ps.getD ((i + 1) % ps.length) c0) = [ps.getD i c0] := by
      unfold stepAt
      rw [if_pos (h i (by omega)), if_pos (h _ (nxt_lt (by omega)))]
    rw [flat_succ hs, flat_in h d (i + 1) (by omega), List.drop_eq_getElem_cons (show i < ps.length by omega)]
    simp [List.getD_eq_getElem?_getD, show i < ps.length by omega]
theorem at_in {k : Int} {ps : List Cr} (h : ∀ i, i < ps.length → 0 ≤ farC k (ps.getD i c0)) : atL k ps = ps := by
  unfold atL
  rw [flat_in h ps.length 0 (by omega)]; rfl
theorem at_far {k : Int} {ps ls : List Cr} (hk : 0 ≤ k ∧ k ≤ 6) (hl : atL k ps = ls) {i : Nat} (hi : i < ls.length) : 0 ≤ farC k (ls.getD i c0) := by
  refine flat_far (ps := ps) hk ps.length 0 _ ?_
  have e : flat k ps ps.length 0 = ls := hl
  rw [e, List.getD_eq_getElem?_getD, List.getElem?_eq_getElem hi]
  exact List.getElem_mem hi
section
variable {k : Int} {ps ls : List Cr} {e : Int}
end

end

section
open Go Go.Dt Go.Proofs Go.Proofs.Ytegmkkpdckolkaa.Clip Go.Proofs.Ytegmkkpdckolkaa.Wide
set_option linter.unusedVariables false
set_option linter.unusedSimpArgs false

theorem cut_mayR {k : Int} {a b : Cr} (hk : 0 ≤ k ∧ k ≤ 6) (h : mayR a) (h' : mayR b) (hd : 0 ≤ farC k a) (he : ¬ 0 ≤ farC k b) : mayR (cutC k a b) :=
  cut_may hk h h' ⟨hd, (farI_bounds (k := k) h.1).2, Int.not_le.mp he, (farI_bounds (k := k) h'.1).1⟩ rfl rfl
theorem step_may {k : Int} {a b : Cr} (hk : 0 ≤ k ∧ k ≤ 6) (h : mayR a) (h' : mayR b) : ∀ c, c ∈ stepAt k a b → mayR c := by
  intro c hc
  unfold stepAt at hc
  split at hc
  · rename_i h1
    split at hc
    · simp only [List.mem_singleton] at hc; subst hc; exact h
    · rename_i h2
      simp only [List.mem_cons, List.not_mem_nil, or_false] at hc
      rcases hc with rfl | rfl
      · exact h
      · exact cut_mayR hk h h' h1 h2
  · rename_i h1
    split at hc
    · rename_i h2
      simp only [List.mem_singleton] at hc; subst hc; exact cut_mayR hk h' h h2 h1
    · cases hc
theorem flat_may {k : Int} {ps : List Cr} (hk : 0 ≤ k ∧ k ≤ 6) (hp : ∀ i, i < ps.length → mayR (ps.getD i c0)) : ∀ (d i : Nat), i + d = ps.length → ∀ c, c ∈ flat k ps d i → mayR c
  | 0, i, _, c, h => by cases h
  | d + 1, i, hi, c, h => by
    rw [flat_succ rfl] at h
    rcases List.mem_append.1 h with h | h
    · exact step_may hk (hp i (by omega)) (hp _ (nxt_lt (by omega))) c h
    · exact flat_may hk hp d (i + 1) (by omega) c h
theorem at_may {k : Int} {ps ls : List Cr} (hk : 0 ≤ k ∧ k ≤ 6) (hp : ∀ i, i < ps.length → mayR (ps.getD i c0)) (hl : atL k ps = ls) {i : Nat} (hi : i < ls.length) : mayR (ls.getD i c0) := by
  refine flat_may (ps := ps) hk hp ps.length 0 (by omega) _ ?_
  have e : flat k ps ps.length 0 = ls := hl
  rw [e, List.getD_eq_getElem?_getD, List.getElem?_eq_getElem hi]
  exact List.getElem_mem hi
theorem flat_len {k : Int} {ps : List Cr} : ∀ (d i : Nat), (flat k ps d i).length ≤ 2 * d
  | 0, i => by show 0 ≤ _; omega
  | d + 1, i => by
    rw [flat_succ rfl, List.length_append]
    have h1 := flat_len (k := k) (ps := ps) d (i + 1)
    have h2 : (stepAt k (ps.getD i c0) (ps.getD ((i + 1) % ps.length) c0)).length ≤ 2 := by
      unfold stepAt
      split <;> split <;> simp
    omega
theorem at_len {k : Int} {ps ls : List Cr} (hl : atL k ps = ls) : ls.length ≤ 2 * ps.length := by
  subst hl; exact flat_len ps.length 0
/-! ### Rows of ten numbers are polygons -/
end

end Go.Proofs.Ytegmkkpdckolkaa.Pol
