/- ClipPlane: the law's walk. -/
import Derived.Test.YtfkmhhbpomkakaaPC
namespace Go.Proofs.Ytfkmhhbpomkakaa.Pol
open Go Go.Dt Go.Proofs Go.Proofs.Ytfkmhhbpomkakaa.Clip Go.Proofs.Ytfkmhhbpomkakaa.Wide
set_option linter.unusedVariables false
set_option linter.unusedSimpArgs false

theorem far_cut {k : Int} {a b : Cr} (hk : 0 ≤ k ∧ k ≤ 6) : farC k (cutC k a b) = 0 := far_zero hk _ _ _ _
theorem step_far {k : Int} {a b : Cr} (hk : 0 ≤ k ∧ k ≤ 6) : ∀ c, c ∈ stepAt k a b → 0 ≤ farC k c := by
  intro c hc
  unfold stepAt at hc
  split at hc
  · rename_i h
    split at hc
    · simp only [List.mem_singleton] at hc; subst hc; exact h
    · simp only [List.mem_cons, List.not_mem_nil, or_false] at hc
      rcases hc with rfl | rfl
      · exact h
      · rw [far_cut hk]; omega
  · split at hc
    · simp only [List.mem_singleton] at hc; subst hc; rw [far_cut hk]; omega
    · cases hc
theorem flat_far {k : Int} {ps : List Cr} (hk : 0 ≤ k ∧ k ≤ 6) : ∀ (d i : Nat) (c : Cr), c ∈ flat k ps d i → 0 ≤ farC k c
  | 0, i, c, h => by cases h
  | d + 1, i, c, h => by
    rw [flat_succ rfl] at h
    rcases List.mem_append.1 h with h | h
    · exact step_far hk c h
    · exact flat_far hk d (i + 1) c h
theorem flat_in {k : Int} {ps : List Cr} (h : ∀ i, i < ps.length → 0 ≤ farC k (ps.getD i c0)) : ∀ (d i : Nat), i + d = ps.length → flat k ps d i = ps.drop i
  | 0, i, hi => by
    rw [List.drop_eq_nil_of_le (by omega)]; rfl
  | d + 1, i, hi => by
    have hs : stepAt k (ps.getD i c0) (ps.getD ((i + 1) % ps.length) c0) = [ps.getD i c0] := by
      unfold stepAt
      rw [if_pos (h i (by omega)), if_pos (h _ (nxt_lt (by omega)))]
    rw [flat_succ hs, flat_in h d (i + 1) (by omega), List.drop_eq_getElem_cons (show i < ps.length by omega)]
    simp [List.getD_eq_getElem?_getD, show i < ps.length by omega]
theorem at_in {k : Int} {ps : List Cr} (h : ∀ i, i < ps.length → 0 ≤ farC k (ps.getD i c0)) : atL k ps = ps := by
  unfold atL
  rw [flat_in h ps.length 0 (by omega)]; rfl
theorem at_far {k : Int} {ps ls : List Cr} (hk : 0 ≤ k ∧ k ≤ 6) (hl : atL k ps = ls) {i : Nat} (hi : i < ls.length) : 0 ≤ farC k (ls.getD i c0) := by
  refine flat_far (ps := ps) hk ps.length 0 _ ?_
  have e : flat k ps ps.length 0 = ls := hl
  rw [e, List.getD_eq_getElem?_getD, List.getElem?_eq_getElem hi]
  exact List.getElem_mem hi
def allF (k : Int) (ps : List Cr) : Nat → Nat → Bool → Bool
  | 0, _, a => a
  | d + 1, i, a => allF k ps d (i + 1) (bif a then decide (farI k (ps.getD i c0).x (ps.getD i c0).y (ps.getD i c0).z (ps.getD i c0).w ≥ 0) else false)
theorem allF_true {k : Int} {ps : List Cr} : ∀ (d i : Nat) (a : Bool), allF k ps d i a = true → a = true ∧ ∀ j, i ≤ j → j < i + d → 0 ≤ farC k (ps.getD j c0)
  | 0, i, a, h => ⟨h, fun j h1 h2 => by omega⟩
  | d + 1, i, a, h => by
    unfold allF at h
    obtain ⟨h1, h2⟩ := allF_true d (i + 1) _ h
    cases a with
    | false => cases h1
    | true =>
      rw [cond_true, decide_eq_true_eq] at h1
      refine ⟨rfl, fun j h3 h4 => ?_⟩
      rcases Nat.eq_or_lt_of_le h3 with e | e
      · subst e; exact h1
      · exact h2 j e (by omega)
theorem outV_some {ls : List Cr} (h : ls ≠ []) : outV 1 ls = sl A1 ls.length := by cases ls with
  | nil => exact absurd rfl h
  | cons c l => rfl
theorem outM_some {ls : List Cr} (h : ls ≠ []) : outM ls = [.cells (crs ls) 10 true] := by cases ls with
  | nil => exact absurd rfl h
  | cons c l => rfl
theorem chk_may {ps : List Cr} (h : chkE ps = 0) : ps.length ≤ 16 ∧ ∀ i, i < ps.length → mayR (ps.getD i c0) := by
  unfold chkE at h
  split at h
  · cases h
  · rename_i h1
    split at h
    · rename_i h2
      exact ⟨by omega, fun i hi => (mF_all ps.length 0).1 h2 i (by omega) (by omega)⟩
    · cases h
section
variable {k : Int} {ps ls : List Cr} {e : Int}
theorem at53S (hk : 0 ≤ k ∧ k ≤ 6) (he : chkE ps = 0) (hl : atL k ps = ls) (hne : ls ≠ []) : ConM Try.prog 53 [num k, sl A0 ps.length] [.cells (crs ps) 0 false] (sl A1 ls.length) [.cells (crs ps) 0 false, .cells (crs ls) 10 true] := by
  have h := c_at53 hk (chk_may he).2 (by have := (chk_may he).1; omega)
  rw [hl, outV_some hne, outM_some hne] at h
  exact h
theorem at53Z (hk : 0 ≤ k ∧ k ≤ 6) (he : chkE ps = 0) (hl : atL k ps = []) : ConM Try.prog 53 [num k, sl A0 ps.length] [.cells (crs ps) 0 false] (.slice none 0 0) [.cells (crs ps) 0 false] := by
  have h := c_at53 hk (chk_may he).2 (by have := (chk_may he).1; omega)
  rw [hl] at h
  exact h
theorem at22S (hk : 0 ≤ k ∧ k ≤ 6) (he : chkE ps = 0) (hl : atL k ps = ls) (hne : ls ≠ []) : ConM Try.prog 22 [num k, sl A0 ps.length] [.cells (crs ps) 0 false] (sl A1 ls.length) [.cells (crs ps) 0 false, .cells (crs ls) 10 true] := by
  have h := c_at22 hk (chk_may he).2 (by have := (chk_may he).1; omega)
  rw [hl, outV_some hne, outM_some hne] at h
  exact h
theorem at22Z (hk : 0 ≤ k ∧ k ≤ 6) (he : chkE ps = 0) (hl : atL k ps = []) : ConM Try.prog 22 [num k, sl A0 ps.length] [.cells (crs ps) 0 false] (.slice none 0 0) [.cells (crs ps) 0 false] := by
  have h := c_at22 hk (chk_may he).2 (by have := (chk_may he).1; omega)
  rw [hl] at h
  exact h

theorem c_At19A {a : Option Addr} {n : Nat} {c : List Value} (h : k < 0 ∨ 6 < k) : ConM Try.prog 19 [num k, sl a n] [.cells c 0 false] (.tuple ⟨[.slice none 0 0, num 2]⟩) (List.replicate 1 .gone) := by
  refine ConM.reads Try.func19 (by kernel_rfl) rfl ?_
  rcases Decidable.em (k < 0) with h1 | h1
  · exact R.guardIs mixed 11 (decide (k < 0)) true (by simpa using h1) (by kernel_rfl) <| R.fin mixed Try.func19 (by kernel_rfl)
  · exact R.guardIs mixed 11 (decide (k < 0)) false (by simpa using h1) (by kernel_rfl) <| R.cond mixed 4 (bif false then true else decide (k ≥ 7)) true (by simp; omega) (by kernel_rfl) <| R.fin mixed Try.func19 (by kernel_rfl)
theorem c_At19B (hk : 0 ≤ k ∧ k ≤ 6) (he : chkE ps = e) (h0 : e ≠ 0) : ConM Try.prog 19 [num k, sl A0 ps.length] [.cells (crs ps) 0 false] (.tuple ⟨[.slice none 0 0, num e]⟩) (List.replicate 1 .gone) := by
  exact ConM.reads Try.func19 (by kernel_rfl) rfl <|
    R.guardIs mixed 11 (decide (k < 0)) false (by simp; omega) (by kernel_rfl) <|
    R.cond mixed 4 (bif false then true else decide (k ≥ 7)) false (by simp; omega) (by kernel_rfl) <|
    R.callP mixed [Ent.view 0] [] [crs ps] (show ConM Try.prog 52 [Value.slice (some ⟨0, 0, none⟩) ps.length ps.length] [Blk.cells (crs ps) 0 false] (Value.int IntKind.i64 e) [Blk.gone] from c_chk52.val (congrArg num he)) (by kernel_rfl) (by kernel_rfl) (by kernel_rfl) ⟨(by first | exact crs_plains _ | rfl), trivial⟩ trivial <|
    R.cond mixed 7 (e != 0) true (by simpa using h0) (by kernel_rfl) <|
    R.finIs mixed Try.func19 (Value.tuple ⟨[Value.slice none 0 0, Value.int IntKind.i64 e]⟩) (by kernel_rfl) (by rfl)
theorem c_At19Z (hk : 0 ≤ k ∧ k ≤ 6) (he : chkE ps = 0) (hl : atL k ps = []) : ConM Try.prog 19 [num k, sl A0 ps.length] [.cells (crs ps) 0 false] (.tuple ⟨[.slice none 0 0, num 0]⟩) [.cells (crs ps) 0 false] := by
  exact ConM.makes Try.func19 (by kernel_rfl) <|
    Q.guardIs mixed 11 (decide (k < 0)) false (by simp; omega) (by kernel_rfl) <|
    Q.cond mixed 4 (bif false then true else decide (k ≥ 7)) false (by simp; omega) (by kernel_rfl) <|
    Q.callP mixed [Ent.view 0] [] [crs ps] (show ConM Try.prog 52 [Value.slice (some ⟨0, 0, none⟩) ps.length ps.length] [Blk.cells (crs ps) 0 false] (Value.int IntKind.i64 0) [Blk.gone] from c_chk52.val (congrArg num he)) (by kernel_rfl) (by kernel_rfl) (by kernel_rfl) ⟨(by first | exact crs_plains _ | rfl), trivial⟩ trivial <|
    Q.callP mixed [Ent.view 0] [0] [crs ps] (show ConM Try.prog 53 [Value.int IntKind.i64 k, Value.slice (some ⟨0, 0, none⟩) ps.length ps.length] [Blk.cells (crs ps) 0 false] (Value.slice none 0 0) [Blk.cells (crs ps) 0 false] from at53Z hk he hl) (by kernel_rfl) (by kernel_rfl) (by kernel_rfl) ⟨(by first | exact crs_plains _ | rfl), trivial⟩ ⟨(by first | exact crs_plains _ | rfl), trivial⟩ <|
    Q.finIs mixed Try.func19 (Value.tuple ⟨[Value.slice none 0 0, Value.int IntKind.i64 0]⟩) (by kernel_rfl) (by rfl) [Blk.cells (crs ps) 0 false] (by kernel_rfl) (by rfl)
theorem c_At19S (hk : 0 ≤ k ∧ k ≤ 6) (he : chkE ps = 0) (hl : atL k ps = ls) (hne : ls ≠ []) : ConM Try.prog 19 [num k, sl A0 ps.length] [.cells (crs ps) 0 false] (.tuple ⟨[sl A1 ls.length, num 0]⟩) [.cells (crs ps) 0 false, .cells (crs ls) 10 true] := by
  exact ConM.makes Try.func19 (by kernel_rfl) <|
    Q.guardIs mixed 11 (decide (k < 0)) false (by simp; omega) (by kernel_rfl) <|
    Q.cond mixed 4 (bif false then true else decide (k ≥ 7)) false (by simp; omega) (by kernel_rfl) <|
    Q.callP mixed [Ent.view 0] [] [crs ps] (show ConM Try.prog 52 [Value.slice (some ⟨0, 0, none⟩) ps.length ps.length] [Blk.cells (crs ps) 0 false] (Value.int IntKind.i64 0) [Blk.gone] from c_chk52.val (congrArg num he)) (by kernel_rfl) (by kernel_rfl) (by kernel_rfl) ⟨(by first | exact crs_plains _ | rfl), trivial⟩ trivial <|
    Q.callP mixed [Ent.view 0] [0, 1] [crs ps] (show ConM Try.prog 53 [Value.int IntKind.i64 k, Value.slice (some ⟨0, 0, none⟩) ps.length ps.length] [Blk.cells (crs ps) 0 false] (Value.slice A1 ls.length ls.length) [Blk.cells (crs ps) 0 false, Blk.cells (crs ls) 10 true] from at53S hk he hl hne) (by kernel_rfl) (by kernel_rfl) (by kernel_rfl) ⟨(by first | exact crs_plains _ | rfl), trivial⟩ ⟨(by first | exact crs_plains _ | rfl), (by first | exact crs_plains _ | rfl), trivial⟩ <|
    Q.finIs mixed Try.func19 (Value.tuple ⟨[Value.slice (some ⟨1, 0, none⟩) ls.length ls.length, Value.int IntKind.i64 0]⟩) (by kernel_rfl) (by rfl) [Blk.cells (crs ps) 0 false, Blk.cells (crs ls) 10 true] (by kernel_rfl) (by rfl)
theorem c_At19nil (hk : 0 ≤ k ∧ k ≤ 6) : ConM Try.prog 19 [num k, sl none 0] [.cells [] 0 false] (.tuple ⟨[.slice none 0 0, num 0]⟩) (List.replicate 1 .gone) := by
  exact ConM.reads Try.func19 (by kernel_rfl) rfl <| R.guardIs mixed 11 (decide (k < 0)) false (by simp; omega) (by kernel_rfl) <| R.cond mixed 4 (bif false then true else decide (k ≥ 7)) false (by simp; omega) (by kernel_rfl) <|
    R.callP mixed [.view 0] [] [[]] c_chk52N (by kernel_rfl) (by kernel_rfl) (by kernel_rfl) ⟨rfl, trivial⟩ trivial <| R.callP mixed [.view 0] [] [[]] (c_at53N (k := k)) (by kernel_rfl) (by kernel_rfl) (by kernel_rfl) ⟨rfl, trivial⟩ trivial <| R.fin mixed Try.func19 (by kernel_rfl)
end

end Go.Proofs.Ytfkmhhbpomkakaa.Pol
