/- Several texts in one: PD, PE. -/
import Derived.Test.YtfkmhhbpomkakaaQA24
import Derived.Test.YtfkmhhbpomkakaaQA13
namespace Go.Proofs.Ytfkmhhbpomkakaa.Pol

section
open Go Go.Dt Go.Proofs Go.Proofs.Ytfkmhhbpomkakaa.Clip Go.Proofs.Ytfkmhhbpomkakaa.Wide
set_option linter.unusedVariables false
set_option linter.unusedSimpArgs false

theorem far_cut {k : Int} {a b : Cr} (hk : 0 ≤ k ∧ k ≤ 6) : farC k (cutC k a b) = 0 := far_zero hk _ _ _ _
theorem step_far {k : Int} {a b : Cr} (hk : 0 ≤ k ∧ k ≤ 6) : ∀ c, c ∈ stepAt k a b → 0 ≤ farC k c := by
  intro c hc
  unfold stepAt at hc
  split at hc
  · rename_i h
    split at hc
    · simp only [List.mem_singleton] at hc; subst hc; exact h
    · simp only [List.mem_cons, List.not_mem_nil, or_false] at hc
      rcases hc with rfl | rfl
      · exact h
      · rw [far_cut hk]; omega
  · split at hc
    · simp only [List.mem_singleton] at hc; subst hc; rw [far_cut hk]; omega
    · cases hc
theorem flat_far {k : Int} {ps : List Cr} (hk : 0 ≤ k ∧ k ≤ 6) : ∀ (d i : Nat) (c : Cr), c ∈ flat k ps d i → 0 ≤ farC k c
  | 0, i, c, h => by cases h
  | d + 1, i, c, h => by
    rw [flat_succ rfl] at h
    rcases List.mem_append.1 h with h | h
    · exact step_far hk c h
    · exact flat_far hk d (i + 1) c h
theorem flat_in {k : Int} {ps : List Cr} (h : ∀ i, i < ps.length → 0 ≤ farC k (ps.getD i c0)) : ∀ (d i : Nat), i + d = ps.length → flat k ps d i = ps.drop i
  | 0, i, hi => by
    rw [List.drop_eq_nil_of_le (by omega)]; rfl
  | d + 1, i, hi => by
    have hs : stepAt k (ps.getD i c0) (ps.getD ((i + 1) % ps.length) c0) = [ps.getD i c0] := by
      unfold stepAt
      rw [if_pos (h i (by omega)), if_pos (h _ (nxt_lt (by omega)))]
    rw [flat_succ hs, flat_in h d (i + 1) (by omega), List.drop_eq_getElem_cons (show i < ps.length by omega)]
    simp [List.getD_eq_getElem?_getD, show i < ps.length by omega]
theorem at_in {k : Int} {ps : List Cr} (h : ∀ i, i < ps.length → 0 ≤ farC k (ps.getD i c0)) : atL k ps = ps := by
  unfold atL
  rw [flat_in h ps.length 0 (by omega)]; rfl
theorem at_far {k : Int} {ps ls : List Cr} (hk : 0 ≤ k ∧ k ≤ 6) (hl : atL k ps = ls) {i : Nat} (hi : i < ls.length) : 0 ≤ farC k (ls.getD i c0) := by
  refine flat_far (ps := ps) hk ps.length 0 _ ?_
  have e : flat k ps ps.length 0 = ls := hl
  rw [e, List.getD_eq_getElem?_getD, List.getElem?_eq_getElem hi]
  exact List.getElem_mem hi
def allF (k : Int) (ps : List Cr) : Nat → Nat → Bool → Bool
  | 0, _, a => a
  | d + 1, i, a => allF k ps d (i + 1) (bif a then decide (farI k (ps.getD i c0).x (ps.getD i c0).y (ps.getD i c0).z (ps.getD i c0).w ≥ 0) else false)
theorem allF_true {k : Int} {ps : List Cr} : ∀ (d i : Nat) (a : Bool), allF k ps d i a = true → a = true ∧ ∀ j, i ≤ j → j < i + d → 0 ≤ farC k (ps.getD j c0)
  | 0, i, a, h => ⟨h, fun j h1 h2 => by omega⟩
  | d + 1, i, a, h => by
    unfold allF at h
    obtain ⟨h1, h2⟩ := allF_true d (i + 1) _ h
    cases a with
    | false => cases h1
    | true =>
      rw [cond_true, decide_eq_true_eq] at h1
      refine ⟨rfl, fun j h3 h4 => ?_⟩
      rcases Nat.eq_or_lt_of_le h3 with e | e
      · subst e; exact h1
      · exact h2 j e (by omega)
theorem outV_some {ls : List Cr} (h : ls ≠ []) : outV 1 ls = sl A1 ls.length := by cases ls with
  | nil => exact absurd rfl h
  | cons c l => rfl
theorem outM_some {ls : List Cr} (h : ls ≠ []) : outM ls = [.cells (crs ls) 10 true] := by cases ls with
  | nil => exact absurd rfl h
  | cons c l => rfl
theorem chk_may {ps : List Cr} (h : chkE ps = 0) : ps.length ≤ 16 ∧ ∀ i, i < ps.length → mayR (ps.getD i c0) := by
  unfold chkE at h
  split at h
  · cases h
  · rename_i h1
    split at h
    · rename_i h2
      exact ⟨by omega, fun i hi => (mF_all ps.length 0).1 h2 i (by omega) (by omega)⟩
    · cases h
section
variable {k : Int} {ps ls : List Cr} {e : Int}
theorem at53S (hk : 0 ≤ k ∧ k ≤ 6) (he : chkE ps = 0) (hl : atL k ps = ls) (hne : ls ≠ []) : ConM Try.prog 53 [num k, sl A0 ps.length] [.cells (crs ps) 0 false] (sl A1 ls.length) [.cells (crs ps) 0 false, .cells (crs ls) 10 true] := by
  have h := c_at53 hk (chk_may he).2 (by have := (chk_may he).1; omega)
  rw [hl, outV_some hne, outM_some hne] at h
  exact h
theorem at53Z (hk : 0 ≤ k ∧ k ≤ 6) (he : chkE ps = 0) (hl : atL k ps = []) : ConM Try.prog 53 [num k, sl A0 ps.length] [.cells (crs ps) 0 false] (.slice none 0 0) [.cells (crs ps) 0 false] := by
  have h := c_at53 hk (chk_may he).2 (by have := (chk_may he).1; omega)
  rw [hl] at h
  exact h
theorem at22S (hk : 0 ≤ k ∧ k ≤ 6) (he : chkE ps = 0) (hl : atL k ps = ls) (hne : ls ≠ []) : ConM Try.prog 22 [num k, sl A0 ps.length] [.cells (crs ps) 0 false] (sl A1 ls.length) [.cells (crs ps) 0 false, .cells (crs ls) 10 true] := by
  have h := c_at22 hk (chk_may he).2 (by have := (chk_may he).1; omega)
  rw [hl, outV_some hne, outM_some hne] at h
  exact h
theorem at22Z (hk : 0 ≤ k ∧ k ≤ 6) (he : chkE ps = 0) (hl : atL k ps = []) : ConM Try.prog 22 [num k, sl A0 ps.length] [.cells (crs ps) 0 false] (.slice none 0 0) [.cells (crs ps) 0 false] := by
  have h := c_at22 hk (chk_may he).2 (by have := (chk_may he).1; omega)
  rw [hl] at h
  exact h

theorem c_At19A {a : Option Addr} {n : Nat} {c : List Value} (h : k < 0 ∨ 6 < k) : ConM Try.prog 19 [num k, sl a n] [.cells c 0 false] (.tuple ⟨[.slice none 0 0, num 2]⟩) (List.replicate 1 .gone) := by
  refine ConM.reads Try.func19 (by kernel_rfl) rfl ?_
  rcases Decidable.em (k < 0) with h1 | h1
  · exact R.guardIs mixed 11 (decide (k < 0)) true (by simpa using h1) (by kernel_rfl) <| R.fin mixed Try.func19 (by kernel_rfl)
  · exact R.guardIs mixed 11 (decide (k < 0)) false (by simpa using h1) (by kernel_rfl) <| R.cond mixed 4 (bif false then true else decide (k ≥ 7)) true (by simp; omega) (by kernel_rfl) <| R.fin mixed Try.func19 (by kernel_rfl)
theorem c_At19B (hk : 0 ≤ k ∧ k ≤ 6) (he : chkE ps = e) (h0 : e ≠ 0) : ConM Try.prog 19 [num k, sl A0 ps.length] [.cells (crs ps) 0 false] (.tuple ⟨[.slice none 0 0, num e]⟩) (List.replicate 1 .gone) := by
  exact ConM.reads Try.func19 (by kernel_rfl) rfl <|
    R.guardIs mixed 11 (decide (k < 0)) false (by simp; omega) (by kernel_rfl) <|
    R.cond mixed 4 (bif false then true else decide (k ≥ 7)) false (by simp; omega) (by kernel_rfl) <|
    R.callP mixed [Ent.view 0] [] [crs ps] (show ConM Try.prog 52 [Value.slice (some ⟨0, 0, none⟩) ps.length ps.length] [Blk.cells (crs ps) 0 false] (Value.int IntKind.i64 e) [Blk.gone] from c_chk52.val (congrArg num he)) (by kernel_rfl) (by kernel_rfl) (by kernel_rfl) ⟨(by first | exact crs_plains _ | rfl), trivial⟩ trivial <|
    R.cond mixed 7 (e != 0) true (by simpa using h0) (by kernel_rfl) <|
    R.finIs mixed Try.func19 (Value.tuple ⟨[Value.slice none 0 0, Value.int IntKind.i64 e]⟩) (by kernel_rfl) (by rfl)
theorem c_At19Z (hk : 0 ≤ k ∧ k ≤ 6) (he : chkE ps = 0) (hl : atL k ps = []) : ConM Try.prog 19 [num k, sl A0 ps.length] [.cells (crs ps) 0 false] (.tuple ⟨[.slice none 0 0, num 0]⟩) [.cells (crs ps) 0 false] := by
  exact ConM.makes Try.func19 (by kernel_rfl) <|
    Q.guardIs mixed 11 (decide (k < 0)) false (by simp; omega) (by kernel_rfl) <|
    Q.cond mixed 4 (bif false then true else decide (k ≥ 7)) false (by simp; omega) (by kernel_rfl) <|
    Q.callP mixed [Ent.view 0] [] [crs ps] (show ConM Try.prog 52 [Value.slice (some ⟨0, 0, none⟩) ps.length ps.length] [Blk.cells (crs ps) 0 false] (Value.int IntKind.i64 0) [Blk.gone] from c_chk52.val (congrArg num he)) (by kernel_rfl) (by kernel_rfl) (by kernel_rfl) ⟨(by first | exact crs_plains _ | rfl), trivial⟩ trivial <|
    Q.callP mixed [Ent.view 0] [0] [crs ps] (show ConM Try.prog 53 [Value.int IntKind.i64 k, Value.slice (some ⟨0, 0, none⟩) ps.length ps.length] [Blk.cells (crs ps) 0 false] (Value.slice none 0 0) [Blk.cells (crs ps) 0 false] from at53Z hk he hl) (by kernel_rfl) (by kernel_rfl) (by kernel_rfl) ⟨(by first | exact crs_plains _ | rfl), trivial⟩ ⟨(by first | exact crs_plains _ | rfl), trivial⟩ <|
    Q.finIs mixed Try.func19 (Value.tuple ⟨[Value.slice none 0 0, Value.int IntKind.i64 0]⟩) (by kernel_rfl) (by rfl) [Blk.cells (crs ps) 0 false] (by kernel_rfl) (by rfl)
theorem c_At19S (hk : 0 ≤ k ∧ k ≤ 6) (he : chkE ps = 0) (hl : atL k ps = ls) (hne : ls ≠ []) : ConM Try.prog 19 [num k, sl A0 ps.length] [.cells (crs ps) 0 false] (.tuple ⟨[sl A1 ls.length, num 0]⟩) [.cells (crs ps) 0 false, .cells (crs ls) 10 true] := by
  exact ConM.makes Try.func19 (by kernel_rfl) <|
    Q.guardIs mixed 11 (decide (k < 0)) false (by simp; omega) (by kernel_rfl) <|
    Q.cond mixed 4 (bif false then true else decide (k ≥ 7)) false (by simp; omega) (by kernel_rfl) <|
    Q.callP mixed [Ent.view 0] [] [crs ps] (show ConM Try.prog 52 [Value.slice (some ⟨0, 0, none⟩) ps.length ps.length] [Blk.cells (crs ps) 0 false] (Value.int IntKind.i64 0) [Blk.gone] from c_chk52.val (congrArg num he)) (by kernel_rfl) (by kernel_rfl) (by kernel_rfl) ⟨(by first | exact crs_plains _ | rfl), trivial⟩ trivial <|
    Q.callP mixed [Ent.view 0] [0, 1] [crs ps] (show ConM Try.prog 53 [Value.int IntKind.i64 k, Value.slice (some ⟨0, 0, none⟩) ps.length ps.length] [Blk.cells (crs ps) 0 false] (Value.slice A1 ls.length ls.length) [Blk.cells (crs ps) 0 false, Blk.cells (crs ls) 10 true] from at53S hk he hl hne) (by kernel_rfl) (by kernel_rfl) (by kernel_rfl) ⟨(by first | exact crs_plains _ | rfl), trivial⟩ ⟨(by first | exact crs_plains _ | rfl), (by first | exact crs_plains _ | rfl), trivial⟩ <|
    Q.finIs mixed Try.func19 (Value.tuple ⟨[Value.slice (some ⟨1, 0, none⟩) ls.length ls.length, Value.int IntKind.i64 0]⟩) (by kernel_rfl) (by rfl) [Blk.cells (crs ps) 0 false, Blk.cells (crs ls) 10 true] (by kernel_rfl) (by rfl)
theorem c_At19nil (hk : 0 ≤ k ∧ k ≤ 6) : ConM Try.prog 19 [num k, sl none 0] [.cells [] 0 false] (.tuple ⟨[.slice none 0 0, num 0]⟩) (List.replicate 1 .gone) := by
  exact ConM.reads Try.func19 (by kernel_rfl) rfl <| R.guardIs mixed 11 (decide (k < 0)) false (by simp; omega) (by kernel_rfl) <| R.cond mixed 4 (bif false then true else decide (k ≥ 7)) false (by simp; omega) (by kernel_rfl) <|
    R.callP mixed [.view 0] [] [[]] c_chk52N (by kernel_rfl) (by kernel_rfl) (by kernel_rfl) ⟨rfl, trivial⟩ trivial <| R.callP mixed [.view 0] [] [[]] (c_at53N (k := k)) (by kernel_rfl) (by kernel_rfl) (by kernel_rfl) ⟨rfl, trivial⟩ trivial <| R.fin mixed Try.func19 (by kernel_rfl)
end

end

section
open Go Go.Dt Go.Proofs Go.Proofs.Ytfkmhhbpomkakaa.Clip Go.Proofs.Ytfkmhhbpomkakaa.Wide
set_option linter.unusedVariables false
set_option linter.unusedSimpArgs false

theorem cut_mayR {k : Int} {a b : Cr} (hk : 0 ≤ k ∧ k ≤ 6) (h : mayR a) (h' : mayR b) (hd : 0 ≤ farC k a) (he : ¬ 0 ≤ farC k b) : mayR (cutC k a b) :=
  cut_may hk h h' ⟨hd, (farI_bounds (k := k) h.1).2, Int.not_le.mp he, (farI_bounds (k := k) h'.1).1⟩ rfl rfl
theorem step_may {k : Int} {a b : Cr} (hk : 0 ≤ k ∧ k ≤ 6) (h : mayR a) (h' : mayR b) : ∀ c, c ∈ stepAt k a b → mayR c := by
  intro c hc
  unfold stepAt at hc
  split at hc
  · rename_i h1
    split at hc
    · simp only [List.mem_singleton] at hc; subst hc; exact h
    · rename_i h2
      simp only [List.mem_cons, List.not_mem_nil, or_false] at hc
      rcases hc with rfl | rfl
      · exact h
      · exact cut_mayR hk h h' h1 h2
  · rename_i h1
    split at hc
    · rename_i h2
      simp only [List.mem_singleton] at hc; subst hc; exact cut_mayR hk h' h h2 h1
    · cases hc
theorem flat_may {k : Int} {ps : List Cr} (hk : 0 ≤ k ∧ k ≤ 6) (hp : ∀ i, i < ps.length → mayR (ps.getD i c0)) : ∀ (d i : Nat), i + d = ps.length → ∀ c, c ∈ flat k ps d i → mayR c
  | 0, i, _, c, h => by cases h
  | d + 1, i, hi, c, h => by
    rw [flat_succ rfl] at h
    rcases List.mem_append.1 h with h | h
    · exact step_may hk (hp i (by omega)) (hp _ (nxt_lt (by omega))) c h
    · exact flat_may hk hp d (i + 1) (by omega) c h
theorem at_may {k : Int} {ps ls : List Cr} (hk : 0 ≤ k ∧ k ≤ 6) (hp : ∀ i, i < ps.length → mayR (ps.getD i c0)) (hl : atL k ps = ls) {i : Nat} (hi : i < ls.length) : mayR (ls.getD i c0) := by
  refine flat_may (ps := ps) hk hp ps.length 0 (by omega) _ ?_
  have e : flat k ps ps.length 0 = ls := hl
  rw [e, List.getD_eq_getElem?_getD, List.getElem?_eq_getElem hi]
  exact List.getElem_mem hi
theorem flat_len {k : Int} {ps : List Cr} : ∀ (d i : Nat), (flat k ps d i).length ≤ 2 * d
  | 0, i => by show 0 ≤ _; omega
  | d + 1, i => by
    rw [flat_succ rfl, List.length_append]
    have h1 := flat_len (k := k) (ps := ps) d (i + 1)
    have h2 : (stepAt k (ps.getD i c0) (ps.getD ((i + 1) % ps.length) c0)).length ≤ 2 := by
      unfold stepAt
      split <;> split <;> simp
    omega
theorem at_len {k : Int} {ps ls : List Cr} (hl : atL k ps = ls) : ls.length ≤ 2 * ps.length := by
  subst hl; exact flat_len ps.length 0
def H4aS (P : Program) (fn : Func) (k : Int) (ps ls : List Cr) (all : Bool) (i : Int) : VS := puts [(8, .bool all), (9, num i)] (keepS [0, 1, 5, 8, 9] (vadv P 18 (afterM [Ent.view 1, Ent.view 2] [] (go P (afterM [Ent.view 0] [0, 1] (go P (afterM [Ent.view 0] [] (go P (goC (vadv P 4 (setG (vadv P 12 (afterM [Ent.view 0] [0, 1] (go P (entry fn [num k, sl A0 ps.length] [.cells (crs ps) 0 false])) (Value.tuple ⟨[sl A1 ls.length, Value.int IntKind.i64 0]⟩) [Blk.cells (crs ps) 0 false, Blk.cells (crs ls) 10 true])) false)) false)) (Value.int IntKind.i64 0) [Blk.gone])) (Value.slice A1 ls.length ls.length) [Blk.cells (crs ps) 0 false, Blk.cells (crs ls) 10 true])) (Value.bool true) [Blk.gone, Blk.gone])))
def H4aN (P : Program) (fn : Func) (k : Int) (ps ls : List Cr) (all : Bool) (i : Int) : VS := puts [(8, .bool all), (9, num i)] (keepS [0, 1, 5, 8, 9] (vadv P 18 (afterCall (go P (afterM [Ent.view 0] [0] (go P (afterM [Ent.view 0] [] (go P (goC (vadv P 4 (setG (vadv P 12 (afterM [Ent.view 0] [0] (go P (entry fn [num k, sl A0 ps.length] [.cells (crs ps) 0 false])) (Value.tuple ⟨[Value.slice none 0 0, Value.int IntKind.i64 0]⟩) [Blk.cells (crs ps) 0 false])) false)) false)) (Value.int IntKind.i64 0) [Blk.gone])) (Value.slice none 0 0) [Blk.cells (crs ps) 0 false])) (Value.bool true))))
def H4b (P : Program) (fn : Func) (k : Int) (ps ls : List Cr) (all : Bool) (i : Int) : VS := puts [(10, num i)] (keepS [0, 1, 5, 8, 10] (vadv P 10 (goC (vadv P 6 (H4aS P fn k ps ls all 0)) false)))

theorem crs_get4 {l : List Cr} {i : Nat} (h : i < l.length) : ((crs l).drop (i * 10)).take 4 = [.int .i64 (l.getD i c0).x, .int .i64 (l.getD i c0).y, .int .i64 (l.getD i c0).z, .int .i64 (l.getD i c0).w] := by
  have e := crs_get l i h
  have t : ((crs l).drop (i * 10)).take 4 = (((crs l).drop (i * 10)).take 10).take 4 := by rw [List.take_take]; rfl
  rw [t, e]; rfl

theorem l4aS_loop {k : Int} {ps ls : List Cr} {v : Value} (hk : 0 ≤ k ∧ k ≤ 6) (hp : ∀ i, i < ps.length → mayR (ps.getD i c0)) (hn : ps.length ≤ 100000) : ∀ (d i : Nat) (all : Bool), i + d = ps.length → RunsE Try.prog 4 1 (H4aS Try.prog Try.f4 k ps ls (allF k ps d i all) ps.length) v → RunsE Try.prog 4 1 (H4aS Try.prog Try.f4 k ps ls all i) v := by
  intro d
  induction d with
  | zero =>
    intro i all hi h
    have e : i = ps.length := by omega
    subst e
    exact h
  | succ d ih =>
    intro i all hi h
    exact R.cond mixed 6 (decide ((↑i : Int) < (↑ps.length : Int))) true (by simp; omega) (by kernel_rfl) <|
      R.guard mixed 6 (all) (by kernel_rfl)
       (fun h1 =>
         R.idx mixed 3 0 (0) (ps.length) 10 IntKind.i64 ((↑i : Int)) (i * 10) (by kernel_rfl) (by omega) (by omega) (by first | omega | simp) <|
         R.loadN mixed 1 4 0 (i * 10) (crs ps) [Value.int IntKind.i64 (ps.getD i c0).x, Value.int IntKind.i64 (ps.getD i c0).y, Value.int IntKind.i64 (ps.getD i c0).z, Value.int IntKind.i64 (ps.getD i c0).w] (by kernel_rfl) (by rw [crs_length]; omega) (by exact crs_get4 (by omega)) <|
         R.call mixed (show Con Try.prog 17 [Value.int IntKind.i64 k, Value.agg ⟨[Value.int IntKind.i64 (ps.getD i c0).x, Value.int IntKind.i64 (ps.getD i c0).y, Value.int IntKind.i64 (ps.getD i c0).z, Value.int IntKind.i64 (ps.getD i c0).w]⟩] (Value.int IntKind.i64 (farI k (ps.getD i c0).x (ps.getD i c0).y (ps.getD i c0).z (ps.getD i c0).w)) from c_rfar hk (hp i (by omega)).1) (by kernel_rfl) <|
         R.at mixed 13 [0, 1, 5, 8, 9] (st := H4aS Try.prog Try.f4 k ps ls (bif true then decide (farI k (ps.getD i c0).x (ps.getD i c0).y (ps.getD i c0).z (ps.getD i c0).w ≥ 0) else false) (IntKind.i64.wrap ((i : Int) + 1))) (by kernel_rfl) (by
           have e : allF k ps (d + 1) i all = allF k ps d (i + 1) (bif true then decide (farI k (ps.getD i c0).x (ps.getD i c0).y (ps.getD i c0).z (ps.getD i c0).w ≥ 0) else false) := by rw [show all = true from h1]; rfl
           rw [e] at h; rw [wrap_succ (by omega)]; exact ih (i + 1) _ (by omega) h)
       )
       (fun h1 =>
         R.at mixed 20 [0, 1, 5, 8, 9] (st := H4aS Try.prog Try.f4 k ps ls false (IntKind.i64.wrap ((i : Int) + 1))) (by kernel_rfl) (by
           have e : allF k ps (d + 1) i all = allF k ps d (i + 1) false := by rw [show all = false from h1]; rfl
           rw [e] at h; rw [wrap_succ (by omega)]; exact ih (i + 1) _ (by omega) h)
       )

theorem l4aN_loop {k : Int} {ps ls : List Cr} {v : Value} (hk : 0 ≤ k ∧ k ≤ 6) (hp : ∀ i, i < ps.length → mayR (ps.getD i c0)) (hn : ps.length ≤ 100000) : ∀ (d i : Nat) (all : Bool), i + d = ps.length → RunsE Try.prog 4 1 (H4aN Try.prog Try.f4 k ps ls (allF k ps d i all) ps.length) v → RunsE Try.prog 4 1 (H4aN Try.prog Try.f4 k ps ls all i) v := by
  intro d
  induction d with
  | zero =>
    intro i all hi h
    have e : i = ps.length := by omega
    subst e
    exact h
  | succ d ih =>
    intro i all hi h
    exact R.cond mixed 6 (decide ((↑i : Int) < (↑ps.length : Int))) true (by simp; omega) (by kernel_rfl) <|
      R.guard mixed 6 (all) (by kernel_rfl)
       (fun h1 =>
         R.idx mixed 3 0 (0) (ps.length) 10 IntKind.i64 ((↑i : Int)) (i * 10) (by kernel_rfl) (by omega) (by omega) (by first | omega | simp) <|
         R.loadN mixed 1 4 0 (i * 10) (crs ps) [Value.int IntKind.i64 (ps.getD i c0).x, Value.int IntKind.i64 (ps.getD i c0).y, Value.int IntKind.i64 (ps.getD i c0).z, Value.int IntKind.i64 (ps.getD i c0).w] (by kernel_rfl) (by rw [crs_length]; omega) (by exact crs_get4 (by omega)) <|
         R.call mixed (show Con Try.prog 17 [Value.int IntKind.i64 k, Value.agg ⟨[Value.int IntKind.i64 (ps.getD i c0).x, Value.int IntKind.i64 (ps.getD i c0).y, Value.int IntKind.i64 (ps.getD i c0).z, Value.int IntKind.i64 (ps.getD i c0).w]⟩] (Value.int IntKind.i64 (farI k (ps.getD i c0).x (ps.getD i c0).y (ps.getD i c0).z (ps.getD i c0).w)) from c_rfar hk (hp i (by omega)).1) (by kernel_rfl) <|
         R.at mixed 13 [0, 1, 5, 8, 9] (st := H4aN Try.prog Try.f4 k ps ls (bif true then decide (farI k (ps.getD i c0).x (ps.getD i c0).y (ps.getD i c0).z (ps.getD i c0).w ≥ 0) else false) (IntKind.i64.wrap ((i : Int) + 1))) (by kernel_rfl) (by
           have e : allF k ps (d + 1) i all = allF k ps d (i + 1) (bif true then decide (farI k (ps.getD i c0).x (ps.getD i c0).y (ps.getD i c0).z (ps.getD i c0).w ≥ 0) else false) := by rw [show all = true from h1]; rfl
           rw [e] at h; rw [wrap_succ (by omega)]; exact ih (i + 1) _ (by omega) h)
       )
       (fun h1 =>
         R.at mixed 20 [0, 1, 5, 8, 9] (st := H4aN Try.prog Try.f4 k ps ls false (IntKind.i64.wrap ((i : Int) + 1))) (by kernel_rfl) (by
           have e : allF k ps (d + 1) i all = allF k ps d (i + 1) false := by rw [show all = false from h1]; rfl
           rw [e] at h; rw [wrap_succ (by omega)]; exact ih (i + 1) _ (by omega) h)
       )

theorem l4b_loop {k : Int} {ps ls : List Cr} {all : Bool} (hk : 0 ≤ k ∧ k ≤ 6) (hm : ∀ i, i < ls.length → mayR (ls.getD i c0)) (hf : ∀ i, i < ls.length → 0 ≤ farC k (ls.getD i c0)) (hl1 : ls.length ≤ 100000) (hall : all = true → ls = ps) : ∀ (d i : Nat), i + d = ls.length → RunsE Try.prog 4 1 (H4b Try.prog Try.f4 k ps ls all i) (.bool true) := by
  intro d
  induction d with
  | zero =>
    intro i hi
    exact R.cond mixed 6 (decide ((↑i : Int) < (↑ls.length : Int))) false (by simp; omega) (by kernel_rfl) <|
      R.guard mixed 6 (!all) (by kernel_rfl)
       (fun h1 =>
         R.call mixed (show Con Try.prog 15 [] (Value.bool true) from c_awake15) (by kernel_rfl) <|
         R.finIs mixed Try.func4 (Value.bool true) (by kernel_rfl) (by first | rfl | (exfalso; simp_all; done) | (exfalso; simp_all; omega))
       )
       (fun h1 =>
         R.callP mixed [Ent.view 1, Ent.view 0] [] [crs ls, crs ps] (show ConM Try.prog 21 [Value.slice (some ⟨0, 0, none⟩) ls.length ls.length, Value.slice (some ⟨1, 0, none⟩) ps.length ps.length] [Blk.cells (crs ls) 0 false, Blk.cells (crs ps) 0 false] (Value.bool true) [Blk.gone, Blk.gone] from (by have e : ls = ps := hall (by simp_all); subst e; exact c_same hl1)) (by kernel_rfl) (by kernel_rfl) (by kernel_rfl) ⟨(by first | exact crs_plains _ | rfl), (by first | exact crs_plains _ | rfl), trivial⟩ trivial <|
         R.call mixed (show Con Try.prog 15 [] (Value.bool true) from c_awake15) (by kernel_rfl) <|
         R.finIs mixed Try.func4 (Value.bool true) (by kernel_rfl) (by first | rfl | (exfalso; simp_all; done) | (exfalso; simp_all; omega))
       )
  | succ d ih =>
    intro i hi
    have hfi := hf i (by omega)
    exact R.cond mixed 6 (decide ((↑i : Int) < (↑ls.length : Int))) true (by simp; omega) (by kernel_rfl) <|
      R.idx mixed 8 1 (0) (ls.length) 10 IntKind.i64 ((↑i : Int)) (i * 10) (by kernel_rfl) (by omega) (by omega) (by first | omega | simp) <|
      R.loadN mixed 1 4 1 (i * 10) (crs ls) [Value.int IntKind.i64 (ls.getD i c0).x, Value.int IntKind.i64 (ls.getD i c0).y, Value.int IntKind.i64 (ls.getD i c0).z, Value.int IntKind.i64 (ls.getD i c0).w] (by kernel_rfl) (by rw [crs_length]; omega) (by exact crs_get4 (by omega)) <|
      R.call mixed (show Con Try.prog 17 [Value.int IntKind.i64 k, Value.agg ⟨[Value.int IntKind.i64 (ls.getD i c0).x, Value.int IntKind.i64 (ls.getD i c0).y, Value.int IntKind.i64 (ls.getD i c0).z, Value.int IntKind.i64 (ls.getD i c0).w]⟩] (Value.int IntKind.i64 (farI k (ls.getD i c0).x (ls.getD i c0).y (ls.getD i c0).z (ls.getD i c0).w)) from c_rfar hk (hm i (by omega)).1) (by kernel_rfl) <|
      R.cond mixed 2 (decide (farI k (ls.getD i c0).x (ls.getD i c0).y (ls.getD i c0).z (ls.getD i c0).w < 0)) false (by exact decide_eq_false (Int.not_lt.mpr hfi)) (by kernel_rfl) <|
      R.at mixed 10 [0, 1, 5, 8, 10] (st := H4b Try.prog Try.f4 k ps ls all (IntKind.i64.wrap ((i : Int) + 1))) (by kernel_rfl) (by rw [wrap_succ (by omega)]; exact ih (i + 1) (by omega))

theorem planeB {k e : Int} {ps : List Cr} (hk : 0 ≤ k ∧ k ≤ 6) (he : chkE ps = e) (h0 : e ≠ 0) : RunsE Try.prog 4 1 (entry Try.f4 [num k, sl A0 ps.length] [.cells (crs ps) 0 false]) (.bool true) := by
  exact
    R.callP mixed [Ent.view 0] [] [crs ps] (show ConM Try.prog 19 [Value.int IntKind.i64 k, Value.slice (some ⟨0, 0, none⟩) ps.length ps.length] [Blk.cells (crs ps) 0 false] (Value.tuple ⟨[Value.slice none 0 0, Value.int IntKind.i64 e]⟩) [Blk.gone] from c_At19B hk he h0) (by kernel_rfl) (by kernel_rfl) (by kernel_rfl) ⟨(by first | exact crs_plains _ | rfl), trivial⟩ trivial <|
    R.guardIs mixed 12 (decide (k < 0)) false (by simp; omega) (by kernel_rfl) <|
    R.cond mixed 4 (bif false then true else decide (k > 6)) false (by simp; omega) (by kernel_rfl) <|
    R.callP mixed [Ent.view 0] [] [crs ps] (show ConM Try.prog 20 [Value.slice (some ⟨0, 0, none⟩) ps.length ps.length] [Blk.cells (crs ps) 0 false] (Value.int IntKind.i64 e) [Blk.gone] from c_chk20.val (congrArg num he)) (by kernel_rfl) (by kernel_rfl) (by kernel_rfl) ⟨(by first | exact crs_plains _ | rfl), trivial⟩ trivial <|
    R.cond mixed 7 (e != 0) true (by simpa using h0) (by kernel_rfl) <|
    R.guardIs mixed 11 (bif 0 == 0 then e == e else false) true (by simp) (by kernel_rfl) <|
    R.call mixed (show Con Try.prog 15 [] (Value.bool true) from c_awake15) (by kernel_rfl) <|
    R.finIs mixed Try.func4 (Value.bool true) (by kernel_rfl) (by first | rfl | (exfalso; simp_all; done) | (exfalso; simp_all; omega))
theorem planeZend {k : Int} {ps : List Cr} (hk : 0 ≤ k ∧ k ≤ 6) (hl : atL k ps = []) : RunsE Try.prog 4 1 (goC (vadv Try.prog 6 (H4aN Try.prog Try.f4 k ps [] (allF k ps ps.length 0 true) ps.length)) false) (.bool true) := by
  have hz : allF k ps ps.length 0 true = true → ps = [] := fun h => (at_in fun i hi => (allF_true ps.length 0 true h).2 i (by omega) (by omega)).symm.trans hl
  generalize allF k ps ps.length 0 true = all at hz
  exact
    R.guard mixed 23 (!all) (by kernel_rfl)
     (fun h1 =>
       R.call mixed (show Con Try.prog 15 [] (Value.bool true) from c_awake15) (by kernel_rfl) <|
       R.finIs mixed Try.func4 (Value.bool true) (by kernel_rfl) (by first | rfl | (exfalso; simp_all; done) | (exfalso; simp_all; omega))
     )
     (fun h1 =>
       R.callP mixed [Ent.view 0] [] [crs ps] (show ConM Try.prog 21 [Value.slice none 0 0, Value.slice (some ⟨0, 0, none⟩) ps.length ps.length] [Blk.cells (crs ps) 0 false] (Value.bool true) [Blk.gone] from (by have e : ps = [] := hz (by simp_all); subst e; exact c_same01)) (by kernel_rfl) (by kernel_rfl) (by kernel_rfl) ⟨(by first | exact crs_plains _ | rfl), trivial⟩ trivial <|
       R.call mixed (show Con Try.prog 15 [] (Value.bool true) from c_awake15) (by kernel_rfl) <|
       R.finIs mixed Try.func4 (Value.bool true) (by kernel_rfl) (by first | rfl | (exfalso; simp_all; done) | (exfalso; simp_all; omega))
     )

theorem planeZ {k : Int} {ps : List Cr} (hk : 0 ≤ k ∧ k ≤ 6) (he : chkE ps = 0) (hl : atL k ps = []) : RunsE Try.prog 4 1 (entry Try.f4 [num k, sl A0 ps.length] [.cells (crs ps) 0 false]) (.bool true) := by
  have hp := (chk_may he).2
  have hn : ps.length ≤ 100000 := by have := (chk_may he).1; omega
  exact
    R.callP mixed [Ent.view 0] [0] [crs ps] (show ConM Try.prog 19 [Value.int IntKind.i64 k, Value.slice (some ⟨0, 0, none⟩) ps.length ps.length] [Blk.cells (crs ps) 0 false] (Value.tuple ⟨[Value.slice none 0 0, Value.int IntKind.i64 0]⟩) [Blk.cells (crs ps) 0 false] from c_At19Z hk he hl) (by kernel_rfl) (by kernel_rfl) (by kernel_rfl) ⟨(by first | exact crs_plains _ | rfl), trivial⟩ ⟨(by first | exact crs_plains _ | rfl), trivial⟩ <|
    R.guardIs mixed 12 (decide (k < 0)) false (by simp; omega) (by kernel_rfl) <|
    R.cond mixed 4 (bif false then true else decide (k > 6)) false (by simp; omega) (by kernel_rfl) <|
    R.callP mixed [Ent.view 0] [] [crs ps] (show ConM Try.prog 20 [Value.slice (some ⟨0, 0, none⟩) ps.length ps.length] [Blk.cells (crs ps) 0 false] (Value.int IntKind.i64 0) [Blk.gone] from c_chk20.val (congrArg num he)) (by kernel_rfl) (by kernel_rfl) (by kernel_rfl) ⟨(by first | exact crs_plains _ | rfl), trivial⟩ trivial <|
    R.callP mixed [Ent.view 0] [0] [crs ps] (show ConM Try.prog 22 [Value.int IntKind.i64 k, Value.slice (some ⟨0, 0, none⟩) ps.length ps.length] [Blk.cells (crs ps) 0 false] (Value.slice none 0 0) [Blk.cells (crs ps) 0 false] from at22Z hk he hl) (by kernel_rfl) (by kernel_rfl) (by kernel_rfl) ⟨(by first | exact crs_plains _ | rfl), trivial⟩ ⟨(by first | exact crs_plains _ | rfl), trivial⟩ <|
    R.call mixed (show Con Try.prog 21 [Value.slice none 0 0, Value.slice none 0 0] (Value.bool true) from c_same00) (by kernel_rfl) <|
    R.at mixed 18 [0, 1, 5, 8, 9] (st := H4aN Try.prog Try.f4 k ps [] true (0 : Nat)) (by kernel_rfl) <| l4aN_loop hk hp hn ps.length 0 true (by omega) <| R.cond mixed 6 (decide ((ps.length : Int) < (ps.length : Int))) false (by simp) (by kernel_rfl) <| planeZend hk hl

theorem planeS {k : Int} {ps ls : List Cr} (hk : 0 ≤ k ∧ k ≤ 6) (he : chkE ps = 0) (hl : atL k ps = ls) (hne : ls ≠ []) : RunsE Try.prog 4 1 (entry Try.f4 [num k, sl A0 ps.length] [.cells (crs ps) 0 false]) (.bool true) := by
  have hp := (chk_may he).2
  have hn : ps.length ≤ 16 := (chk_may he).1
  have hl1 := at_len hl
  exact
    R.callP mixed [Ent.view 0] [0, 1] [crs ps] (show ConM Try.prog 19 [Value.int IntKind.i64 k, Value.slice (some ⟨0, 0, none⟩) ps.length ps.length] [Blk.cells (crs ps) 0 false] (Value.tuple ⟨[sl A1 ls.length, Value.int IntKind.i64 0]⟩) [Blk.cells (crs ps) 0 false, Blk.cells (crs ls) 10 true] from c_At19S hk he hl hne) (by kernel_rfl) (by kernel_rfl) (by kernel_rfl) ⟨(by first | exact crs_plains _ | rfl), trivial⟩ ⟨(by first | exact crs_plains _ | rfl), (by first | exact crs_plains _ | rfl), trivial⟩ <|
    R.guardIs mixed 12 (decide (k < 0)) false (by simp; omega) (by kernel_rfl) <|
    R.cond mixed 4 (bif false then true else decide (k > 6)) false (by simp; omega) (by kernel_rfl) <|
    R.callP mixed [Ent.view 0] [] [crs ps] (show ConM Try.prog 20 [Value.slice (some ⟨0, 0, none⟩) ps.length ps.length] [Blk.cells (crs ps) 0 false] (Value.int IntKind.i64 0) [Blk.gone] from c_chk20.val (congrArg num he)) (by kernel_rfl) (by kernel_rfl) (by kernel_rfl) ⟨(by first | exact crs_plains _ | rfl), trivial⟩ trivial <|
    R.callP mixed [Ent.view 0] [0, 1] [crs ps] (show ConM Try.prog 22 [Value.int IntKind.i64 k, Value.slice (some ⟨0, 0, none⟩) ps.length ps.length] [Blk.cells (crs ps) 0 false] (Value.slice A1 ls.length ls.length) [Blk.cells (crs ps) 0 false, Blk.cells (crs ls) 10 true] from at22S hk he hl hne) (by kernel_rfl) (by kernel_rfl) (by kernel_rfl) ⟨(by first | exact crs_plains _ | rfl), trivial⟩ ⟨(by first | exact crs_plains _ | rfl), (by first | exact crs_plains _ | rfl), trivial⟩ <|
    R.callP mixed [Ent.view 1, Ent.view 2] [] [crs ls, crs ls] (show ConM Try.prog 21 [Value.slice (some ⟨0, 0, none⟩) ls.length ls.length, Value.slice (some ⟨1, 0, none⟩) ls.length ls.length] [Blk.cells (crs ls) 0 false, Blk.cells (crs ls) 0 false] (Value.bool true) [Blk.gone, Blk.gone] from c_same (by omega)) (by kernel_rfl) (by kernel_rfl) (by kernel_rfl) ⟨(by first | exact crs_plains _ | rfl), (by first | exact crs_plains _ | rfl), trivial⟩ trivial <|
    R.at mixed 18 [0, 1, 5, 8, 9] (st := H4aS Try.prog Try.f4 k ps ls true (0 : Nat)) (by kernel_rfl) <| l4aS_loop hk hp (by omega) ps.length 0 true (by omega) <| R.cond mixed 6 (decide ((ps.length : Int) < (ps.length : Int))) false (by simp) (by kernel_rfl) <| R.at mixed 10 [0, 1, 5, 8, 10] (st := H4b Try.prog Try.f4 k ps ls (allF k ps ps.length 0 true) (0 : Nat)) (by kernel_rfl) (l4b_loop hk (fun i hi => at_may hk hp hl hi) (fun i hi => at_far hk hl hi) (by omega) (fun h => hl.symm.trans (at_in fun i hi => (allF_true ps.length 0 true h).2 i (by omega) (by omega))) ls.length 0 (by omega))
theorem planeA {k : Int} {a : Option Addr} {n : Nat} {c : List Value} (h : k < 0 ∨ 6 < k) : RunsE Try.prog 4 1 (entry Try.f4 [num k, .slice none 0 0] [.cells [] 0 false]) (.bool true) ∧ ∀ ps : List Cr, RunsE Try.prog 4 1 (entry Try.f4 [num k, sl A0 ps.length] [.cells (crs ps) 0 false]) (.bool true) := by
  rcases Decidable.em (k < 0) with h1 | h1
  · exact ⟨R.callP mixed [.view 0] [] [[]] (c_At19A (a := none) (n := 0) (c := []) h) (by kernel_rfl) (by kernel_rfl) (by kernel_rfl) ⟨rfl, trivial⟩ trivial <| R.guardIs mixed 12 (decide (k < 0)) true (by simpa using h1) (by kernel_rfl) <| R.call mixed c_awake15 (by kernel_rfl) <| R.fin mixed Try.func4 (by kernel_rfl),
      fun ps => R.callP mixed [.view 0] [] [crs ps] (c_At19A (a := A0) (n := ps.length) (c := crs ps) h) (by kernel_rfl) (by kernel_rfl) (by kernel_rfl) ⟨crs_plains _, trivial⟩ trivial <| R.guardIs mixed 12 (decide (k < 0)) true (by simpa using h1) (by kernel_rfl) <| R.call mixed c_awake15 (by kernel_rfl) <| R.fin mixed Try.func4 (by kernel_rfl)⟩
  · exact ⟨R.callP mixed [.view 0] [] [[]] (c_At19A (a := none) (n := 0) (c := []) h) (by kernel_rfl) (by kernel_rfl) (by kernel_rfl) ⟨rfl, trivial⟩ trivial <| R.guardIs mixed 12 (decide (k < 0)) false (by simpa using h1) (by kernel_rfl) <| R.cond mixed 4 (bif false then true else decide (k > 6)) true (by simp; omega) (by kernel_rfl) <| R.call mixed c_awake15 (by kernel_rfl) <| R.fin mixed Try.func4 (by kernel_rfl),
      fun ps => R.callP mixed [.view 0] [] [crs ps] (c_At19A (a := A0) (n := ps.length) (c := crs ps) h) (by kernel_rfl) (by kernel_rfl) (by kernel_rfl) ⟨crs_plains _, trivial⟩ trivial <| R.guardIs mixed 12 (decide (k < 0)) false (by simpa using h1) (by kernel_rfl) <| R.cond mixed 4 (bif false then true else decide (k > 6)) true (by simp; omega) (by kernel_rfl) <| R.call mixed c_awake15 (by kernel_rfl) <| R.fin mixed Try.func4 (by kernel_rfl)⟩
theorem planeNil {k : Int} (hk : 0 ≤ k ∧ k ≤ 6) : RunsE Try.prog 4 1 (entry Try.f4 [num k, sl none 0] [.cells [] 0 false]) (.bool true) := by
  exact R.callP mixed [.view 0] [] [[]] (c_At19nil hk) (by kernel_rfl) (by kernel_rfl) (by kernel_rfl) ⟨rfl, trivial⟩ trivial <| R.guardIs mixed 12 (decide (k < 0)) false (by simp; omega) (by kernel_rfl) <| R.cond mixed 4 (bif false then true else decide (k > 6)) false (by simp; omega) (by kernel_rfl) <|
    R.callP mixed [.view 0] [] [[]] c_chk20N (by kernel_rfl) (by kernel_rfl) (by kernel_rfl) ⟨rfl, trivial⟩ trivial <| R.callP mixed [.view 0] [] [[]] (c_at22N (k := k)) (by kernel_rfl) (by kernel_rfl) (by kernel_rfl) ⟨rfl, trivial⟩ trivial <|
    R.call mixed c_same00 (by kernel_rfl) <| R.call mixed c_same00 (by kernel_rfl) <| R.call mixed c_awake15 (by kernel_rfl) <| R.fin mixed Try.func4 (by kernel_rfl)

/-! ### Rows of ten numbers are polygons -/
def mkCrs : Nat → (Nat → Int) → List Cr
  | 0, _ => []
  | n + 1, f => ⟨f 0, f 1, f 2, f 3, f 4, f 5, f 6, f 7, f 8, f 9⟩ :: mkCrs n (fun j => f (j + 10))
theorem mkCrs_length : ∀ (n : Nat) (f : Nat → Int), (mkCrs n f).length = n
  | 0, f => rfl
  | n + 1, f => by show (mkCrs n _).length + 1 = _; rw [mkCrs_length n]
theorem mkCrs_row : ∀ (n : Nat) (f : Nat → Int), row (n * 10) f = crs (mkCrs n f)
  | 0, f => by rw [Nat.zero_mul]; rfl
  | n + 1, f => by
    show row ((n + 1) * 10) f = crL _ ++ crs (mkCrs n fun j => f (j + 10))
    rw [← mkCrs_row n, show crL ⟨f 0, f 1, f 2, f 3, f 4, f 5, f 6, f 7, f 8, f 9⟩ = row 10 f from rfl, row, row, row, rowV_append, show (n + 1) * 10 = 10 + n * 10 by omega]
    refine rowV_ext fun i hi => ?_
    split
    · rfl
    · rw [Nat.sub_add_cancel (by omega)]
theorem plane_ (k : Int) (nil : Bool) (n : Nat) (f : Nat → Int) (hnil : nil = true → n = 0) (hn' : n ≤ maxLen) : FnEq Try.prog 4 [num k, slc nil 0 n] [.cells (row (n * 10) f) 0 false] (.bool true) (List.replicate 1 .gone) := by
  refine FnEq.runRO Try.func4 rfl rfl ?_
  rw [mkCrs_row]
  cases nil with
  | true =>
    have := hnil rfl
    subst this
    rcases Decidable.em (k < 0 ∨ 6 < k) with h | h
    · exact (planeA (a := none) (n := 0) (c := []) h).1
    · exact planeNil (by omega)
  | false =>
    have hl := mkCrs_length n f
    generalize mkCrs n f = ps at hl
    subst hl
    rcases Decidable.em (k < 0 ∨ 6 < k) with h | h
    · exact (planeA (a := none) (n := 0) (c := []) h).2 ps
    · have hk : 0 ≤ k ∧ k ≤ 6 := by omega
      rcases Decidable.em (chkE ps = 0) with he | he
      · cases hl : atL k ps with
        | nil => exact planeZ hk he hl
        | cons c l => exact planeS hk he hl (by simp)
      · exact planeB hk rfl he

end

end Go.Proofs.Ytfkmhhbpomkakaa.Pol
