/- Several texts in one: AUc, AUd. -/
import Derived.Test.YtdoabaohacfhjaaQL20
namespace Go.Proofs.Ytdoabaohacfhjaa.Lf

section
open Go Go.Dt Go.Proofs
set_option linter.unusedVariables false
set_option linter.unusedSimpArgs false

/-- How many of the first events a worker has, of a kind. -/
def cnt (l : List TEvent) (w c : Int) : Nat → Int
  | 0 => 0
  | k + 1 => cnt l w c k + if (getR l k).Who = w ∧ (getR l k).Kind = c then 1 else 0
theorem cnt_le (l : List TEvent) (w c : Int) : ∀ k, 0 ≤ cnt l w c k ∧ cnt l w c k ≤ k
  | 0 => by simp [cnt]
  | k + 1 => by
    have := cnt_le l w c k
    simp only [cnt]
    split <;> omega
theorem wrap_nat {n : Nat} (h : n ≤ 1000) : IntKind.i64.wrap ((n : Int) + 1) = ((n + 1 : Nat) : Int) := by
  rw [wrap_i64_of (by omega) (by omega)]; rfl
theorem inR_nat {i n : Nat} (h : i < n) : inR (i : Int) n = true := by simp [inR, h]

theorem many_loop (l : List TEvent) (w c : Int) (hl : l.length ≤ 100) : ∀ (d K i : Nat), i + d = l.length → d < K → FR40_Many_3 l w c K (cnt l w c i) i = some (cnt l w c l.length)
  | 0, K, i, h, hK => by
    obtain ⟨K, rfl⟩ : ∃ k, K = k + 1 := ⟨K - 1, by omega⟩
    have hi : i = l.length := by omega
    subst hi
    simp [FR40_Many_3]
  | d + 1, K, i, h, hK => by
    obtain ⟨K, rfl⟩ : ∃ k, K = k + 1 := ⟨K - 1, by omega⟩
    have hi : i < l.length := by omega
    have ih := many_loop l w c hl d K (i + 1) (by omega) (by omega)
    have hc := cnt_le l w c i
    have e1 : IntKind.i64.wrap (cnt l w c i + 1) = cnt l w c i + 1 := wrap_i64_of (by omega) (by omega)
    simp only [FR40_Many_3, inR_nat hi, Int.toNat_natCast, wrap_nat (show i ≤ 1000 by omega), cond_true]
    rw [show decide ((i : Int) < (l.length : Int)) = true from decide_eq_true (by omega), cond_true]
    simp only [cnt] at ih
    by_cases h1 : (getR l i).Who = w
    · by_cases h2 : (getR l i).Kind = c
      · simp only [h1, h2, and_self, if_true, beq_self_eq_true, cond_true, e1] at ih ⊢
        exact ih
      · have e2 : ((getR l i).Kind == c) = false := by simpa using h2
        simp only [h1, h2, and_false, if_false, beq_self_eq_true, cond_true, e2, cond_false, Int.add_zero] at ih ⊢
        exact ih
    · have e2 : ((getR l i).Who == w) = false := by simpa using h1
      simp only [h1, false_and, if_false, e2, cond_false, Int.add_zero] at ih ⊢
      exact ih
theorem many_ok (l : List TEvent) (w c : Int) (hl : l.length ≤ 100) (K : Nat) (hK : 100 < K) : FR40_Many K l w c = some (cnt l w c l.length) :=
  many_loop l w c hl l.length K 0 (by omega) (by omega)

def tbl (l : List TEvent) (w i : Nat) : List TAuditLoad := (List.range w).map fun j => ⟨cnt l ((j + 1 : Nat) : Int) 1 i, cnt l ((j + 1 : Nat) : Int) 2 i, cnt l ((j + 1 : Nat) : Int) 3 i⟩
theorem tbl_length (l : List TEvent) (w i : Nat) : (tbl l w i).length = w := by simp [tbl]
theorem tbl_get (l : List TEvent) (w i : Nat) {j : Nat} (h : j < w) : getR (tbl l w i) j = ⟨cnt l ((j + 1 : Nat) : Int) 1 i, cnt l ((j + 1 : Nat) : Int) 2 i, cnt l ((j + 1 : Nat) : Int) 3 i⟩ := by
  simp [getR, tbl, h]
theorem tbl_zero (l : List TEvent) (w : Nat) : tbl l w 0 = List.replicate w ⟨0, 0, 0⟩ := by
  apply List.ext_getElem
  · simp [tbl]
  · intro n h1 h2; simp [tbl, cnt]
theorem tbl_same (l : List TEvent) (w i : Nat) (h : ∀ j, j < w → ∀ c, (c = 1 ∨ c = 2 ∨ c = 3) → ¬ ((getR l i).Who = ((j + 1 : Nat) : Int) ∧ (getR l i).Kind = c)) : tbl l w (i + 1) = tbl l w i := by
  apply List.ext_getElem
  · simp [tbl]
  · intro n h1 h2
    have hn : n < w := by simpa [tbl] using h1
    have a1 := h n hn 1 (by simp)
    have a2 := h n hn 2 (by simp)
    have a3 := h n hn 3 (by simp)
    simp only [tbl, List.getElem_map, List.getElem_range, cnt, if_neg a1, if_neg a2, if_neg a3, Int.add_zero]
theorem tbl_set (l : List TEvent) (w i q : Nat) (hq : q < w) (hw : (getR l i).Who = ((q + 1 : Nat) : Int)) (x : TAuditLoad)
    (hx : x = ⟨cnt l ((q + 1 : Nat) : Int) 1 (i + 1), cnt l ((q + 1 : Nat) : Int) 2 (i + 1), cnt l ((q + 1 : Nat) : Int) 3 (i + 1)⟩) : (tbl l w i).set q x = tbl l w (i + 1) := by
  apply List.ext_getElem
  · simp [tbl]
  · intro n h1 h2
    have hn : n < w := by simpa [tbl] using h2
    rw [List.getElem_set]
    by_cases e : q = n
    · subst e
      simp [hx, tbl]
    · have hne : ∀ c, ¬ ((getR l i).Who = ((n + 1 : Nat) : Int) ∧ (getR l i).Kind = c) := fun c hc => by
        rw [hw] at hc; omega
      simp only [e, if_false, tbl, List.getElem_map, List.getElem_range, cnt, if_neg (hne _), Int.add_zero]

theorem loads_loop (l : List TEvent) (w : Nat) (hl : l.length ≤ 100) (hw : w ≤ 64) : ∀ (d K i : Nat), i + d = l.length → d < K → Faudit_Loads_5 l w K (tbl l w i) i = some (tbl l w l.length, 0)
  | 0, K, i, h, hK => by
    obtain ⟨K, rfl⟩ : ∃ k, K = k + 1 := ⟨K - 1, by omega⟩
    have hi : i = l.length := by omega
    subst hi
    simp [Faudit_Loads_5]
  | d + 1, K, i, h, hK => by
    obtain ⟨K, rfl⟩ : ∃ k, K = k + 1 := ⟨K - 1, by omega⟩
    have hi : i < l.length := by omega
    have ih := loads_loop l w hl hw d K (i + 1) (by omega) (by omega)
    simp only [Faudit_Loads_5, inR_nat hi, Int.toNat_natCast, wrap_nat (show i ≤ 1000 by omega), cond_true, cond_false]
    rw [show decide ((i : Int) < (l.length : Int)) = true from decide_eq_true (by omega), cond_true]
    by_cases h1 : (getR l i).Who < 1
    · rw [decide_eq_true h1, cond_true, ← tbl_same l w i (fun j hj c _ hc => by omega)]
      exact ih
    · rw [decide_eq_false h1, cond_false]
      by_cases h2 : (getR l i).Who > w
      · rw [decide_eq_true h2, cond_true, ← tbl_same l w i (fun j hj c _ hc => by omega)]
        exact ih
      · rw [decide_eq_false h2, cond_false]
        obtain ⟨q, hq⟩ : ∃ q : Nat, (getR l i).Who = ((q + 1 : Nat) : Int) := ⟨((getR l i).Who - 1).toNat, by omega⟩
        have hqw : q < w := by omega
        have e1 : IntKind.i64.wrap ((getR l i).Who - 1) = (q : Int) := by rw [hq, wrap_i64_of (by omega) (by omega)]; omega
        rw [e1, tbl_length, inR_nat hqw, cond_true, Int.toNat_natCast, tbl_get l w i hqw]
        have c1 := cnt_le l ((q + 1 : Nat) : Int) 1 i
        have c2 := cnt_le l ((q + 1 : Nat) : Int) 2 i
        have c3 := cnt_le l ((q + 1 : Nat) : Int) 3 i
        have w1 : IntKind.i64.wrap (cnt l ((q + 1 : Nat) : Int) 1 i + 1) = cnt l ((q + 1 : Nat) : Int) 1 i + 1 := wrap_i64_of (by omega) (by omega)
        have w2 : IntKind.i64.wrap (cnt l ((q + 1 : Nat) : Int) 2 i + 1) = cnt l ((q + 1 : Nat) : Int) 2 i + 1 := wrap_i64_of (by omega) (by omega)
        have w3 : IntKind.i64.wrap (cnt l ((q + 1 : Nat) : Int) 3 i + 1) = cnt l ((q + 1 : Nat) : Int) 3 i + 1 := wrap_i64_of (by omega) (by omega)
        simp only [w1, w2, w3]
        by_cases k1 : (getR l i).Kind = 1
        · rw [show ((getR l i).Kind == 1) = true by simpa using k1, cond_true, tbl_set l w i q hqw hq _ (by simp [cnt, hq, k1])]
          exact ih
        · rw [show ((getR l i).Kind == 1) = false by simpa using k1, cond_false]
          by_cases k2 : (getR l i).Kind = 2
          · rw [show ((getR l i).Kind == 2) = true by simpa using k2, cond_true, tbl_set l w i q hqw hq _ (by simp [cnt, hq, k2])]
            exact ih
          · rw [show ((getR l i).Kind == 2) = false by simpa using k2, cond_false]
            by_cases k3 : (getR l i).Kind = 3
            · rw [show ((getR l i).Kind == 3) = true by simpa using k3, cond_true, tbl_set l w i q hqw hq _ (by simp [cnt, hq, k3])]
              exact ih
            · rw [show ((getR l i).Kind == 3) = false by simpa using k3, cond_false, ← tbl_same l w i (fun j hj c hc1 hc => by omega)]
              exact ih

end

section
open Go Go.Dt Go.Proofs
set_option linter.unusedVariables false
set_option linter.unusedSimpArgs false

theorem table_loop (l : List TEvent) (w : Nat) (fr : Int) (hl : l.length ≤ 100) (hw : w ≤ 64) : ∀ (d K j : Nat), j + d = w → d + 101 < K → FL40_AuditLoads_21 l w fr K (tbl l w l.length) j = some true
  | 0, K, j, h, hK => by
    obtain ⟨K, rfl⟩ : ∃ k, K = k + 1 := ⟨K - 1, by omega⟩
    have : j = w := by omega
    subst this
    simp [FL40_AuditLoads_21]
  | d + 1, K, j, h, hK => by
    obtain ⟨K, rfl⟩ : ∃ k, K = k + 1 := ⟨K - 1, by omega⟩
    have hj : j < w := by omega
    have ih := table_loop l w fr hl hw d K (j + 1) (by omega) (by omega)
    simp only [FL40_AuditLoads_21, tbl_length, inR_nat hj, Int.toNat_natCast, wrap_nat (show j ≤ 1000 by omega), cond_true, many_ok l _ _ hl K (by omega), Option.bind_some, tbl_get l w _ hj, beq_self_eq_true, Bool.and_self, Bool.not_true, cond_false]
    rw [show decide ((j : Int) < (w : Int)) = true from decide_eq_true (by omega), cond_true]
    exact ih

/-- What Loads gives. -/
def loadsOf (l : List TEvent) (w : Int) : List TAuditLoad × Int := if w < 1 ∨ 64 < w then ([], 2) else (tbl l w.toNat l.length, 0)
theorem loads_ok (l : List TEvent) (w : Int) (hl : l.length ≤ 100) (K : Nat) (hK : 100 < K) : Faudit_Loads K l w = some (loadsOf l w) := by
  unfold Faudit_Loads loadsOf
  by_cases h1 : w < 1
  · simp [h1]
  · by_cases h2 : 64 < w
    · simp [h1, h2]
    · obtain ⟨n, rfl⟩ : ∃ n : Nat, w = n := ⟨w.toNat, by omega⟩
      have hm : mkOk (n : Int) (n : Int) 24 = true := by simp [mkOk]; omega
      rw [decide_eq_false h1, cond_false, decide_eq_false (show ¬ (n : Int) > 64 from h2), hm]
      simp only [cond_false, cond_true, Int.toNat_natCast, ← tbl_zero l n]
      rw [if_neg (by omega)]
      exact loads_loop l n hl (by omega) l.length K 0 (by omega) (by omega)

/-- The law's loop from a state in which all has been found. -/
theorem law_found (l : List TEvent) (w fr : Int) (hl : l.length ≤ 100) (f t : Int) (hf : 0 ≤ f) (ht : 0 ≤ t) : ∀ (d K i : Nat), i + d = l.length → d + 200 < K →
    FL40_AuditLoads_7 l w fr K (loadsOf l w).1 (loadsOf l w).2 f t true f t i = some true
  | 0, K, i, h, hK => by
    obtain ⟨K, rfl⟩ : ∃ k, K = k + 1 := ⟨K - 1, by omega⟩
    have hi : i = l.length := by omega
    subst hi
    by_cases h1 : w < 1
    · simp [FL40_AuditLoads_7, loadsOf, h1, ht]
    · by_cases h2 : 64 < w
      · simp [FL40_AuditLoads_7, loadsOf, h1, h2, ht]
      · obtain ⟨n, rfl⟩ : ∃ n : Nat, w = n := ⟨w.toNat, by omega⟩
        have := table_loop l n fr hl (by omega) n K 0 (by omega) (by omega)
        simp [FL40_AuditLoads_7, loadsOf, h1, h2, ht, tbl_length]
        simpa using this
  | d + 1, K, i, h, hK => by
    obtain ⟨K, rfl⟩ : ∃ k, K = k + 1 := ⟨K - 1, by omega⟩
    have hi : i < l.length := by omega
    have ih := law_found l w fr hl f t hf ht d K (i + 1) (by omega) (by omega)
    have e1 : decide (f < 0) = false := decide_eq_false (by omega)
    have e2 : decide (f ≥ 0) = true := decide_eq_true hf
    have e3 : decide (t < 0) = false := decide_eq_false (by omega)
    have e4 : decide ((i : Int) < (l.length : Int)) = true := decide_eq_true (by omega)
    rw [FL40_AuditLoads_7]
    simp only [e1, e2, e3, e4, inR_nat hi, wrap_nat (show i ≤ 1000 by omega), cond_true, cond_false, ih]
    cases (getR l (i : Int).toNat).A != fr <;> rfl

/-- Both loops, side by side. -/
theorem law_span (l : List TEvent) (w fr : Int) (hl : l.length ≤ 100) : ∀ (d K K2 i : Nat) (f : Int), i + d = l.length → d < K → d + 201 < K2 → (f = -1 ∨ 0 ≤ f) →
    ∃ r, Faudit_Span_3 l fr K f i = some r ∧ FL40_AuditLoads_7 l w fr K2 (loadsOf l w).1 (loadsOf l w).2 r.1 r.2.1 r.2.2 f (-1) i = some true
  | 0, K, K2, i, f, h, hK, hK2, hf => by
    obtain ⟨K, rfl⟩ : ∃ k, K = k + 1 := ⟨K - 1, by omega⟩
    obtain ⟨K2, rfl⟩ : ∃ k, K2 = k + 1 := ⟨K2 - 1, by omega⟩
    have hi : i = l.length := by omega
    subst hi
    refine ⟨(0, 0, false), by simp [Faudit_Span_3], ?_⟩
    by_cases h1 : w < 1
    · simp [FL40_AuditLoads_7, loadsOf, h1]
    · by_cases h2 : 64 < w
      · simp [FL40_AuditLoads_7, loadsOf, h1, h2]
      · obtain ⟨n, rfl⟩ : ∃ n : Nat, w = n := ⟨w.toNat, by omega⟩
        have := table_loop l n fr hl (by omega) n K2 0 (by omega) (by omega)
        simp [FL40_AuditLoads_7, loadsOf, h1, h2, tbl_length]
        simpa using this
  | d + 1, K, K2, i, f, h, hK, hK2, hf => by
    obtain ⟨K, rfl⟩ : ∃ k, K = k + 1 := ⟨K - 1, by omega⟩
    obtain ⟨K2, rfl⟩ : ∃ k, K2 = k + 1 := ⟨K2 - 1, by omega⟩
    have hi : i < l.length := by omega
    have e4 : decide ((i : Int) < (l.length : Int)) = true := decide_eq_true (by omega)
    have em : decide ((-1 : Int) < 0) = true := rfl
    simp only [Faudit_Span_3, FL40_AuditLoads_7, e4, em, inR_nat hi, wrap_nat (show i ≤ 1000 by omega), Int.toNat_natCast, cond_true, cond_false]
    by_cases ha : (getR l i).A = fr
    · have ea : ((getR l i).A != fr) = false := by simpa using ha
      simp only [ea, cond_false]
      rcases hf with rfl | hf
      · have n1 : decide ((-1 : Int) ≥ 0) = false := rfl
        simp only [em, n1, cond_true, cond_false]
        by_cases k1 : (getR l i).Kind = 1
        · have e1 : ((getR l i).Kind == 1) = true := by simpa using k1
          simp only [e1, cond_true]
          exact law_span l w fr hl d K K2 (i + 1) i (by omega) (by omega) (by omega) (.inr (by omega))
        · have e1 : ((getR l i).Kind == 1) = false := by simpa using k1
          simp only [e1, cond_false]
          obtain ⟨r, h1, h2⟩ := law_span l w fr hl d K K2 (i + 1) (-1) (by omega) (by omega) (by omega) (.inl rfl)
          exact ⟨r, by cases (getR l i).Kind == 4 <;> exact h1, h2⟩
      · have n0 : decide (f < 0) = false := decide_eq_false (by omega)
        have n1 : decide (f ≥ 0) = true := decide_eq_true hf
        simp only [n0, n1, cond_true, cond_false]
        obtain ⟨r, h1, h2⟩ := law_span l w fr hl d K K2 (i + 1) f (by omega) (by omega) (by omega) (.inr hf)
        by_cases k4 : (getR l i).Kind = 4
        · have e1 : ((getR l i).Kind == 1) = false := by simp [k4]
          have e4 : ((getR l i).Kind == 4) = true := by simpa using k4
          simp only [e1, e4, cond_true, cond_false]
          exact ⟨_, rfl, law_found l w fr hl f i hf (by omega) d K2 (i + 1) (by omega) (by omega)⟩
        · have e4 : ((getR l i).Kind == 4) = false := by simpa using k4
          simp only [e4, cond_false]
          exact ⟨r, by cases (getR l i).Kind == 1 <;> exact h1, h2⟩
    · have ea : ((getR l i).A != fr) = true := by simpa using ha
      simp only [ea, cond_true]
      exact law_span l w fr hl d K K2 (i + 1) f (by omega) (by omega) (by omega) hf

theorem auditLoads_ok (l : List TEvent) (w fr : Int) : FL40_AuditLoads 400 l w fr = some true := by
  unfold FL40_AuditLoads
  by_cases hl : l.length ≤ 100
  · rw [decide_eq_false (by omega), cond_false, loads_ok l w hl 400 (by omega), Option.bind_some]
    obtain ⟨r, h1, h2⟩ := law_span l w fr hl l.length 400 400 0 (-1) (by omega) (by omega) (by omega) (.inl rfl)
    unfold Faudit_Span
    have h1' : Faudit_Span_3 l fr 400 (-1) 0 = some r := h1
    rw [h1', Option.bind_some]
    exact h2
  · rw [decide_eq_true (by omega), cond_true]
theorem auditLoads_walk (l : List TEvent) (w fr : Int) : Con Try.prog 4 [lst l, .int .i64 w, .int .i64 fr] (.bool true) := cL40_AuditLoads 400 l w fr true (auditLoads_ok l w fr)

end

end Go.Proofs.Ytdoabaohacfhjaa.Lf
