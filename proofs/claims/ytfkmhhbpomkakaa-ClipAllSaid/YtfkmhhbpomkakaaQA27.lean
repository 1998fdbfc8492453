/- Several texts in one: K2, K3. -/
import Derived.Test.YtfkmhhbpomkakaaQA25
import Derived.Test.YtfkmhhbpomkakaaQA26
namespace Go.Proofs.Ytfkmhhbpomkakaa.Lf

section
open Go Go.Dt Go.Proofs Go.Proofs.Ytfkmhhbpomkakaa.Clip Go.Proofs.Ytfkmhhbpomkakaa.Pol Go.Proofs.Ytfkmhhbpomkakaa.Wide
set_option linter.unusedVariables false
set_option linter.unusedSimpArgs false

theorem cr_getR (ps : List TCorner) (i : Nat) : cr (getR ps i) = (ps.map cr).getD i c0 := by
  unfold getR
  rw [List.getD_eq_getElem?_getD, List.getD_eq_getElem?_getD, List.getElem?_map]
  cases ps[i]? <;> rfl
theorem map_cr (l : List Cr) : (l.map uncr).map cr = l := by
  induction l with
  | nil => rfl
  | cons a l ih => rw [List.map_cons, List.map_cons, ih]
theorem map_uncr (l : List TCorner) : (l.map cr).map uncr = l := by
  induction l with
  | nil => rfl
  | cons a l ih => rw [List.map_cons, List.map_cons, ih]
def atT (k : Int) (ps : List TCorner) : List TCorner := (atL k (ps.map cr)).map uncr
def MayT (ps : List TCorner) : Prop := ∀ i, i < ps.length → mayR (cr (getR ps i))
theorem room80 {n : Nat} (h : n ≤ 1000000) : room n 80 = true := by
  simp only [room, Bool.and_eq_true, decide_eq_true_eq]
  omega
theorem inR_ok {i n : Nat} (h : i < n) : inR (i : Int) n = true := by
  simp only [inR, Bool.and_eq_true, decide_eq_true_eq]
  omega
theorem wrap_nxt {i : Nat} (h : i ≤ 1000000) : IntKind.i64.wrap ((i : Int) + 1) = ((i + 1 : Nat) : Int) := by
  rw [wrap_i64_of (by omega) (by omega)]; omega
theorem F49_eq {K : Nat} {k : Int} {c : TCorner} (hk : 0 ≤ k ∧ k ≤ 6) (h : mayR (cr c)) : F49 K k c.P = some (farC k (cr c)) := by
  unfold F49
  rw [inK_mk hk, inV_mk (v := c.P) h.1]
  rfl

section
variable {k : Int} {ps : List TCorner} {K i : Nat} {o : List TCorner}
theorem step53 (hk : 0 ≤ k ∧ k ≤ 6) (hi : i < ps.length) (hp : MayT ps) (hn : ps.length ≤ 100000) (ho : o.length ≤ 300000) :
    F53_3 k ps (K + 1) o (i : Int) = F53_3 k ps K (o ++ (stepAt k (cr (getR ps i)) (cr (getR ps ((i + 1) % ps.length)))).map uncr) ((i + 1 : Nat) : Int) := by
  have e1 : decide ((i : Int) < (ps.length : Int)) = true := decide_eq_true (by omega)
  have e2 := inR_ok hi
  have e3 : ((ps.length : Int) != 0) = true := by rw [bne_iff_ne]; omega
  have e4 := nxt_mod hi hn
  have e5 := inR_ok (nxt_lt hi)
  have ha := hp i hi
  have hb := hp _ (nxt_lt hi)
  have e6 := F49_eq (K := K) hk ha
  have e7 := F49_eq (K := K) hk hb
  have e8 := wrap_nxt (i := i) (by omega)
  have r1 : room (o.length + ([getR ps i] : List TCorner).length) 80 = true := room80 (by simp; omega)
  have r2 : ∀ x : TCorner, room ((o ++ [getR ps i]).length + ([x] : List TCorner).length) 80 = true := fun x => room80 (by simp; omega)
  have r3 : ∀ x : TCorner, room (o.length + ([x] : List TCorner).length) 80 = true := fun x => room80 (by simp; omega)
  rw [F53_3]
  simp only [e1, e2, e3, e4, e5, cond_true, Int.toNat_natCast, e6, e7, Option.bind_some, r1]
  by_cases h1 : 0 ≤ farC k (cr (getR ps i))
  · have d1 : decide (farC k (cr (getR ps i)) ≥ 0) = true := decide_eq_true h1
    by_cases h2 : 0 ≤ farC k (cr (getR ps ((i + 1) % ps.length)))
    · have d2 : decide (farC k (cr (getR ps ((i + 1) % ps.length))) ≥ 0) = true := decide_eq_true h2
      simp only [d1, d2, cond_true, cond_false, Bool.not_true, e8]
      refine congrArg (fun l => F53_3 k ps K l _) ?_
      unfold stepAt; rw [if_pos h1, if_pos h2]; rfl
    · have d2 : decide (farC k (cr (getR ps ((i + 1) % ps.length))) ≥ 0) = false := decide_eq_false h2
      simp only [d1, d2, cond_true, cond_false, Bool.not_true, Bool.not_false, e8, F47_eq hk ha hb h1 h2, Option.bind_some, r2]
      refine congrArg (fun l => F53_3 k ps K l _) ?_
      unfold stepAt; rw [if_pos h1, if_neg h2, List.append_assoc]; rfl
  · have d1 : decide (farC k (cr (getR ps i)) ≥ 0) = false := decide_eq_false h1
    by_cases h2 : 0 ≤ farC k (cr (getR ps ((i + 1) % ps.length)))
    · have d2 : decide (farC k (cr (getR ps ((i + 1) % ps.length))) ≥ 0) = true := decide_eq_true h2
      simp only [d1, d2, cond_true, cond_false, Bool.not_true, Bool.not_false, e8, F47_eq hk hb ha h2 h1, Option.bind_some, r3]
      refine congrArg (fun l => F53_3 k ps K l _) ?_
      unfold stepAt; rw [if_neg h1, if_pos h2]; rfl
    · have d2 : decide (farC k (cr (getR ps ((i + 1) % ps.length))) ≥ 0) = false := decide_eq_false h2
      simp only [d1, d2, cond_true, cond_false, Bool.not_true, Bool.not_false, e8]
      refine congrArg (fun l => F53_3 k ps K l _) ?_
      unfold stepAt; rw [if_neg h1, if_neg h2]; exact (List.append_nil o).symm
theorem step22 (hk : 0 ≤ k ∧ k ≤ 6) (hi : i < ps.length) (hp : MayT ps) (hn : ps.length ≤ 100000) (ho : o.length ≤ 300000) :
    F22_3 k ps (K + 1) o (i : Int) = F22_3 k ps K (o ++ (stepAt k (cr (getR ps i)) (cr (getR ps ((i + 1) % ps.length)))).map uncr) ((i + 1 : Nat) : Int) := by
  have e1 : decide ((i : Int) < (ps.length : Int)) = true := decide_eq_true (by omega)
  have e2 := inR_ok hi
  have e3 : ((ps.length : Int) != 0) = true := by rw [bne_iff_ne]; omega
  have e4 := nxt_mod hi hn
  have e5 := inR_ok (nxt_lt hi)
  have ha := hp i hi
  have hb := hp _ (nxt_lt hi)
  have e6 := F49_eq (K := K) hk ha
  have e7 := F49_eq (K := K) hk hb
  have e8 := wrap_nxt (i := i) (by omega)
  have r1 : room (o.length + ([getR ps i] : List TCorner).length) 80 = true := room80 (by simp; omega)
  have r2 : ∀ x : TCorner, room ((o ++ [getR ps i]).length + ([x] : List TCorner).length) 80 = true := fun x => room80 (by simp; omega)
  have r3 : ∀ x : TCorner, room (o.length + ([x] : List TCorner).length) 80 = true := fun x => room80 (by simp; omega)
  rw [F22_3]
  simp only [e1, e2, e3, e4, e5, cond_true, Int.toNat_natCast, e6, e7, Option.bind_some, r1]
  by_cases h1 : 0 ≤ farC k (cr (getR ps i))
  · have d1 : decide (farC k (cr (getR ps i)) ≥ 0) = true := decide_eq_true h1
    by_cases h2 : 0 ≤ farC k (cr (getR ps ((i + 1) % ps.length)))
    · have d2 : decide (farC k (cr (getR ps ((i + 1) % ps.length))) ≥ 0) = true := decide_eq_true h2
      simp only [d1, d2, cond_true, cond_false, Bool.not_true, e8]
      refine congrArg (fun l => F22_3 k ps K l _) ?_
      unfold stepAt; rw [if_pos h1, if_pos h2]; rfl
    · have d2 : decide (farC k (cr (getR ps ((i + 1) % ps.length))) ≥ 0) = false := decide_eq_false h2
      simp only [d1, d2, cond_true, cond_false, Bool.not_true, Bool.not_false, e8, F47_eq hk ha hb h1 h2, Option.bind_some, r2]
      refine congrArg (fun l => F22_3 k ps K l _) ?_
      unfold stepAt; rw [if_pos h1, if_neg h2, List.append_assoc]; rfl
  · have d1 : decide (farC k (cr (getR ps i)) ≥ 0) = false := decide_eq_false h1
    by_cases h2 : 0 ≤ farC k (cr (getR ps ((i + 1) % ps.length)))
    · have d2 : decide (farC k (cr (getR ps ((i + 1) % ps.length))) ≥ 0) = true := decide_eq_true h2
      simp only [d1, d2, cond_true, cond_false, Bool.not_true, Bool.not_false, e8, F47_eq hk hb ha h2 h1, Option.bind_some, r3]
      refine congrArg (fun l => F22_3 k ps K l _) ?_
      unfold stepAt; rw [if_neg h1, if_pos h2]; rfl
    · have d2 : decide (farC k (cr (getR ps ((i + 1) % ps.length))) ≥ 0) = false := decide_eq_false h2
      simp only [d1, d2, cond_true, cond_false, Bool.not_true, Bool.not_false, e8]
      refine congrArg (fun l => F22_3 k ps K l _) ?_
      unfold stepAt; rw [if_neg h1, if_neg h2]; exact (List.append_nil o).symm

theorem flat_T (d i : Nat) : (flat k (ps.map cr) (d + 1) i).map uncr = (stepAt k (cr (getR ps i)) (cr (getR ps ((i + 1) % ps.length)))).map uncr ++ (flat k (ps.map cr) d (i + 1)).map uncr := by
  rw [flat_succ rfl, List.map_append, cr_getR, cr_getR, List.length_map]
theorem step_len (a b : Cr) : (stepAt k a b).length ≤ 2 := by
  unfold stepAt
  split <;> split <;> simp
theorem loop53 (hk : 0 ≤ k ∧ k ≤ 6) (hp : MayT ps) (hn : ps.length ≤ 100000) : ∀ (d i K : Nat) (o : List TCorner), i + d = ps.length → d < K → o.length + 2 * d ≤ 300000 → F53_3 k ps K o (i : Int) = some (o ++ (flat k (ps.map cr) d i).map uncr)
  | 0, i, K + 1, o, h, hK, ho => by
    have e1 : decide ((i : Int) < (ps.length : Int)) = false := decide_eq_false (by omega)
    rw [F53_3]
    simp only [e1, cond_false]
    exact congrArg some (List.append_nil o).symm
  | d + 1, i, K + 1, o, h, hK, ho => by
    have hl := step_len (k := k) (cr (getR ps i)) (cr (getR ps ((i + 1) % ps.length)))
    rw [step53 hk (by omega) hp hn (by omega), loop53 hk hp hn d (i + 1) K _ (by omega) (by omega) (by rw [List.length_append, List.length_map]; omega), flat_T, List.append_assoc]
  | _, _, 0, _, _, hK, _ => absurd hK (Nat.not_lt_zero _)
theorem loop22 (hk : 0 ≤ k ∧ k ≤ 6) (hp : MayT ps) (hn : ps.length ≤ 100000) : ∀ (d i K : Nat) (o : List TCorner), i + d = ps.length → d < K → o.length + 2 * d ≤ 300000 → F22_3 k ps K o (i : Int) = some (o ++ (flat k (ps.map cr) d i).map uncr)
  | 0, i, K + 1, o, h, hK, ho => by
    have e1 : decide ((i : Int) < (ps.length : Int)) = false := decide_eq_false (by omega)
    rw [F22_3]
    simp only [e1, cond_false]
    exact congrArg some (List.append_nil o).symm
  | d + 1, i, K + 1, o, h, hK, ho => by
    have hl := step_len (k := k) (cr (getR ps i)) (cr (getR ps ((i + 1) % ps.length)))
    rw [step22 hk (by omega) hp hn (by omega), loop22 hk hp hn d (i + 1) K _ (by omega) (by omega) (by rw [List.length_append, List.length_map]; omega), flat_T, List.append_assoc]
  | _, _, 0, _, _, hK, _ => absurd hK (Nat.not_lt_zero _)
theorem F53_at (hk : 0 ≤ k ∧ k ≤ 6) (hp : MayT ps) (hn : ps.length ≤ 100000) (hK : ps.length < K) : F53 K k ps = some (atT k ps) := by
  have h := loop53 hk hp hn ps.length 0 K [] (by omega) hK (by simp; omega)
  unfold F53
  rw [show ((0 : Int)) = ((0 : Nat) : Int) from rfl, h, List.nil_append, atT, atL, List.length_map]
theorem F22_at (hk : 0 ≤ k ∧ k ≤ 6) (hp : MayT ps) (hn : ps.length ≤ 100000) (hK : ps.length < K) : F22 K k ps = some (atT k ps) := by
  have h := loop22 hk hp hn ps.length 0 K [] (by omega) hK (by simp; omega)
  unfold F22
  rw [show ((0 : Int)) = ((0 : Nat) : Int) from rfl, h, List.nil_append, atT, atL, List.length_map]

theorem may_map : MayT ps ↔ ∀ i, i < (ps.map cr).length → mayR ((ps.map cr).getD i c0) := by
  unfold MayT
  rw [List.length_map]
  exact ⟨fun h i hi => cr_getR ps i ▸ h i hi, fun h i hi => (cr_getR ps i).symm ▸ h i hi⟩
theorem atT_map : (atT k ps).map cr = atL k (ps.map cr) := by unfold atT; exact map_cr _
theorem atT_may (hk : 0 ≤ k ∧ k ≤ 6) (hp : MayT ps) : MayT (atT k ps) := by
  rw [may_map, atT_map]
  exact fun i hi => at_may hk (may_map.1 hp) rfl hi
theorem atT_len : (atT k ps).length ≤ 2 * ps.length := by
  have := at_len (k := k) (ps := ps.map cr) rfl
  rw [List.length_map] at this
  unfold atT
  rwa [List.length_map]

/-- So many planes, from one on. -/
def plT : Nat → Nat → List TCorner → List TCorner
  | 0, _, ps => ps
  | d + 1, j, ps => plT d (j + 1) (atT j ps)
theorem loop24 {a0 : List TCorner} : ∀ (d j K : Nat) (ps : List TCorner), j + d = 7 → MayT ps → ps.length * 2 ^ d ≤ 4096 → 4200 + d < K → F24_6 a0 K ps (j : Int) = some (plT d j ps, 0)
  | 0, j, K + 1, ps, h, hp, hl, hK => by
    have e1 : decide ((j : Int) < 7) = false := decide_eq_false (by omega)
    rw [F24_6]
    simp only [e1, cond_false]
    rfl
  | d + 1, j, K + 1, ps, h, hp, hl, hK => by
    have e1 : decide ((j : Int) < 7) = true := decide_eq_true (by omega)
    have hk : 0 ≤ (j : Int) ∧ (j : Int) ≤ 6 := by omega
    have h2 : ps.length ≤ 4096 := Nat.le_trans (Nat.le_mul_of_pos_right _ (Nat.pow_pos (by decide))) hl
    have h3 := atT_len (k := (j : Int)) (ps := ps)
    have h4 : (atT j ps).length * 2 ^ d ≤ 4096 := by
      rw [Nat.pow_succ] at hl
      have := Nat.mul_le_mul_right (2 ^ d) h3
      have e : ps.length * (2 ^ d * 2) = 2 * ps.length * 2 ^ d := by rw [Nat.mul_comm (2 ^ d) 2, ← Nat.mul_assoc, Nat.mul_comm ps.length 2]
      omega
    rw [F24_6]
    simp only [e1, cond_true, F53_at hk hp (by omega) (show ps.length < K by omega), Option.bind_some, wrap_nxt (show j ≤ 1000000 by omega)]
    rw [loop24 d (j + 1) K _ (by omega) (atT_may hk hp) h4 (by omega)]
    rfl
  | _, _, 0, _, _, _, _, hK => absurd hK (Nat.not_lt_zero _)
theorem loop25 {a0 : List TCorner} : ∀ (d j K : Nat) (ps : List TCorner), j + d = 7 → MayT ps → ps.length * 2 ^ d ≤ 4096 → 4200 + d < K → F25_3 a0 K ps (j : Int) = some (plT d j ps)
  | 0, j, K + 1, ps, h, hp, hl, hK => by
    have e1 : decide ((j : Int) < 7) = false := decide_eq_false (by omega)
    rw [F25_3]
    simp only [e1, cond_false]
    rfl
  | d + 1, j, K + 1, ps, h, hp, hl, hK => by
    have e1 : decide ((j : Int) < 7) = true := decide_eq_true (by omega)
    have hk : 0 ≤ (j : Int) ∧ (j : Int) ≤ 6 := by omega
    have h2 : ps.length ≤ 4096 := Nat.le_trans (Nat.le_mul_of_pos_right _ (Nat.pow_pos (by decide))) hl
    have h3 := atT_len (k := (j : Int)) (ps := ps)
    have h4 : (atT j ps).length * 2 ^ d ≤ 4096 := by
      rw [Nat.pow_succ] at hl
      have := Nat.mul_le_mul_right (2 ^ d) h3
      have e : ps.length * (2 ^ d * 2) = 2 * ps.length * 2 ^ d := by rw [Nat.mul_comm (2 ^ d) 2, ← Nat.mul_assoc, Nat.mul_comm ps.length 2]
      omega
    rw [F25_3]
    simp only [e1, cond_true, F22_at hk hp (by omega) (show ps.length < K by omega), Option.bind_some, wrap_nxt (show j ≤ 1000000 by omega)]
    rw [loop25 d (j + 1) K _ (by omega) (atT_may hk hp) h4 (by omega)]
    rfl
  | _, _, 0, _, _, _, _, hK => absurd hK (Nat.not_lt_zero _)

/-! ### What is left has a W of 1 at least; what is within stays -/
theorem bet_ge {n m d e : Int} (s : Sep d e) (h1 : ok30 n) (h2 : ok30 m) (hn : 1 ≤ n) (hm : 1 ≤ m) : 1 ≤ bet n m d e := by
  have h := step_range (q := m - n) s (by simp only [ok30] at *; omega) (by simp only [ok30] at *; omega)
  unfold bet
  rcases Int.le_total 0 (m - n) with hq | hq
  · have := (h.1 hq).1; omega
  · have := (h.2 hq).1; omega
def WT (ps : List TCorner) : Prop := ∀ i, i < ps.length → 1 ≤ (getR ps i).P.W
theorem cut_w {a b : Cr} (h : mayR a) (h' : mayR b) (hd : 0 ≤ farC k a) (he : ¬ 0 ≤ farC k b) (ha : 1 ≤ a.w) (hb : 1 ≤ b.w) : 1 ≤ (cutC k a b).w := by
  have s : Sep (farC k a) (farC k b) := ⟨hd, (farI_bounds (k := k) h.1).2, Int.not_le.mp he, (farI_bounds (k := k) h'.1).1⟩
  have h1 := bet_ge s h.1.2.2.2 h'.1.2.2.2 ha hb
  show 1 ≤ Clip.mw k (bet a.w b.w (farC k a) (farC k b))
  unfold Clip.mw
  split
  · exact Int.le_refl 1
  · exact h1
theorem step_w {a b : Cr} (h : mayR a) (h' : mayR b) (ha : 1 ≤ a.w) (hb : 1 ≤ b.w) : ∀ c, c ∈ stepAt k a b → 1 ≤ c.w := by
  intro c hc
  unfold stepAt at hc
  split at hc
  · rename_i h1
    split at hc
    · simp only [List.mem_singleton] at hc; subst hc; exact ha
    · rename_i h2
      simp only [List.mem_cons, List.not_mem_nil, or_false] at hc
      rcases hc with rfl | rfl
      · exact ha
      · exact cut_w h h' h1 h2 ha hb
  · rename_i h1
    split at hc
    · rename_i h2
      simp only [List.mem_singleton] at hc; subst hc; exact cut_w h' h h2 h1 hb ha
    · cases hc
theorem flat_w {l : List Cr} (hp : ∀ i, i < l.length → mayR (l.getD i c0)) (hw : ∀ i, i < l.length → 1 ≤ (l.getD i c0).w) : ∀ (d i : Nat), i + d = l.length → ∀ c, c ∈ flat k l d i → 1 ≤ c.w
  | 0, i, _, c, h => by cases h
  | d + 1, i, hi, c, h => by
    rw [flat_succ rfl] at h
    rcases List.mem_append.1 h with h | h
    · exact step_w (hp i (by omega)) (hp _ (nxt_lt (by omega))) (hw i (by omega)) (hw _ (nxt_lt (by omega))) c h
    · exact flat_w hp hw d (i + 1) (by omega) c h
theorem w_map : WT ps ↔ ∀ i, i < (ps.map cr).length → 1 ≤ ((ps.map cr).getD i c0).w := by
  unfold WT
  rw [List.length_map]
  exact ⟨fun h i hi => cr_getR ps i ▸ h i hi, fun h i hi => by have := h i hi; rw [← cr_getR] at this; exact this⟩
theorem atT_w (hp : MayT ps) (hw : WT ps) : WT (atT k ps) := by
  rw [w_map, atT_map]
  intro i hi
  refine flat_w (k := k) (may_map.1 hp) (w_map.1 hw) (ps.map cr).length 0 (by omega) _ ?_
  rw [List.getD_eq_getElem?_getD, List.getElem?_eq_getElem hi]
  exact List.getElem_mem hi
theorem atT_w0 (hp : MayT ps) : WT (atT 0 ps) := by
  rw [w_map, atT_map]
  intro i hi
  have h : (0 : Int) ≤ ((atL 0 (ps.map cr)).getD i c0).w - 1 := at_far (k := 0) (by decide) rfl hi
  omega
theorem plT_w : ∀ (d j : Nat) (ps : List TCorner), j + d ≤ 7 → MayT ps → WT ps → WT (plT d j ps)
  | 0, _, _, _, _, h => h
  | d + 1, j, ps, hj, hp, h => plT_w d (j + 1) _ (by omega) (atT_may (by omega) hp) (atT_w hp h)
theorem all_w (hp : MayT ps) : WT (plT 7 0 ps) := plT_w 6 1 _ (by omega) (atT_may (by decide) hp) (atT_w0 hp)
theorem atT_in (h : ∀ i, i < ps.length → 0 ≤ farC k (cr (getR ps i))) : atT k ps = ps := by
  unfold atT
  rw [at_in, map_uncr]
  intro i hi
  rw [List.length_map] at hi
  rw [← cr_getR]
  exact h i hi
theorem plT_in : ∀ (d j : Nat), j + d ≤ 7 → (∀ i, i < ps.length → ∀ k : Nat, k < 7 → 0 ≤ farC k (cr (getR ps i))) → plT d j ps = ps
  | 0, _, _, _ => rfl
  | d + 1, j, hj, h => by
    show plT d (j + 1) (atT j ps) = ps
    rw [atT_in fun i hi => h i hi j (by omega)]
    exact plT_in d (j + 1) (by omega) h
theorem plT_len : ∀ (d j : Nat) (ps : List TCorner), (plT d j ps).length ≤ ps.length * 2 ^ d
  | 0, _, ps => by show ps.length ≤ _; omega
  | d + 1, j, ps => by
    have h := plT_len d (j + 1) (atT j ps)
    have h3 := Nat.mul_le_mul_right (2 ^ d) (atT_len (k := (j : Int)) (ps := ps))
    show (plT d (j + 1) (atT j ps)).length ≤ _
    rw [Nat.pow_succ]
    have e : ps.length * (2 ^ d * 2) = 2 * ps.length * 2 ^ d := by rw [Nat.mul_comm (2 ^ d) 2, ← Nat.mul_assoc, Nat.mul_comm ps.length 2]
    omega
end

end

section
open Go Go.Dt Go.Proofs Go.Proofs.Ytfkmhhbpomkakaa.Clip Go.Proofs.Ytfkmhhbpomkakaa.Pol Go.Proofs.Ytfkmhhbpomkakaa.Wide
set_option linter.unusedVariables false
set_option linter.unusedSimpArgs false

section
variable {ps : List TCorner}
theorem eq5220 : ∀ (K : Nat) (i : Int), F52_4 ps K i = F20_4 ps K i
  | 0, i => by rw [F52_4, F20_4]
  | K + 1, i => by rw [F52_4, F20_4, eq5220 K]
theorem F52_20 (K : Nat) : F52 K ps = F20 K ps := by unfold F52 F20; rw [eq5220]
theorem loop20 (hn : ps.length ≤ 1000) : ∀ (d i K : Nat), i + d = ps.length → d < K → F20_4 ps K (i : Int) = some 3 ∨ (F20_4 ps K (i : Int) = some 0 ∧ ∀ j, i ≤ j → j < ps.length → mayR (cr (getR ps j)))
  | 0, i, K + 1, h, hK => by
    have e1 : decide ((i : Int) < (ps.length : Int)) = false := decide_eq_false (by omega)
    rw [F20_4]
    simp only [e1, cond_false]
    exact .inr ⟨trivial, fun j h1 h2 => by omega⟩
  | d + 1, i, K + 1, h, hK => by
    have e1 : decide ((i : Int) < (ps.length : Int)) = true := decide_eq_true (by omega)
    have e2 := inR_ok (show i < ps.length by omega)
    rw [F20_4]
    simp only [e1, e2, cond_true, Int.toNat_natCast, wrap_nxt (show i ≤ 1000000 by omega)]
    cases hm : F48 (getR ps i) with
    | false => exact .inl rfl
    | true =>
      rcases loop20 hn d (i + 1) K (by omega) (by omega) with h1 | ⟨h1, h2⟩
      · exact .inl h1
      · refine .inr ⟨h1, fun j h3 h4 => ?_⟩
        rcases Nat.eq_or_lt_of_le h3 with e | e
        · subst e; exact mayB_iff.1 hm
        · exact h2 j e h4
  | _, _, 0, _, hK => absurd hK (Nat.not_lt_zero _)
theorem chk (K : Nat) (hK : 20 < K) : (∃ e, F20 K ps = some e ∧ (e != 0) = true) ∨ (F20 K ps = some 0 ∧ ps.length ≤ 16 ∧ MayT ps) := by
  unfold F20
  by_cases hl : ps.length > 16
  · have e1 : decide ((ps.length : Int) > 16) = true := decide_eq_true (by omega)
    simp only [e1, cond_true]
    exact .inl ⟨4, rfl, rfl⟩
  · have e1 : decide ((ps.length : Int) > 16) = false := decide_eq_false (by omega)
    simp only [e1, cond_false]
    rcases loop20 (ps := ps) (by omega) ps.length 0 K (by omega) (by omega) with h | ⟨h, h2⟩
    · exact .inl ⟨3, h, rfl⟩
    · exact .inr ⟨h, by omega, fun i hi => h2 i (Nat.zero_le _) hi⟩
theorem loop21 (hn : ps.length ≤ 100000) : ∀ (d i K : Nat), i + d = ps.length → d < K → F21_4 ps ps K (i : Int) = some true
  | 0, i, K + 1, h, hK => by
    have e1 : decide ((i : Int) < (ps.length : Int)) = false := decide_eq_false (by omega)
    rw [F21_4]
    simp only [e1, cond_false]
  | d + 1, i, K + 1, h, hK => by
    have e1 : decide ((i : Int) < (ps.length : Int)) = true := decide_eq_true (by omega)
    have e2 := inR_ok (show i < ps.length by omega)
    rw [F21_4]
    simp only [e1, e2, cond_true, cond_false, Int.toNat_natCast, wrap_nxt (show i ≤ 1000000 by omega), beq_self_eq_true, Bool.and_self, Bool.not_true]
    exact loop21 hn d (i + 1) K (by omega) (by omega)
  | _, _, 0, _, hK => absurd hK (Nat.not_lt_zero _)
theorem F21_self (hn : ps.length ≤ 100000) {K : Nat} (hK : ps.length < K) : F21 K ps ps = some true := by
  unfold F21
  have e : ((ps.length : Int) != (ps.length : Int)) = false := by simp
  simp only [e, cond_false]
  exact loop21 hn ps.length 0 K (by omega) hK
theorem loop8 {a0 : List TCorner} (hw : WT ps) (hn : ps.length ≤ 100000) : ∀ (d i K : Nat), i + d = ps.length → F6_8 a0 (K + (d + 1)) ps (i : Int) = F6_14 a0 K ps true 0
  | 0, i, K, h => by
    have e1 : decide ((i : Int) < (ps.length : Int)) = false := decide_eq_false (by omega)
    rw [F6_8]
    simp only [e1, cond_false]
  | d + 1, i, K, h => by
    have e1 : decide ((i : Int) < (ps.length : Int)) = true := decide_eq_true (by omega)
    have e2 := inR_ok (show i < ps.length by omega)
    have e3 : decide ((getR ps i).P.W < 1) = false := decide_eq_false (by have := hw i (by omega); omega)
    rw [show K + (d + 1 + 1) = (K + (d + 1)) + 1 by omega, F6_8]
    simp only [e1, e2, e3, cond_true, cond_false, Int.toNat_natCast, wrap_nxt (show i ≤ 1000000 by omega)]
    exact loop8 hw hn d (i + 1) K (by omega)
theorem loop17 {l : List TCorner} (hp : MayT ps) (hn : ps.length ≤ 100000) {i : Nat} (hi : i < ps.length) : ∀ (d j K : Nat) (p : Bool), j + d = 7 → ∃ p', F6_17 ps (K + (d + 1)) l p (i : Int) (j : Int) = F6_14 ps K l p' ((i + 1 : Nat) : Int) ∧ (p' = true → p = true ∧ ∀ k : Nat, j ≤ k → k < 7 → 0 ≤ farC k (cr (getR ps i)))
  | 0, j, K, p, h => by
    have e1 : decide ((j : Int) < 7) = false := decide_eq_false (by omega)
    refine ⟨p, ?_, fun hp' => ⟨hp', fun k h1 h2 => by omega⟩⟩
    rw [F6_17]
    simp only [e1, cond_false, wrap_nxt (show i ≤ 1000000 by omega)]
  | d + 1, j, K, p, h => by
    have e1 : decide ((j : Int) < 7) = true := decide_eq_true (by omega)
    have e2 := inR_ok hi
    rw [show K + (d + 1 + 1) = (K + (d + 1)) + 1 by omega, F6_17]
    cases p with
    | false =>
      simp only [e1, cond_true, cond_false, wrap_nxt (show j ≤ 1000000 by omega)]
      obtain ⟨p', h1, h2⟩ := loop17 hp hn hi d (j + 1) K false (by omega)
      exact ⟨p', h1, fun hp' => absurd (h2 hp').1 (by decide)⟩
    | true =>
      simp only [e1, e2, cond_true, cond_false, wrap_nxt (show j ≤ 1000000 by omega), Int.toNat_natCast, F49_eq (k := (j : Int)) (by omega) (hp i hi), Option.bind_some]
      obtain ⟨p', h1, h2⟩ := loop17 hp hn hi d (j + 1) K (decide (farC j (cr (getR ps i)) ≥ 0)) (by omega)
      refine ⟨p', h1, fun hp' => ⟨by trivial, fun k h3 h4 => ?_⟩⟩
      obtain ⟨h5, h6⟩ := h2 hp'
      rcases Nat.eq_or_lt_of_le h3 with e | e
      · subst e; exact of_decide_eq_true h5
      · exact h6 k e h4
theorem loop14 {l : List TCorner} (hp : MayT ps) (hn : ps.length ≤ 16) (hin : (∀ i, i < ps.length → ∀ k : Nat, k < 7 → 0 ≤ farC k (cr (getR ps i))) → l = ps) :
    ∀ (d i K : Nat) (p : Bool), i + d = ps.length → (p = true → ∀ q, q < i → ∀ k : Nat, k < 7 → 0 ≤ farC k (cr (getR ps q))) → F6_14 ps (K + (d * 9 + 100)) l p (i : Int) = some true
  | 0, i, K, p, h, hq => by
    have e1 : decide ((i : Int) < (ps.length : Int)) = false := decide_eq_false (by omega)
    rw [show K + (0 * 9 + 100) = (K + 99) + 1 by omega, F6_14]
    simp only [e1, cond_false]
    cases p with
    | false => rfl
    | true =>
      have e : l = ps := hin fun q hq2 => hq rfl q (by omega)
      subst e
      simp only [Bool.not_true, cond_false, F21_self (ps := l) (by omega) (show l.length < K + 99 by omega), Option.bind_some]
      rfl
  | d + 1, i, K, p, h, hq => by
    have e1 : decide ((i : Int) < (ps.length : Int)) = true := decide_eq_true (by omega)
    rw [show K + ((d + 1) * 9 + 100) = (K + (d * 9 + 100) + (7 + 1)) + 1 by omega, F6_14]
    simp only [e1, cond_true]
    obtain ⟨p', h1, h2⟩ := loop17 (l := l) hp (by omega) (show i < ps.length by omega) 7 0 (K + (d * 9 + 100)) p (by omega)
    refine h1.trans (loop14 hp hn hin d (i + 1) K p' (by omega) fun hp' q hq2 k hk => ?_)
    obtain ⟨h3, h4⟩ := h2 hp'
    rcases Nat.lt_or_ge q i with hlt | hge
    · exact hq h3 q hlt k hk
    · have : q = i := by omega
      subst this
      exact h4 k (Nat.zero_le _) hk
theorem F6_true (ps : List TCorner) : F6 10000 ps = some true := by
  unfold F6 F24
  rw [F52_20]
  rcases chk (ps := ps) 10000 (by decide) with ⟨e, h1, h2⟩ | ⟨h1, hl, hp⟩
  · simp only [h1, Option.bind_some, h2, cond_true]
    simp [F15]
  · have hr : room ps.length 80 = true := room80 (by omega)
    have h24 := loop24 (a0 := ps) 7 0 10000 ps rfl hp (by omega) (by decide)
    have h25 := loop25 (a0 := ps) 7 0 10000 ps rfl hp (by omega) (by decide)
    have hlen := plT_len 7 0 ps
    have hlen2 : (plT 7 0 ps).length ≤ 2048 := by omega
    unfold F25 F54
    have z : ((0 : Int) != 0) = false := rfl
    have e0 : ((0 : Nat) : Int) = 0 := rfl
    rw [e0] at h24 h25
    simp only [h1, Option.bind_some, z, hr, cond_true, cond_false, h24, h25, F21_self (ps := plT 7 0 ps) (by omega) (show (plT 7 0 ps).length < 10000 by omega), Bool.not_true]
    have h8 := loop8 (a0 := ps) (all_w hp) (by omega) (plT 7 0 ps).length 0 (10000 - ((plT 7 0 ps).length + 1)) (by omega)
    rw [Nat.sub_add_cancel (by omega), e0] at h8
    rw [h8]
    have h14 := loop14 (l := plT 7 0 ps) hp hl (fun h => plT_in 7 0 (by omega) h) ps.length 0 (10000 - ((plT 7 0 ps).length + 1) - (ps.length * 9 + 100)) true (by omega) (fun _ q hq => absurd hq (Nat.not_lt_zero _))
    rw [Nat.sub_add_cancel (by omega), e0] at h14
    exact h14
end
theorem clipAll_walk (a0 : List TCorner) : Con Try.prog 6 [lst a0] (.bool true) := c6 10000 a0 true (F6_true a0)

end

end Go.Proofs.Ytfkmhhbpomkakaa.Lf
