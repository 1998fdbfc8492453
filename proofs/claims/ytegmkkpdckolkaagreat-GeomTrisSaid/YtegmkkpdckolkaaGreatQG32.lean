/- Several texts in one: G2rz, G6z. -/
import Derived.Test.YtegmkkpdckolkaaGreatQG30
import Derived.Test.YtegmkkpdckolkaaGreatQG31
namespace Go.Proofs.YtegmkkpdckolkaaGreat.Lf

section
open Go Go.Dt Go.Proofs Go.Proofs.YtegmkkpdckolkaaGreat.Clip Go.Proofs.YtegmkkpdckolkaaGreat.Pol Go.Proofs.YtegmkkpdckolkaaGreat.Wide
set_option linter.unusedVariables false
set_option linter.unusedSimpArgs false

section
variable {k : Int} {ps : List TCorner} {K i : Nat} {o : List TCorner}
theorem step22 (hk : 0 ≤ k ∧ k ≤ 6) (hi : i < ps.length) (hp : MayT ps) (hn : ps.length ≤ 100000) (ho : o.length ≤ 300000) :
    FR15_At_3 k ps (K + 1) o (i : Int) = FR15_At_3 k ps K (o ++ (stepAt k (cr (getR ps i)) (cr (getR ps ((i + 1) % ps.length)))).map uncr) ((i + 1 : Nat) : Int) := by
  have e1 : decide ((i : Int) < (ps.length : Int)) = true := decide_eq_true (by omega)
  have e2 := inR_ok hi
  have e3 : ((ps.length : Int) != 0) = true := by rw [bne_iff_ne]; omega
  have e4 := nxt_mod hi hn
  have e5 := inR_ok (nxt_lt hi)
  have ha := hp i hi
  have hb := hp _ (nxt_lt hi)
  have e6 := Ffar_eq (K := K) hk ha
  have e7 := Ffar_eq (K := K) hk hb
  have e8 := wrap_nxt (i := i) (by omega)
  have r1 : room (o.length + ([getR ps i] : List TCorner).length) 80 = true := room80 (by simp; omega)
  have r2 : ∀ x : TCorner, room ((o ++ [getR ps i]).length + ([x] : List TCorner).length) 80 = true := fun x => room80 (by simp; omega)
  have r3 : ∀ x : TCorner, room (o.length + ([x] : List TCorner).length) 80 = true := fun x => room80 (by simp; omega)
  rw [FR15_At_3]
  simp only [e1, e2, e3, e4, e5, cond_true, Int.toNat_natCast, e6, e7, Option.bind_some, r1]
  by_cases h1 : 0 ≤ farC k (cr (getR ps i))
  · have d1 : decide (farC k (cr (getR ps i)) ≥ 0) = true := decide_eq_true h1
    by_cases h2 : 0 ≤ farC k (cr (getR ps ((i + 1) % ps.length)))
    · have d2 : decide (farC k (cr (getR ps ((i + 1) % ps.length))) ≥ 0) = true := decide_eq_true h2
      simp only [d1, d2, cond_true, cond_false, Bool.not_true, e8]
      refine congrArg (fun l => FR15_At_3 k ps K l _) ?_
      unfold stepAt; rw [if_pos h1, if_pos h2]; rfl
    · have d2 : decide (farC k (cr (getR ps ((i + 1) % ps.length))) ≥ 0) = false := decide_eq_false h2
      simp only [d1, d2, cond_true, cond_false, Bool.not_true, Bool.not_false, e8, Fcut_eq hk ha hb h1 h2, Option.bind_some, r2]
      refine congrArg (fun l => FR15_At_3 k ps K l _) ?_
      unfold stepAt; rw [if_pos h1, if_neg h2, List.append_assoc]; rfl
  · have d1 : decide (farC k (cr (getR ps i)) ≥ 0) = false := decide_eq_false h1
    by_cases h2 : 0 ≤ farC k (cr (getR ps ((i + 1) % ps.length)))
    · have d2 : decide (farC k (cr (getR ps ((i + 1) % ps.length))) ≥ 0) = true := decide_eq_true h2
      simp only [d1, d2, cond_true, cond_false, Bool.not_true, Bool.not_false, e8, Fcut_eq hk hb ha h2 h1, Option.bind_some, r3]
      refine congrArg (fun l => FR15_At_3 k ps K l _) ?_
      unfold stepAt; rw [if_neg h1, if_pos h2]; rfl
    · have d2 : decide (farC k (cr (getR ps ((i + 1) % ps.length))) ≥ 0) = false := decide_eq_false h2
      simp only [d1, d2, cond_true, cond_false, Bool.not_true, Bool.not_false, e8]
      refine congrArg (fun l => FR15_At_3 k ps K l _) ?_
      unfold stepAt; rw [if_neg h1, if_neg h2]; exact (List.append_nil o).symm

theorem loop22 (hk : 0 ≤ k ∧ k ≤ 6) (hp : MayT ps) (hn : ps.length ≤ 100000) : ∀ (d i K : Nat) (o : List TCorner), i + d = ps.length → d < K → o.length + 2 * d ≤ 300000 → FR15_At_3 k ps K o (i : Int) = some (o ++ (flat k (ps.map cr) d i).map uncr)
  | 0, i, K + 1, o, h, hK, ho => by
    have e1 : decide ((i : Int) < (ps.length : Int)) = false := decide_eq_false (by omega)
    rw [FR15_At_3]
    simp only [e1, cond_false]
    exact congrArg some (List.append_nil o).symm
  | d + 1, i, K + 1, o, h, hK, ho => by
    have hl := step_len (k := k) (cr (getR ps i)) (cr (getR ps ((i + 1) % ps.length)))
    rw [step22 hk (by omega) hp hn (by omega), loop22 hk hp hn d (i + 1) K _ (by omega) (by omega) (by rw [List.length_append, List.length_map]; omega), flat_T, List.append_assoc]
  | _, _, 0, _, _, hK, _ => absurd hK (Nat.not_lt_zero _)
theorem FR15_At_at (hk : 0 ≤ k ∧ k ≤ 6) (hp : MayT ps) (hn : ps.length ≤ 100000) (hK : ps.length < K) : FR15_At K k ps = some (atT k ps) := by
  have h := loop22 hk hp hn ps.length 0 K [] (by omega) hK (by simp; omega)
  unfold FR15_At
  rw [show ((0 : Int)) = ((0 : Nat) : Int) from rfl, h, List.nil_append, atT, atL, List.length_map]

theorem loop25 {a0 : List TCorner} : ∀ (d j K : Nat) (ps : List TCorner), j + d = 7 → MayT ps → ps.length * 2 ^ d ≤ 4096 → 4200 + d < K → FR15_All_3 a0 K ps (j : Int) = some (plT d j ps)
  | 0, j, K + 1, ps, h, hp, hl, hK => by
    have e1 : decide ((j : Int) < 7) = false := decide_eq_false (by omega)
    rw [FR15_All_3]
    simp only [e1, cond_false]
    rfl
  | d + 1, j, K + 1, ps, h, hp, hl, hK => by
    have e1 : decide ((j : Int) < 7) = true := decide_eq_true (by omega)
    have hk : 0 ≤ (j : Int) ∧ (j : Int) ≤ 6 := by omega
    have h2 : ps.length ≤ 4096 := Nat.le_trans (Nat.le_mul_of_pos_right _ (Nat.pow_pos (by decide))) hl
    have h3 := atT_len (k := (j : Int)) (ps := ps)
    have h4 : (atT j ps).length * 2 ^ d ≤ 4096 := by
      rw [Nat.pow_succ] at hl
      have := Nat.mul_le_mul_right (2 ^ d) h3
      have e : ps.length * (2 ^ d * 2) = 2 * ps.length * 2 ^ d := by rw [Nat.mul_comm (2 ^ d) 2, ← Nat.mul_assoc, Nat.mul_comm ps.length 2]
      omega
    rw [FR15_All_3]
    simp only [e1, cond_true, FR15_At_at hk hp (by omega) (show ps.length < K by omega), Option.bind_some, wrap_nxt (show j ≤ 1000000 by omega)]
    rw [loop25 d (j + 1) K _ (by omega) (atT_may hk hp) h4 (by omega)]
    rfl
  | _, _, 0, _, _, _, _, hK => absurd hK (Nat.not_lt_zero _)

end

end

section
open Go Go.Dt Go.Proofs Go.Proofs.YtegmkkpdckolkaaGreat.Clip Go.Proofs.YtegmkkpdckolkaaGreat.Pol Go.Proofs.YtegmkkpdckolkaaGreat.Wide
set_option linter.unusedVariables false
set_option linter.unusedSimpArgs false

section
variable {s : TState} {t : A3TVertex} (hs : (Fst s != 0) = false) (ht : goodT t)
include hs ht
theorem FR15_All_eq {K : Nat} (hK : 5000 < K) : FR15_All K (cornL s t) = some (leftL s t) := by
  have hl : (cornL s t).length = 3 := rfl
  have r : room (cornL s t).length 80 = true := room80 (by omega)
  have e0 : ((0 : Nat) : Int) = 0 := rfl
  have a := loop25 (a0 := cornL s t) 7 0 K (cornL s t) rfl (corn_may hs ht) (by omega) (by omega)
  rw [e0] at a
  unfold FR15_All
  simp only [r, cond_true]
  exact a
theorem FR25_Poly_eq {K : Nat} (hK : 5000 < K) : FR25_Poly K s t = some (leftL s t) := by
  obtain ⟨hm, -⟩ := st_ok hs
  have e := FR15_All_eq hs ht hK
  unfold cornL at e
  unfold FR25_Poly
  simp only [FR24_Corner_eq hm ht.1, FR24_Corner_eq hm ht.2.1, FR24_Corner_eq hm ht.2.2, Option.bind_some, e]
end
section
variable {ps : List TCorner} {v : TRect} (hp : MayT ps) (hw : WT ps) (hv : viewOk v) (hn : ps.length ≤ 1000)
include hp hw hv hn
theorem rtris_loop {s : TState} {t : A3TVertex} (hsv : s.View = v) (h1 : 0 ≤ s.Cull) (h2 : s.Cull ≤ 2) : ∀ (d i K : Nat) (o : List TTri), d = ps.length - (i + 1) → 1 ≤ i → i + d ≤ 2000 → d < K → o.length + d ≤ 2000 → FR25_Tris_4 s t K ps o (i : Int) = some (o ++ fan s.Cull (ps.map (snapV v)) d (i + 1))
  | 0, i, K + 1, o, h, hi, hi2, hK, ho => by
    have e1 : decide (((i + 1 : Nat) : Int) < (ps.length : Int)) = false := decide_eq_false (by omega)
    rw [FR25_Tris_4]
    simp only [wrap_nxt (show i ≤ 1000000 by omega), e1, cond_false]
    show _ = some (o ++ [])
    rw [List.append_nil]
  | d + 1, i, K + 1, o, h, hi, hi2, hK, ho => by
    have w := wrap_nxt (show i ≤ 1000000 by omega)
    have e1 : decide (((i + 1 : Nat) : Int) < (ps.length : Int)) = true := decide_eq_true (by omega)
    have e2 := inR_ok (show i + 1 < ps.length by omega)
    have e3 := inR_ok (show 0 < ps.length by omega)
    have e4 := inR_ok (show i < ps.length by omega)
    have m : ∀ j, j < ps.length → Fmay (getR ps j) = true := fun j hj => mayB_iff.2 (hp j hj)
    have s1 := FR16_Snap_eq (m 0 (by omega)) (hw 0 (by omega)) hv K
    have s2 := FR16_Snap_eq (m i (by omega)) (hw i (by omega)) hv K
    have s3 := FR16_Snap_eq (m (i + 1) (by omega)) (hw (i + 1) (by omega)) hv K
    have hq : maysQ ⟨snapV v (getR ps 0), snapV v (getR ps i), snapV v (getR ps (i + 1))⟩ := ⟨mays_snap (m 0 (by omega)), mays_snap (m i (by omega)), mays_snap (m (i + 1) (by omega))⟩
    have e6 := FR17_Setup_eq hq h1 h2 K
    have r1 : ∀ x : TTri, room (o.length + ([x] : List TTri).length) 256 = true := fun x => room256 (by simp; omega)
    have e7 : ((0 : Nat) : Int) = 0 := rfl
    rw [e7] at e3
    rw [FR25_Tris_4, fan, getR_map _ _ (show 0 < ps.length by omega), getR_map _ _ (show i + 1 - 1 < ps.length by omega), getR_map _ _ (show i + 1 < ps.length by omega)]
    simp only [hsv, w, e1, e2, e3, e4, s1, s2, s3, e6, cond_true, Int.toNat_natCast, Option.bind_some, r1, Nat.add_sub_cancel]
    cases hc : (setV ⟨snapV v (getR ps 0), snapV v (getR ps i), snapV v (getR ps (i + 1))⟩ s.Cull).2 with
    | false =>
      simp only [cond_false]
      rw [if_neg (by decide), rtris_loop hsv h1 h2 d (i + 1) K o (by omega) (by omega) (by omega) (by omega) (by omega)]
      rfl
    | true =>
      simp only [cond_true]
      rw [if_pos trivial, rtris_loop hsv h1 h2 d (i + 1) K _ (by omega) (by omega) (by omega) (by omega) (by rw [List.length_append]; simp; omega), List.append_assoc]
  | _, _, 0, _, _, _, _, hK, _ => absurd hK (Nat.not_lt_zero _)
end
section
variable {s : TState} {t : A3TVertex} (hs : (Fst s != 0) = false) (ht : goodT t)
include hs ht
theorem FR25_Tris_eq {K : Nat} (hK : 5000 < K) : FR25_Tris K s t = some (trisL s t) := by
  obtain ⟨hm, hv, h1, h2⟩ := st_ok hs
  have l := left_len (s := s) (t := t)
  have e := FR25_Poly_eq hs ht hK
  have a := left_may hs ht
  have b := left_w hs ht
  unfold FR25_Tris trisL spotL
  rw [e, List.length_map]
  generalize leftL s t = q0 at *
  exact rtris_loop (s := s) (t := t) a b hv (by omega) rfl h1 h2 (q0.length - 2) 1 K [] rfl (by decide) (by omega) (by omega) (by simp; omega)
end
theorem same_loop {l : List TTri} (hn : l.length ≤ 1000) : ∀ (d i K : Nat), i + d = l.length → d < K → FR25_Same_4 l l K (i : Int) = some true
  | 0, i, K + 1, h, hK => by
    have e1 : decide ((i : Int) < (l.length : Int)) = false := decide_eq_false (by omega)
    rw [FR25_Same_4]
    simp only [e1, cond_false]
  | d + 1, i, K + 1, h, hK => by
    have e1 : decide ((i : Int) < (l.length : Int)) = true := decide_eq_true (by omega)
    have e2 := inR_ok (show i < l.length by omega)
    rw [FR25_Same_4]
    simp only [e1, e2, cond_true, cond_false, Int.toNat_natCast, wrap_nxt (show i ≤ 1000000 by omega), beq_self_eq_true, Bool.and_self, Bool.not_true]
    exact same_loop hn d (i + 1) K (by omega) (by omega)
  | _, _, 0, _, hK => absurd hK (Nat.not_lt_zero _)
theorem FR25_Same_eq {l : List TTri} (hn : l.length ≤ 1000) {K : Nat} (hK : 1000 < K) : FR25_Same K l l = some true := by
  unfold FR25_Same
  have e : ((l.length : Int) != (l.length : Int)) = false := by simp
  simp only [e, cond_false]
  exact same_loop hn l.length 0 K (by omega) (by omega)
theorem law_loop {s : TState} {t : A3TVertex} {l : List TTri} (hn : l.length ≤ 1000) (hl : ∀ q, q ∈ l → maysQ q.S ∧ setV q.S 0 = (q, true)) (haw : ∀ K, 5000 < K → FL25_awake K = some true) : ∀ (d i K : Nat), i + d = l.length → 5001 + d < K → FL25_GeomTris_11 s t K l (i : Int) = some true
  | 0, i, K + 1, h, hK => by
    have e1 : decide ((i : Int) < (l.length : Int)) = false := decide_eq_false (by omega)
    rw [FL25_GeomTris_11]
    simp only [e1, cond_false]
    rcases Nat.lt_or_ge 5000 K with h2 | h2
    · rw [haw K h2]; rfl
    · omega
  | d + 1, i, K + 1, h, hK => by
    have e1 : decide ((i : Int) < (l.length : Int)) = true := decide_eq_true (by omega)
    have hi : i < l.length := by omega
    have e2 := inR_ok hi
    have hm : getR l i ∈ l := by
      unfold getR
      rw [List.getD_eq_getElem?_getD, List.getElem?_eq_getElem hi]
      exact List.getElem_mem hi
    obtain ⟨h3, h4⟩ := hl _ hm
    have e6 := Ftri_Setup_eq h3 (cu := 0) (by decide) (by decide) K
    rw [h4] at e6
    have z0 : ((0 : Int) != 0) = false := rfl
    rw [FL25_GeomTris_11]
    simp only [e1, e2, e6, z0, cond_true, cond_false, Option.bind_some, Int.toNat_natCast, wrap_nxt (show i ≤ 1000000 by omega), beq_self_eq_true, Bool.and_self, Bool.not_true]
    exact law_loop hn hl haw d (i + 1) K (by omega) (by omega)
  | _, _, 0, _, hK => absurd hK (Nat.not_lt_zero _)
theorem awake_ok : ∀ K, 5000 < K → FL25_awake K = some true := fun K hK => by
  obtain ⟨n, rfl⟩ : ∃ n, K = n + 100 := ⟨K - 100, by omega⟩
  kernel_rfl
theorem FL25_GeomTris_eq (s : TState) (t : A3TVertex) : FL25_GeomTris 10000 s t = some true := by
  have aw := awake_ok 10000 (by decide)
  unfold FL25_GeomTris
  cases hs : (Fst s != 0) with
  | true =>
    rw [Fgeom_Tris_st hs]
    simp only [Option.bind_some, cond_true, beq_self_eq_true, aw]
    rfl
  | false =>
    rcases chk_cases (t := t) with ⟨e, h1, h2⟩ | ⟨h1, ht⟩
    · rw [Fgeom_Tris_chk hs h1 h2 (by decide), FR25_Check_eq, h1]
      simp only [Option.bind_some, cond_true, cond_false, beq_self_eq_true, aw, h2]
      rfl
    · have z0 : ((0 : Int) != 0) = false := rfl
      have e1 := Fgeom_Tris_eq hs ht h1 (show 5000 < 10000 by decide)
      have e2 := FR25_Tris_eq hs ht (show 5000 < 10000 by decide)
      have l : (trisL s t).length ≤ 384 := by
        have := fan_len (l := spotL s t) s.Cull ((spotL s t).length - 2) 2
        have := spot_len (s := s) (t := t)
        unfold trisL
        omega
      have ag := trisL_again hs ht
      rw [e1, FR25_Check_eq, h1]
      simp only [Option.bind_some, cond_false, z0, e2]
      generalize trisL s t = q0 at *
      rw [FR25_Same_eq (l := q0) (by omega) (by decide)]
      simp only [Option.bind_some, cond_false, Bool.not_true]
      exact law_loop (by omega) ag awake_ok q0.length 0 10000 (by omega) (by omega)
theorem geomTris_walk (s : TState) (t : A3TVertex) : Con Tryz.prog 3 [.agg ⟨flTState.cells s⟩, .agg ⟨flA3TVertex.cells t⟩] (.bool true) := cL25_GeomTris 10000 s t true (FL25_GeomTris_eq s t)

end

end Go.Proofs.YtegmkkpdckolkaaGreat.Lf
