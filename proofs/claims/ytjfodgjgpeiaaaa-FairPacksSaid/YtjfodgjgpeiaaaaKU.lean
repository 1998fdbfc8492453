/- FairPacks: the law is true. -/
import Derived.Test.YtjfodgjgpeiaaaaKT
namespace Go.Proofs.Ytjfodgjgpeiaaaa.Lf
open Go Go.Dt Go.Proofs Go.Proofs.Ytjfodgjgpeiaaaa.Wide
set_option linter.unusedVariables false
set_option linter.unusedSimpArgs false

theorem loop27 (a : List Int) (ha : a.length ≤ 100000) : ∀ (d i K : Nat), i + d = a.length → d < K → F27_4 a a K (i : Int) = some true
  | 0, i, K + 1, h, hK => by
    have e1 : decide ((i : Int) < (a.length : Int)) = false := decide_eq_false (by omega)
    rw [F27_4, e1, cond_false]
  | d + 1, i, K + 1, h, hK => by
    have e1 : decide ((i : Int) < (a.length : Int)) = true := decide_eq_true (by omega)
    have e2 := inR_ok (show i < a.length by omega)
    rw [F27_4, e1, cond_true, e2, cond_true, cond_true, bne_self_eq_false, cond_false, wrap_nxt (by omega)]
    exact loop27 a ha d (i + 1) K (by omega) (by omega)
  | _, _, 0, _, hK => absurd hK (Nat.not_lt_zero _)
theorem same27 (a : List Int) (ha : a.length ≤ 100000) (K : Nat) (hK : a.length < K) : F27 K a a = some true := by
  unfold F27
  rw [bne_self_eq_false, cond_false]
  exact loop27 a ha a.length 0 K (by omega) hK

theorem loop5 {a0 a : List Int} {l p : List TFairBurst} {n : Nat} (g : Good a0 p n) (hn : n ≤ 300) : ∀ (d i K : Nat), i + d = p.length → F6_5 a l (K + (d + 1)) p (i : Int) = F6_5 a l (K + 1) p (p.length : Int)
  | 0, i, K, h => by
    have : i = p.length := by omega
    rw [this]
  | d + 1, i, K, h => by
    have hlen := g.len
    have hi : i < p.length := by omega
    have e1 : decide ((i : Int) < (p.length : Int)) = true := decide_eq_true (by omega)
    have e2 := inR_ok hi
    have hb : getR p i ∈ p := by
      unfold getR
      rw [List.getD_eq_getElem?_getD, List.getElem?_eq_getElem hi]
      exact List.getElem_mem hi
    have e3 : decide ((getR p i).N < 1) = false := decide_eq_false (by have := g.num _ hb; omega)
    rw [show K + (d + 1 + 1) = (K + (d + 1)) + 1 by omega, F6_5, e1, cond_true, e2, cond_true]
    simp only [Int.toNat_natCast, e3, cond_false, wrap_nxt (show i ≤ 1000000 by omega)]
    by_cases h0 : i = 0
    · subst h0
      rw [show decide (((0 : Nat) : Int) > 0) = false from rfl, cond_false]
      exact loop5 g hn d 1 K (by omega)
    · have e4 : decide ((i : Int) > 0) = true := decide_eq_true (by omega)
      have e5 : IntKind.i64.wrap ((i : Int) - 1) = ((i - 1 : Nat) : Int) := by rw [wrapI (by omega) (by omega)]; omega
      have e6 := inR_ok (show i - 1 < p.length by omega)
      have e7 : ((getR p i).Who == (getR p (i - 1)).Who) = false := by
        have := g.adj i (by omega) hi
        simp [this]
      rw [e4, cond_true, e5, e6]
      simp only [Int.toNat_natCast, cond_true, cond_false, e7]
      exact loop5 g hn d (i + 1) K (by omega)

theorem un_take {l : List TFairBurst} {i : Nat} (h : i < l.length) : un l = un (l.take i) ++ (List.replicate (getR l i).N.toNat (getR l i).Who ++ un (l.drop (i + 1))) := by
  have e : l = l.take i ++ (getR l i :: l.drop (i + 1)) := by rw [← drop_getR l i h, List.take_append_drop]
  have h2 := congrArg un e
  rw [un_append] at h2
  exact h2
theorem un_take1 {l : List TFairBurst} {i : Nat} (h : i < l.length) : un (l.take (i + 1)) = un (l.take i) ++ List.replicate (getR l i).N.toNat (getR l i).Who := by
  have e : l.take (i + 1) = l.take i ++ [getR l i] := by
    rw [List.take_add_one]
    unfold getR
    rw [List.getD_eq_getElem?_getD, List.getElem?_eq_getElem h]
    rfl
  rw [e, un_append]
  congr 1
  exact List.append_nil _
theorem loop29 {a : List Int} {l : List TFairBurst} (hu : (un l).length ≤ 65536) {i : Nat} (hi : i < l.length) (hN : 0 ≤ (getR l i).N) : ∀ (d k K : Nat), k + d = (getR l i).N.toNat →
    F6_29 a l (K + (d + 1)) (un l) ((un (l.take i)).length : Int) (i : Int) (k : Int) = F6_26 a l K (un l) (IntKind.i64.wrap (((un (l.take i)).length : Int) + (getR l i).N)) (IntKind.i64.wrap ((i : Int) + 1))
  | 0, k, K, h => by
    have e2 := inR_ok hi
    have e1 : decide ((k : Int) < (getR l i).N) = false := decide_eq_false (by omega)
    rw [F6_29, e2, cond_true]
    simp only [Int.toNat_natCast, e1, cond_false, cond_true]
  | d + 1, k, K, h => by
    have e2 := inR_ok hi
    have e1 : decide ((k : Int) < (getR l i).N) = true := decide_eq_true (by omega)
    have hsplit := un_take hi
    have hlen : (un l).length = (un (l.take i)).length + ((getR l i).N.toNat + (un (l.drop (i + 1))).length) := by
      rw [hsplit]; simp
    have e3 : IntKind.i64.wrap (((un (l.take i)).length : Int) + (k : Int)) = (((un (l.take i)).length + k : Nat) : Int) := by rw [wrapI (by omega) (by omega)]; omega
    have e4 := inR_ok (show (un (l.take i)).length + k < (un l).length by omega)
    have e5 : getR (un l) ((un (l.take i)).length + k) = (getR l i).Who := by
      rw [hsplit]
      unfold getR
      rw [List.getD_eq_getElem?_getD, List.getElem?_append_right (by omega), Nat.add_sub_cancel_left, List.getElem?_append_left (by rw [List.length_replicate]; unfold getR at h; omega), List.getElem?_replicate, if_pos (by unfold getR at h; omega)]
      rfl
    rw [show K + (d + 1 + 1) = (K + (d + 1)) + 1 by omega, F6_29, e2, cond_true]
    simp only [Int.toNat_natCast, e1, cond_true, e3, e4, e5, bne_self_eq_false, cond_false, wrap_nxt (show k ≤ 1000000 by omega)]
    exact loop29 hu hi hN d (k + 1) K (by omega)
theorem loop26 {a : List Int} {l : List TFairBurst} (hu : (un l).length ≤ 65536) (hl : l.length ≤ 50) (hN : ∀ i, i < l.length → 0 ≤ (getR l i).N) : ∀ (d i K : Nat), i + d = l.length → (un (l.drop i)).length + 2 * d < K →
    F6_26 a l K (un l) ((un (l.take i)).length : Int) (i : Int) = some true
  | 0, i, K + 1, h, hK => by
    have e1 : decide ((i : Int) < (l.length : Int)) = false := decide_eq_false (by omega)
    rw [F6_26, e1, cond_false]
    rfl
  | d + 1, i, K + 1, h, hK => by
    have hi : i < l.length := by omega
    have e1 : decide ((i : Int) < (l.length : Int)) = true := decide_eq_true (by omega)
    have h0 := hN i hi
    have hlen := congrArg List.length (un_take hi)
    simp only [List.length_append, List.length_replicate] at hlen
    rw [drop_getR l i hi] at hK
    unfold un at hK
    rw [List.length_append, List.length_replicate] at hK
    rw [F6_26, e1, cond_true]
    have h29 := loop29 (a := a) hu hi h0 (getR l i).N.toNat 0 (K - ((getR l i).N.toNat + 1)) (by omega)
    rw [Nat.sub_add_cancel (by omega)] at h29
    refine h29.trans ?_
    have e2 : IntKind.i64.wrap (((un (l.take i)).length : Int) + (getR l i).N) = ((un (l.take (i + 1))).length : Int) := by
      rw [wrapI (by omega) (by omega), un_take1 hi, List.length_append, List.length_replicate]; omega
    rw [e2, wrap_nxt (by omega)]
    exact loop26 hu hl hN d (i + 1) _ (by omega) (by omega)
  | _, _, 0, _, hK => absurd hK (Nat.not_lt_zero _)
theorem loop15 {a : List Int} {l : List TFairBurst} (hl : l.length ≤ 50) (y : List Int × Int) : ∀ (d i K : Nat), i + d = l.length → picksR (l.drop i) (un (l.take i)) = y → (un (l.take i)).length ≤ 65536 → (∀ j, j < i → 0 ≤ (getR l j).N) → 66000 + d < K →
    F6_15 a l K y.1 y.2 ((un (l.take i)).length : Int) (i : Int) = some true
  | 0, i, K + 1, h, hy, ho, hN, hK => by
    have e1 : decide ((i : Int) < (l.length : Int)) = false := decide_eq_false (by omega)
    have hi : i = l.length := by omega
    subst hi
    rw [List.drop_length, List.take_length] at hy
    rw [List.take_length] at ho ⊢
    have hy : y = (un l, 0) := hy.symm
    subst hy
    rw [F6_15, e1, cond_false]
    simp only [bne_self_eq_false, cond_false]
    have h26 := loop26 (a := a) ho hl hN l.length 0 K (by omega) (by rw [List.drop_zero]; omega)
    exact h26
  | d + 1, i, K + 1, h, hy, ho, hN, hK => by
    have hi : i < l.length := by omega
    have e1 : decide ((i : Int) < (l.length : Int)) = true := decide_eq_true (by omega)
    have e2 := inR_ok hi
    rw [drop_getR l i hi] at hy
    unfold picksR at hy
    rw [F6_15, e1, cond_true, e2, cond_true]
    simp only [Int.toNat_natCast, cond_true]
    by_cases hn : (getR l i).N < 0
    · rw [if_pos hn] at hy
      subst hy
      rw [decide_eq_true hn, cond_true]
      rfl
    · rw [if_neg hn] at hy
      rw [decide_eq_false hn, cond_false, wrapI (x := 65536 - ((un (l.take i)).length : Int)) (by omega) (by omega)]
      by_cases hb : (getR l i).N > 65536 - ((un (l.take i)).length : Int)
      · rw [if_pos hb] at hy
        subst hy
        rw [decide_eq_true hb, cond_true]
        rfl
      · rw [if_neg hb] at hy
        rw [decide_eq_false hb, cond_false]
        have e3 : IntKind.i64.wrap (((un (l.take i)).length : Int) + (getR l i).N) = ((un (l.take (i + 1))).length : Int) := by
          rw [wrapI (by omega) (by omega), un_take1 hi, List.length_append, List.length_replicate]; omega
        rw [e3, wrap_nxt (by omega)]
        refine loop15 hl y d (i + 1) K (by omega) (by rw [un_take1 hi]; exact hy) (by rw [un_take1 hi, List.length_append, List.length_replicate]; omega) (fun j hj => ?_) (by omega)
        rcases Nat.lt_or_ge j i with hlt | hge
        · exact hN j hlt
        · have : j = i := by omega
          subst this; omega
  | _, _, 0, _, _, _, _, hK => absurd hK (Nat.not_lt_zero _)

theorem F6_true (a : List Int) (l : List TFairBurst) : F6 200000 a l = some true := by
  unfold F6
  by_cases h1 : (a.length : Int) > 300
  · rw [decide_eq_true h1, cond_true]; rfl
  · rw [decide_eq_false h1, cond_false]
    by_cases h2 : (l.length : Int) > 50
    · rw [decide_eq_true h2]; rfl
    · rw [decide_eq_false h2]
      simp only [cond_false]
      obtain ⟨p, hp, g⟩ := pack_ok a (by omega) 200000 (by decide)
      have hlen := g.len
      rw [hp, Option.bind_some]
      have h5 := loop5 (a := a) (l := l) g (by omega) p.length 0 (200000 - (p.length + 1)) (by omega)
      rw [Nat.sub_add_cancel (by omega)] at h5
      refine h5.trans ?_
      have e1 : decide ((p.length : Int) < (p.length : Int)) = false := decide_eq_false (by omega)
      have hun : un p = a := by rw [g.un, List.take_length]
      have hp2 : picksR p [] = (a, 0) := by
        rw [picksR_un p [] (fun b hb => by have := g.num b hb; omega) (by rw [List.nil_append, hun]; omega), List.nil_append, hun]
      rw [F6_5, e1, cond_false, picks_ok p (by omega) _ (by omega), Option.bind_some, hp2]
      simp only [bne_self_eq_false, cond_false, same27 a (by omega) (200000 - (p.length + 1)) (by omega), Option.bind_some, Bool.not_true, picks_ok l (by omega) (200000 - (p.length + 1)) (by omega)]
      exact loop15 (a := a) (by omega) (picksR l []) l.length 0 (200000 - (p.length + 1)) (by omega) rfl (by simp [un]) (fun j hj => absurd hj (Nat.not_lt_zero _)) (by omega)
theorem packs_walk (a0 : List Int) (a1 : List TFairBurst) : Con Try.prog 6 [lst a0, lst a1] (.bool true) := c6 200000 a0 a1 true (F6_true a0 a1)
end Go.Proofs.Ytjfodgjgpeiaaaa.Lf
