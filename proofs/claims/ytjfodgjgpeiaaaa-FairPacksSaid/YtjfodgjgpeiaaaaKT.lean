/- FairPacks: packing. -/
import Derived.Test.YtjfodgjgpeiaaaaKS
namespace Go.Proofs.Ytjfodgjgpeiaaaa.Lf
open Go Go.Dt Go.Proofs Go.Proofs.Ytjfodgjgpeiaaaa.Wide
set_option linter.unusedVariables false
set_option linter.unusedSimpArgs false

theorem getR_left {α : Type} [Flat α] (l m : List α) {i : Nat} (h : i < l.length) : getR (l ++ m) i = getR l i := by
  unfold getR
  rw [List.getD_eq_getElem?_getD, List.getD_eq_getElem?_getD, List.getElem?_append_left h]
theorem getR_last {α : Type} [Flat α] (l : List α) (x : α) {i : Nat} (h : i = l.length) : getR (l ++ [x]) i = x := by
  subst h
  unfold getR
  rw [List.getD_eq_getElem?_getD, List.getElem?_append_right (Nat.le_refl _), Nat.sub_self]
  rfl
structure Good (a : List Int) (p : List TFairBurst) (i : Nat) : Prop where
  un : un p = a.take i
  num : ∀ b, b ∈ p → 1 ≤ b.N ∧ b.N ≤ i
  adj : ∀ j, 0 < j → j < p.length → (getR p j).Who ≠ (getR p (j - 1)).Who
  len : p.length ≤ i
theorem take_snoc (a : List Int) {i : Nat} (h : i < a.length) : a.take (i + 1) = a.take i ++ [getR a i] := by
  rw [List.take_add_one]
  unfold getR
  rw [List.getD_eq_getElem?_getD, List.getElem?_eq_getElem h]
  rfl
theorem Good.push {a : List Int} {p : List TFairBurst} {i : Nat} (g : Good a p i) (h : i < a.length) (hw : ∀ q b, p = q ++ [b] → b.Who ≠ getR a i) : Good a (p ++ [⟨getR a i, 1⟩]) (i + 1) where
  un := by
    rw [un_append, g.un, take_snoc a h]
    rfl
  num := fun b hb => by
    rcases List.mem_append.1 hb with hb | hb
    · have := g.num b hb; omega
    · rw [List.mem_singleton] at hb
      subst hb
      show (1 : Int) ≤ 1 ∧ (1 : Int) ≤ ((i + 1 : Nat) : Int)
      omega
  adj := fun j h0 hj => by
    rw [List.length_append, List.length_singleton] at hj
    rcases Nat.lt_or_ge j p.length with hlt | hge
    · rw [getR_left _ _ hlt, getR_left _ _ (by omega)]
      exact g.adj j h0 hlt
    · have e : j = p.length := by omega
      subst e
      rw [getR_last p _ rfl, getR_left _ _ (by omega)]
      rcases List.eq_nil_or_concat p with rfl | ⟨q, b, rfl⟩
      · exact absurd h0 (Nat.lt_irrefl _)
      · rw [List.concat_eq_append] at hw ⊢
        rw [getR_last q b (by simp)]
        exact fun e => hw q b rfl e.symm
  len := by have := g.len; simp; omega
theorem Good.more {a : List Int} {q : List TFairBurst} {b : TFairBurst} {i : Nat} (g : Good a (q ++ [b]) i) (h : i < a.length) (hw : b.Who = getR a i) : Good a (q ++ [⟨b.Who, b.N + 1⟩]) (i + 1) where
  un := by
    have hb := g.num b (by simp)
    have h1 := g.un
    rw [un_append] at h1 ⊢
    rw [take_snoc a h, ← h1, List.append_assoc]
    congr 1
    show List.replicate (b.N + 1).toNat b.Who ++ [] = (List.replicate b.N.toNat b.Who ++ []) ++ [getR a i]
    rw [← hw, List.append_nil, List.append_nil, show (b.N + 1).toNat = b.N.toNat + 1 by omega, List.replicate_succ']
  num := fun c hc => by
    rcases List.mem_append.1 hc with hc | hc
    · have := g.num c (by simp [hc]); omega
    · rw [List.mem_singleton] at hc
      subst hc
      have := g.num b (by simp)
      show 1 ≤ b.N + 1 ∧ b.N + 1 ≤ ((i + 1 : Nat) : Int)
      omega
  adj := fun j h0 hj => by
    rw [List.length_append, List.length_singleton] at hj
    have hj2 : j < (q ++ [b]).length := by simp; omega
    have := g.adj j h0 hj2
    rw [getR_left q [b] (show j - 1 < q.length by omega)] at this
    rw [getR_left q _ (show j - 1 < q.length by omega)]
    rcases Nat.lt_or_ge j q.length with hlt | hge
    · rw [getR_left _ _ hlt] at this ⊢
      exact this
    · have e : j = q.length := by omega
      rw [getR_last q _ e] at this ⊢
      exact this
  len := by have := g.len; simp at this ⊢; omega
theorem room16 {n : Nat} (h : n ≤ 1000000) : room n 16 = true := by
  simp only [room, Bool.and_eq_true, decide_eq_true_eq]
  omega
theorem pack_loop (a : List Int) (ha : a.length ≤ 300) : ∀ (d i K : Nat) (p : List TFairBurst), i + d = a.length → d < K → Good a p i → ∃ r, F25_3 a K p (i : Int) = some r ∧ Good a r a.length
  | 0, i, K + 1, p, h, hK, g => by
    have e1 : decide ((i : Int) < (a.length : Int)) = false := decide_eq_false (by omega)
    have : i = a.length := by omega
    refine ⟨p, ?_, this ▸ g⟩
    rw [F25_3, e1, cond_false]
  | d + 1, i, K + 1, p, h, hK, g => by
    have hi : i < a.length := by omega
    have e1 : decide ((i : Int) < (a.length : Int)) = true := decide_eq_true (by omega)
    have e2 := inR_ok hi
    have hlen := g.len
    have r1 : room (p.length + ([(⟨getR a i, 1⟩ : TFairBurst)] : List TFairBurst).length) 16 = true := room16 (by simp; omega)
    rw [F25_3, e1, cond_true, e2, cond_true]
    simp only [Int.toNat_natCast, wrap_nxt (show i ≤ 1000000 by omega), r1, cond_true]
    rcases List.eq_nil_or_concat p with rfl | ⟨q, b, rfl⟩
    · have e3 : decide (((([] : List TFairBurst).length : Nat) : Int) > 0) = false := rfl
      rw [e3, cond_false]
      exact pack_loop a ha d (i + 1) K _ (by omega) (by omega) (g.push hi fun q b e => by simp at e)
    · rw [List.concat_eq_append] at g hlen ⊢
      have hql : (q ++ [b]).length = q.length + 1 := by simp
      have e3 : decide ((((q ++ [b]).length : Nat) : Int) > 0) = true := decide_eq_true (by rw [hql]; omega)
      have e4 : IntKind.i64.wrap ((((q ++ [b]).length : Nat) : Int) - 1) = (q.length : Int) := by rw [wrapI (by omega) (by omega), hql]; omega
      have e5 := inR_ok (show q.length < (q ++ [b]).length by omega)
      rw [e3, cond_true, e4, e5, cond_true]
      simp only [Int.toNat_natCast, getR_last q b rfl, cond_true]
      cases hw : (b.Who == getR a i) with
      | true =>
        have hw' : b.Who = getR a i := eq_of_beq hw
        have hb := g.num b (by simp)
        have e6 : (q ++ [b]).set q.length (⟨b.Who, IntKind.i64.wrap (b.N + 1)⟩ : TFairBurst) = q ++ [⟨b.Who, b.N + 1⟩] := by
          rw [List.set_append_right _ _ (Nat.le_refl _), Nat.sub_self, wrapI (by omega) (by omega)]
          rfl
        rw [cond_true, e6]
        exact pack_loop a ha d (i + 1) K _ (by omega) (by omega) (g.more hi hw')
      | false =>
        rw [cond_false]
        refine pack_loop a ha d (i + 1) K _ (by omega) (by omega) (g.push hi fun q' b' e => ?_)
        have e7 := List.append_inj' e rfl
        have e8 : b' = b := by simpa using e7.2.symm
        subst e8
        exact fun e => by rw [e] at hw; simp at hw
  | _, _, 0, _, _, hK, _ => absurd hK (Nat.not_lt_zero _)
theorem pack_ok (a : List Int) (ha : a.length ≤ 300) (K : Nat) (hK : 400 < K) : ∃ r, F25 K a = some r ∧ Good a r a.length :=
  pack_loop a ha a.length 0 K [] (by omega) (by omega) ⟨rfl, fun b h => (by cases h), fun j _ h => (by cases h), Nat.le_refl _⟩
end Go.Proofs.Ytjfodgjgpeiaaaa.Lf
