/- slices.Repeat of one number; bursts. -/
import Derived.Test.YtjfodgjgpeiaaaaLD
namespace Go.Proofs.Ytjfodgjgpeiaaaa.Lf
open Go Go.Dt Go.Proofs Go.Proofs.Ytjfodgjgpeiaaaa.Wide
set_option linter.unusedVariables false
set_option linter.unusedSimpArgs false

theorem wrapI {x : Int} (h1 : -9223372036854775808 ≤ x) (h2 : x ≤ 9223372036854775807) : IntKind.i64.wrap x = x := wrap_i64_of h1 h2
theorem inR_ok {i n : Nat} (h : i < n) : inR (i : Int) n = true := by
  simp only [inR, Bool.and_eq_true, decide_eq_true_eq]
  omega
theorem cutOk_mk {n : Nat} {l h : Int} (h1 : 0 ≤ l) (h2 : l ≤ h) (h3 : h ≤ n) : cutOk n l h = true := by
  simp only [cutOk, Bool.and_eq_true, decide_eq_true_eq]
  omega

theorem fill_step (w : Int) (n d : Nat) (hn : 1 ≤ n) (hd : 1 ≤ d) :
    cpL (List.replicate n w ++ List.replicate d 0) n ((List.replicate n w ++ List.replicate d (0 : Int)).length - n) (List.take (n - 0) (List.drop 0 (List.replicate n w ++ List.replicate d 0))) = List.replicate (n + Nat.min n d) w ++ List.replicate (d - Nat.min n d) 0 := by
  have e1 : (List.replicate n w ++ List.replicate d (0 : Int)).length - n = d := by simp
  have e2 : List.take (n - 0) (List.drop 0 (List.replicate n w ++ List.replicate d (0 : Int))) = List.replicate n w := by simp
  rw [e1, e2]
  unfold cpL
  rw [List.length_replicate, List.take_left' (by simp), List.take_replicate, Nat.min_eq_left (Nat.min_le_left n d)]
  have e3 : (List.replicate n w ++ List.replicate d (0 : Int)).drop (n + Nat.min n d) = List.replicate (d - Nat.min n d) 0 := by
    rw [List.drop_append, List.drop_eq_nil_of_le (by simp), List.nil_append, List.length_replicate, Nat.add_sub_cancel_left, List.drop_replicate]
  rw [e3, List.replicate_append_replicate]

theorem fill_loop (a0 : List Int) (a1 w : Int) : ∀ (f d n K : Nat), d ≤ f → d < K → (1 ≤ n ∨ d = 0) → n + d ≤ 65536 → F63_8 a0 a1 K (List.replicate n w ++ List.replicate d 0) (n : Int) = some (List.replicate (n + d) w)
  | f, 0, n, K + 1, hf, hK, hn, hl => by
    have e1 : decide ((n : Int) < ((List.replicate n w ++ List.replicate 0 (0 : Int)).length : Int)) = false := decide_eq_false (by simp)
    rw [F63_8, e1, cond_false]
    simp
  | f + 1, d + 1, n, K + 1, hf, hK, hn, hl => by
    have hn : 1 ≤ n := by omega
    have hlen : (List.replicate n w ++ List.replicate (d + 1) (0 : Int)).length = n + (d + 1) := by simp
    have e1 : decide ((n : Int) < ((List.replicate n w ++ List.replicate (d + 1) (0 : Int)).length : Int)) = true := decide_eq_true (by rw [hlen]; omega)
    have c1 : cutOk (List.replicate n w ++ List.replicate (d + 1) (0 : Int)).length ((some (n : Int)).getD 0) ((Option.none : Option Int).getD ((List.replicate n w ++ List.replicate (d + 1) (0 : Int)).length : Int)) = true := by
      rw [hlen]; exact cutOk_mk (by simp) (by simp; omega) (by simp)
    have c2 : cutOk (List.replicate n w ++ List.replicate (d + 1) (0 : Int)).length ((Option.none : Option Int).getD 0) ((some (n : Int)).getD ((List.replicate n w ++ List.replicate (d + 1) (0 : Int)).length : Int)) = true := by
      rw [hlen]; exact cutOk_mk (by simp) (by simp) (by simp; omega)
    have c3 : (Nat.ble ((n : Int).toNat + ((List.replicate n w ++ List.replicate (d + 1) (0 : Int)).length - (n : Int).toNat)) (List.replicate n w ++ List.replicate (d + 1) (0 : Int)).length && Nat.ble (0 + ((n : Int).toNat - 0)) (List.replicate n w ++ List.replicate (d + 1) (0 : Int)).length) = true := by
      rw [hlen, Int.toNat_natCast, Bool.and_eq_true]
      exact ⟨Nat.ble_eq_true_of_le (by omega), Nat.ble_eq_true_of_le (by omega)⟩
    rw [F63_8, e1, cond_true, c1, cond_true, c2, cond_true, c3, cond_true]
    simp only [Int.toNat_natCast]
    rw [fill_step w n (d + 1) hn (by omega)]
    have hm : 1 ≤ Nat.min n (d + 1) := Nat.le_min.2 ⟨hn, by omega⟩
    have hm2 : Nat.min n (d + 1) ≤ d + 1 := Nat.min_le_right _ _
    have e5 : (List.take (n - 0) (List.drop 0 (List.replicate n w ++ List.replicate (d + 1) (0 : Int)))).length.min ((List.replicate n w ++ List.replicate (d + 1) (0 : Int)).length - n) = Nat.min n (d + 1) := by
      rw [hlen, Nat.add_sub_cancel_left]
      simp
    rw [e5, wrapI (by omega) (by omega)]
    have h := fill_loop a0 a1 w f (d + 1 - Nat.min n (d + 1)) (n + Nat.min n (d + 1)) K (by omega) (by omega) (by omega) (by omega)
    rw [show n + Nat.min n (d + 1) + (d + 1 - Nat.min n (d + 1)) = n + (d + 1) by omega] at h
    exact h
  | 0, d + 1, _, _, hf, _, _, _ => absurd hf (by omega)
  | _, _, _, 0, _, hK, _, _ => absurd hK (Nat.not_lt_zero _)

theorem wrapU {x : Int} (h1 : 0 ≤ x) (h2 : x ≤ 18446744073709551615) : IntKind.u64.wrap x = x := wrap_u64_of h1 h2
theorem rep_ok (w N : Int) (K : Nat) (h0 : 0 ≤ N) (h1 : N ≤ 65536) (hK : 65537 < K) : F63 K [w] N = some (List.replicate N.toNat w) := by
  obtain ⟨n, rfl⟩ : ∃ n : Nat, N = n := ⟨N.toNat, by omega⟩
  have hn : n ≤ 65536 := by omega
  have d1 : decide ((n : Int) < 0) = false := decide_eq_false (by omega)
  have hF : F86 K (IntKind.u64.wrap (([w] : List Int).length : Int)) (IntKind.u64.wrap (n : Int)) = some (0, (n : Int)) := by
    unfold F86 F72
    rw [wrapU (x := ((([w] : List Int).length : Nat) : Int)) (by simp) (by simp), wrapU (x := (n : Int)) (by omega) (by omega)]
    have hu : (inU ((([w] : List Int).length : Nat) : Int) && inU (n : Int)) = true := by
      simp only [inU, Bool.and_eq_true, decide_eq_true_eq, List.length_singleton]
      omega
    rw [hu, cond_true]
    have g1 : (((([w] : List Int).length : Nat) : Int) * (n : Int)) / 18446744073709551616 = 0 := by simp only [List.length_singleton]; omega
    have g2 : (((([w] : List Int).length : Nat) : Int) * (n : Int)) % 18446744073709551616 = n := by simp only [List.length_singleton]; omega
    rw [g1, g2]
    rfl
  have d2 : decide ((n : Int) > 9223372036854775807) = false := decide_eq_false (by omega)
  have hm : mkOk (n : Int) (n : Int) 8 = true := by
    simp only [mkOk, Bool.and_eq_true, decide_eq_true_eq]
    omega
  have hb : Nat.ble (0 + (List.replicate n (0 : Int)).length) (List.replicate n (0 : Int)).length = true := Nat.ble_eq_true_of_le (by omega)
  unfold F63
  rw [d1, cond_false, hF, Option.bind_some]
  simp only [d2, cond_false, show decide ((0 : Int) > 0) = false from rfl, wrapI (x := (n : Int)) (by omega) (by omega), hm, cond_true, Int.toNat_natCast, hb]
  cases n with
  | zero =>
    have h := fill_loop [w] (0 : Nat) w 0 0 0 K (by omega) (by omega) (.inr rfl) (by omega)
    exact h
  | succ m =>
    have e : cpL (List.replicate (m + 1) (0 : Int)) 0 (List.replicate (m + 1) (0 : Int)).length [w] = List.replicate 1 w ++ List.replicate m 0 := by
      unfold cpL
      simp [List.replicate_succ, Nat.min_def]
    have e2 : ((([w] : List Int).length.min (List.replicate (m + 1) (0 : Int)).length : Nat) : Int) = ((1 : Nat) : Int) := by
      simp [Nat.min_def]
    rw [e, e2, fill_loop [w] ((m + 1 : Nat) : Int) w m m 1 K (by omega) (by omega) (.inl (by omega)) (by omega), Nat.add_comm 1 m]

/-! ### Bursts, unpacked -/
def un : List TFairBurst → List Int
  | [] => []
  | b :: l => List.replicate b.N.toNat b.Who ++ un l
def picksR : List TFairBurst → List Int → List Int × Int
  | [], o => (o, 0)
  | b :: l, o => if b.N < 0 then ([], 2) else if b.N > 65536 - o.length then ([], 4) else picksR l (o ++ List.replicate b.N.toNat b.Who)
theorem drop_getR {α : Type} [Flat α] (l : List α) (i : Nat) (h : i < l.length) : l.drop i = getR l i :: l.drop (i + 1) := by
  rw [List.drop_eq_getElem_cons h]
  unfold getR
  rw [List.getD_eq_getElem?_getD, List.getElem?_eq_getElem h]
  rfl
theorem wrap_nxt {i : Nat} (h : i ≤ 1000000) : IntKind.i64.wrap ((i : Int) + 1) = ((i + 1 : Nat) : Int) := by
  rw [wrapI (by omega) (by omega)]; omega
theorem room8 {n : Nat} (h : n ≤ 1000000) : room n 8 = true := by
  simp only [room, Bool.and_eq_true, decide_eq_true_eq]
  omega
theorem picks_loop (l : List TFairBurst) (hl : l.length ≤ 1000) : ∀ (d i K : Nat) (o : List Int), i + d = l.length → 65600 + d < K → o.length ≤ 65536 → F26_3 l K o (i : Int) = some (picksR (l.drop i) o)
  | 0, i, K + 1, o, h, hK, ho => by
    have e1 : decide ((i : Int) < (l.length : Int)) = false := decide_eq_false (by omega)
    rw [F26_3, e1, cond_false, List.drop_eq_nil_of_le (by omega)]
    rfl
  | d + 1, i, K + 1, o, h, hK, ho => by
    have e1 : decide ((i : Int) < (l.length : Int)) = true := decide_eq_true (by omega)
    have e2 := inR_ok (show i < l.length by omega)
    rw [F26_3, e1, cond_true, e2, cond_true, drop_getR l i (by omega)]
    simp only [Int.toNat_natCast]
    unfold picksR
    by_cases hn : (getR l i).N < 0
    · rw [decide_eq_true hn, cond_true, if_pos hn]
    · rw [decide_eq_false hn, cond_false, if_neg hn, wrapI (by omega) (by omega)]
      by_cases hb : (getR l i).N > 65536 - (o.length : Int)
      · rw [decide_eq_true hb, cond_true, if_pos hb]
      · rw [decide_eq_false hb, cond_false, if_neg hb, rep_ok _ _ K (by omega) (by omega) (by omega), Option.bind_some, wrap_nxt (by omega)]
        have ih := picks_loop l hl d (i + 1) K (o ++ List.replicate (getR l i).N.toNat (getR l i).Who) (by omega) (by omega) (by rw [List.length_append, List.length_replicate]; omega)
        cases he : (List.replicate (getR l i).N.toNat (getR l i).Who).isEmpty with
        | true =>
          have e3 : List.replicate (getR l i).N.toNat (getR l i).Who = [] := List.isEmpty_iff.1 he
          rw [e3, List.append_nil] at ih ⊢
          rw [cond_true]
          exact ih
        | false =>
          rw [cond_false, room8 (by rw [List.length_replicate]; omega), cond_true]
          exact ih
  | _, _, 0, _, _, hK, _ => absurd hK (Nat.not_lt_zero _)
theorem picks_ok (l : List TFairBurst) (hl : l.length ≤ 1000) (K : Nat) (hK : 66600 < K) : F26 K l = some (picksR l []) := by
  have h := picks_loop l hl l.length 0 K [] (by omega) (by omega) (by simp)
  exact h
theorem picksR_un : ∀ (l : List TFairBurst) (o : List Int), (∀ b, b ∈ l → 0 ≤ b.N) → (o ++ un l).length ≤ 65536 → picksR l o = (o ++ un l, 0)
  | [], o, _, _ => by rw [un, List.append_nil]; rfl
  | b :: l, o, h, hl => by
    have h0 := h b (by simp)
    unfold un at hl
    have hlen := hl
    simp only [List.length_append, List.length_replicate] at hlen
    unfold picksR
    rw [if_neg (by omega), if_neg (by omega), picksR_un l _ (fun b hb => h b (by simp [hb])) (by rw [List.append_assoc]; exact hl), List.append_assoc]
    rfl
theorem un_append : ∀ (l m : List TFairBurst), un (l ++ m) = un l ++ un m
  | [], m => rfl
  | b :: l, m => by rw [List.cons_append, un, un, un_append l m, List.append_assoc]
end Go.Proofs.Ytjfodgjgpeiaaaa.Lf
