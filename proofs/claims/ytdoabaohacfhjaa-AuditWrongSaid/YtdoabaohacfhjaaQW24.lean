/- Several texts in one: AUc, AUk. -/
import Derived.Test.YtdoabaohacfhjaaQW21
import Derived.Test.YtdoabaohacfhjaaQW23
namespace Go.Proofs.Ytdoabaohacfhjaa.Lf

section
open Go Go.Dt Go.Proofs
set_option linter.unusedVariables false
set_option linter.unusedSimpArgs false

/-- How many of the first events a worker has, of a kind. -/
def cnt (l : List TEvent) (w c : Int) : Nat → Int
  | 0 => 0
  | k + 1 => cnt l w c k + if (getR l k).Who = w ∧ (getR l k).Kind = c then 1 else 0
theorem cnt_le (l : List TEvent) (w c : Int) : ∀ k, 0 ≤ cnt l w c k ∧ cnt l w c k ≤ k
  | 0 => by simp [cnt]
  | k + 1 => by
    have := cnt_le l w c k
    simp only [cnt]
    split <;> omega
theorem wrap_nat {n : Nat} (h : n ≤ 1000) : IntKind.i64.wrap ((n : Int) + 1) = ((n + 1 : Nat) : Int) := by
  rw [wrap_i64_of (by omega) (by omega)]; rfl
theorem inR_nat {i n : Nat} (h : i < n) : inR (i : Int) n = true := by simp [inR, h]

theorem many_loop (l : List TEvent) (w c : Int) (hl : l.length ≤ 100) : ∀ (d K i : Nat), i + d = l.length → d < K → FR40_Many_3 l w c K (cnt l w c i) i = some (cnt l w c l.length)
  | 0, K, i, h, hK => by
    obtain ⟨K, rfl⟩ : ∃ k, K = k + 1 := ⟨K - 1, by omega⟩
    have hi : i = l.length := by omega
    subst hi
    simp [FR40_Many_3]
  | d + 1, K, i, h, hK => by
    obtain ⟨K, rfl⟩ : ∃ k, K = k + 1 := ⟨K - 1, by omega⟩
    have hi : i < l.length := by omega
    have ih := many_loop l w c hl d K (i + 1) (by omega) (by omega)
    have hc := cnt_le l w c i
    have e1 : IntKind.i64.wrap (cnt l w c i + 1) = cnt l w c i + 1 := wrap_i64_of (by omega) (by omega)
    simp only [FR40_Many_3, inR_nat hi, Int.toNat_natCast, wrap_nat (show i ≤ 1000 by omega), cond_true]
    rw [show decide ((i : Int) < (l.length : Int)) = true from decide_eq_true (by omega), cond_true]
    simp only [cnt] at ih
    by_cases h1 : (getR l i).Who = w
    · by_cases h2 : (getR l i).Kind = c
      · simp only [h1, h2, and_self, if_true, beq_self_eq_true, cond_true, e1] at ih ⊢
        exact ih
      · have e2 : ((getR l i).Kind == c) = false := by simpa using h2
        simp only [h1, h2, and_false, if_false, beq_self_eq_true, cond_true, e2, cond_false, Int.add_zero] at ih ⊢
        exact ih
    · have e2 : ((getR l i).Who == w) = false := by simpa using h1
      simp only [h1, false_and, if_false, e2, cond_false, Int.add_zero] at ih ⊢
      exact ih
theorem many_ok (l : List TEvent) (w c : Int) (hl : l.length ≤ 100) (K : Nat) (hK : 100 < K) : FR40_Many K l w c = some (cnt l w c l.length) :=
  many_loop l w c hl l.length K 0 (by omega) (by omega)

def tbl (l : List TEvent) (w i : Nat) : List TAuditLoad := (List.range w).map fun j => ⟨cnt l ((j + 1 : Nat) : Int) 1 i, cnt l ((j + 1 : Nat) : Int) 2 i, cnt l ((j + 1 : Nat) : Int) 3 i⟩
theorem tbl_length (l : List TEvent) (w i : Nat) : (tbl l w i).length = w := by simp [tbl]
theorem tbl_get (l : List TEvent) (w i : Nat) {j : Nat} (h : j < w) : getR (tbl l w i) j = ⟨cnt l ((j + 1 : Nat) : Int) 1 i, cnt l ((j + 1 : Nat) : Int) 2 i, cnt l ((j + 1 : Nat) : Int) 3 i⟩ := by
  simp [getR, tbl, h]
theorem tbl_zero (l : List TEvent) (w : Nat) : tbl l w 0 = List.replicate w ⟨0, 0, 0⟩ := by
  apply List.ext_getElem
  · simp [tbl]
  · intro n h1 h2; simp [tbl, cnt]
theorem tbl_same (l : List TEvent) (w i : Nat) (h : ∀ j, j < w → ∀ c, (c = 1 ∨ c = 2 ∨ c = 3) → ¬ ((getR l i).Who = ((j + 1 : Nat) : Int) ∧ (getR l i).Kind = c)) : tbl l w (i + 1) = tbl l w i := by
  apply List.ext_getElem
  · simp [tbl]
  · intro n h1 h2
    have hn : n < w := by simpa [tbl] using h1
    have a1 := h n hn 1 (by simp)
    have a2 := h n hn 2 (by simp)
    have a3 := h n hn 3 (by simp)
    simp only [tbl, List.getElem_map, List.getElem_range, cnt, if_neg a1, if_neg a2, if_neg a3, Int.add_zero]
theorem tbl_set (l : List TEvent) (w i q : Nat) (hq : q < w) (hw : (getR l i).Who = ((q + 1 : Nat) : Int)) (x : TAuditLoad)
    (hx : x = ⟨cnt l ((q + 1 : Nat) : Int) 1 (i + 1), cnt l ((q + 1 : Nat) : Int) 2 (i + 1), cnt l ((q + 1 : Nat) : Int) 3 (i + 1)⟩) : (tbl l w i).set q x = tbl l w (i + 1) := by
  apply List.ext_getElem
  · simp [tbl]
  · intro n h1 h2
    have hn : n < w := by simpa [tbl] using h2
    rw [List.getElem_set]
    by_cases e : q = n
    · subst e
      simp [hx, tbl]
    · have hne : ∀ c, ¬ ((getR l i).Who = ((n + 1 : Nat) : Int) ∧ (getR l i).Kind = c) := fun c hc => by
        rw [hw] at hc; omega
      simp only [e, if_false, tbl, List.getElem_map, List.getElem_range, cnt, if_neg (hne _), Int.add_zero]

theorem loads_loop (l : List TEvent) (w : Nat) (hl : l.length ≤ 100) (hw : w ≤ 64) : ∀ (d K i : Nat), i + d = l.length → d < K → Faudit_Loads_5 l w K (tbl l w i) i = some (tbl l w l.length, 0)
  | 0, K, i, h, hK => by
    obtain ⟨K, rfl⟩ : ∃ k, K = k + 1 := ⟨K - 1, by omega⟩
    have hi : i = l.length := by omega
    subst hi
    simp [Faudit_Loads_5]
  | d + 1, K, i, h, hK => by
    obtain ⟨K, rfl⟩ : ∃ k, K = k + 1 := ⟨K - 1, by omega⟩
    have hi : i < l.length := by omega
    have ih := loads_loop l w hl hw d K (i + 1) (by omega) (by omega)
    simp only [Faudit_Loads_5, inR_nat hi, Int.toNat_natCast, wrap_nat (show i ≤ 1000 by omega), cond_true, cond_false]
    rw [show decide ((i : Int) < (l.length : Int)) = true from decide_eq_true (by omega), cond_true]
    by_cases h1 : (getR l i).Who < 1
    · rw [decide_eq_true h1, cond_true, ← tbl_same l w i (fun j hj c _ hc => by omega)]
      exact ih
    · rw [decide_eq_false h1, cond_false]
      by_cases h2 : (getR l i).Who > w
      · rw [decide_eq_true h2, cond_true, ← tbl_same l w i (fun j hj c _ hc => by omega)]
        exact ih
      · rw [decide_eq_false h2, cond_false]
        obtain ⟨q, hq⟩ : ∃ q : Nat, (getR l i).Who = ((q + 1 : Nat) : Int) := ⟨((getR l i).Who - 1).toNat, by omega⟩
        have hqw : q < w := by omega
        have e1 : IntKind.i64.wrap ((getR l i).Who - 1) = (q : Int) := by rw [hq, wrap_i64_of (by omega) (by omega)]; omega
        rw [e1, tbl_length, inR_nat hqw, cond_true, Int.toNat_natCast, tbl_get l w i hqw]
        have c1 := cnt_le l ((q + 1 : Nat) : Int) 1 i
        have c2 := cnt_le l ((q + 1 : Nat) : Int) 2 i
        have c3 := cnt_le l ((q + 1 : Nat) : Int) 3 i
        have w1 : IntKind.i64.wrap (cnt l ((q + 1 : Nat) : Int) 1 i + 1) = cnt l ((q + 1 : Nat) : Int) 1 i + 1 := wrap_i64_of (by omega) (by omega)
        have w2 : IntKind.i64.wrap (cnt l ((q + 1 : Nat) : Int) 2 i + 1) = cnt l ((q + 1 : Nat) : Int) 2 i + 1 := wrap_i64_of (by omega) (by omega)
        have w3 : IntKind.i64.wrap (cnt l ((q + 1 : Nat) : Int) 3 i + 1) = cnt l ((q + 1 : Nat) : Int) 3 i + 1 := wrap_i64_of (by omega) (by omega)
        simp only [w1, w2, w3]
        by_cases k1 : (getR l i).Kind = 1
        · rw [show ((getR l i).Kind == 1) = true by simpa using k1, cond_true, tbl_set l w i q hqw hq _ (by simp [cnt, hq, k1])]
          exact ih
        · rw [show ((getR l i).Kind == 1) = false by simpa using k1, cond_false]
          by_cases k2 : (getR l i).Kind = 2
          · rw [show ((getR l i).Kind == 2) = true by simpa using k2, cond_true, tbl_set l w i q hqw hq _ (by simp [cnt, hq, k2])]
            exact ih
          · rw [show ((getR l i).Kind == 2) = false by simpa using k2, cond_false]
            by_cases k3 : (getR l i).Kind = 3
            · rw [show ((getR l i).Kind == 3) = true by simpa using k3, cond_true, tbl_set l w i q hqw hq _ (by simp [cnt, hq, k3])]
              exact ih
            · rw [show ((getR l i).Kind == 3) = false by simpa using k3, cond_false, ← tbl_same l w i (fun j hj c hc1 hc => by omega)]
              exact ih

end

section
open Go Go.Dt Go.Proofs
set_option linter.unusedVariables false
set_option linter.unusedSimpArgs false

def lastF (l : List TEvent) : Nat → Int
  | 0 => -1
  | k + 1 => if (getR l k).Kind = 1 then (getR l k).A else lastF l k
def openF (l : List TEvent) : Nat → Bool
  | 0 => false
  | k + 1 => if (getR l k).Kind = 4 then false else if (getR l k).Kind = 1 then true else openF l k
def anyF (p : TEvent → Bool) (l : List TEvent) : Nat → Bool
  | 0 => false
  | k + 1 => anyF p l k || p (getR l k)
theorem anyF_mono {p : TEvent → Bool} {l : List TEvent} {k : Nat} (h : anyF p l k = true) : ∀ n, k ≤ n → anyF p l n = true
  | 0, hn => by have : k = 0 := by omega
                subst this; exact h
  | n + 1, hn => by
    by_cases e : k = n + 1
    · subst e; exact h
    · simp only [anyF, anyF_mono h n (by omega), Bool.true_or]
def hasP (A B : Int) (x : TEvent) : Bool := x.Kind == 2 && x.A == A && x.B == B
def overP (w : Int) (x : TEvent) : Bool := x.Kind == 5 && x.Who == w

theorem getR_take (l : List TEvent) {n j : Nat} (h : j < n) : getR (l.take n) j = getR l j := by
  simp [getR, List.getElem?_take, h]

section
variable (l : List TEvent) (n : Nat) (hn : n ≤ l.length) (hl : l.length ≤ 100)
include hn hl
omit hl in
theorem take_len : (l.take n).length = n := by simp; omega
theorem last_loop : ∀ (d K i : Nat), i + d = n → d < K → FR40_last_3 (l.take n) K (lastF l i) i = some (lastF l n)
  | 0, K, i, h, hK => by
    obtain ⟨K, rfl⟩ : ∃ k, K = k + 1 := ⟨K - 1, by omega⟩
    have hi : i = n := by omega
    subst hi
    simp only [FR40_last_3, take_len l i hn]
    rw [decide_eq_false (by omega), cond_false]
  | d + 1, K, i, h, hK => by
    obtain ⟨K, rfl⟩ : ∃ k, K = k + 1 := ⟨K - 1, by omega⟩
    have hi : i < n := by omega
    have ih := last_loop d K (i + 1) (by omega) (by omega)
    simp only [FR40_last_3, take_len l n hn, inR_nat hi, Int.toNat_natCast, wrap_nat (show i ≤ 1000 by omega), cond_true, getR_take l hi]
    rw [show decide ((i : Int) < (n : Int)) = true from decide_eq_true (by omega), cond_true]
    simp only [lastF] at ih
    by_cases k1 : (getR l i).Kind = 1
    · rw [show ((getR l i).Kind == 1) = true by simpa using k1, cond_true]
      rw [if_pos k1] at ih; exact ih
    · rw [show ((getR l i).Kind == 1) = false by simpa using k1, cond_false]
      rw [if_neg k1] at ih; exact ih
theorem open_loop : ∀ (d K i : Nat), i + d = n → d < K → FR40_open_3 (l.take n) K (openF l i) i = some (openF l n)
  | 0, K, i, h, hK => by
    obtain ⟨K, rfl⟩ : ∃ k, K = k + 1 := ⟨K - 1, by omega⟩
    have hi : i = n := by omega
    subst hi
    simp only [FR40_open_3, take_len l i hn]
    rw [decide_eq_false (by omega), cond_false]
  | d + 1, K, i, h, hK => by
    obtain ⟨K, rfl⟩ : ∃ k, K = k + 1 := ⟨K - 1, by omega⟩
    have hi : i < n := by omega
    have ih := open_loop d K (i + 1) (by omega) (by omega)
    simp only [FR40_open_3, take_len l n hn, inR_nat hi, Int.toNat_natCast, wrap_nat (show i ≤ 1000 by omega), cond_true, getR_take l hi]
    rw [show decide ((i : Int) < (n : Int)) = true from decide_eq_true (by omega), cond_true]
    simp only [openF] at ih
    by_cases k1 : (getR l i).Kind = 1
    · rw [show ((getR l i).Kind == 1) = true by simpa using k1, show ((getR l i).Kind == 4) = false by simp [k1]]
      rw [if_neg (by omega), if_pos k1] at ih
      simpa using ih
    · rw [show ((getR l i).Kind == 1) = false by simpa using k1]
      by_cases k4 : (getR l i).Kind = 4
      · rw [show ((getR l i).Kind == 4) = true by simpa using k4]
        rw [if_pos k4] at ih
        simpa using ih
      · rw [show ((getR l i).Kind == 4) = false by simpa using k4]
        rw [if_neg k4, if_neg k1] at ih
        simpa using ih
theorem has_loop (e : TEvent) (he : e.Kind = 2) : ∀ (d K i : Nat), i + d = n → d < K → anyF (hasP e.A e.B) l i = false → FR40_has_2 (l.take n) e K i = some (anyF (hasP e.A e.B) l n)
  | 0, K, i, h, hK, h0 => by
    obtain ⟨K, rfl⟩ : ∃ k, K = k + 1 := ⟨K - 1, by omega⟩
    have hi : i = n := by omega
    subst hi
    simp only [FR40_has_2, take_len l i hn]
    rw [decide_eq_false (by omega), cond_false, h0]
  | d + 1, K, i, h, hK, h0 => by
    obtain ⟨K, rfl⟩ : ∃ k, K = k + 1 := ⟨K - 1, by omega⟩
    have hi : i < n := by omega
    simp only [FR40_has_2, take_len l n hn, inR_nat hi, Int.toNat_natCast, wrap_nat (show i ≤ 1000 by omega), cond_true, getR_take l hi, he]
    rw [show decide ((i : Int) < (n : Int)) = true from decide_eq_true (by omega), cond_true]
    cases hp : hasP e.A e.B (getR l i) with
    | true =>
      have : anyF (hasP e.A e.B) l (i + 1) = true := by simp [anyF, hp]
      rw [anyF_mono this n (by omega)]
      simp only [hasP, Bool.and_eq_true] at hp
      rw [hp.1.1, hp.1.2, hp.2]; rfl
    | false =>
      have ih := has_loop e he d K (i + 1) (by omega) (by omega) (by simp [anyF, h0, hp])
      simp only [hasP] at hp
      cases k1 : (getR l i).Kind == 2 <;> cases k2 : (getR l i).A == e.A <;> cases k3 : (getR l i).B == e.B <;> rw [k1, k2, k3] at hp <;> simp only [cond_true, cond_false] <;> first | exact ih | cases hp
theorem over_loop (w : Int) : ∀ (d K i : Nat), i + d = n → d < K → anyF (overP w) l i = false → FR40_over_2 (l.take n) w K i = some (anyF (overP w) l n)
  | 0, K, i, h, hK, h0 => by
    obtain ⟨K, rfl⟩ : ∃ k, K = k + 1 := ⟨K - 1, by omega⟩
    have hi : i = n := by omega
    subst hi
    simp only [FR40_over_2, take_len l i hn]
    rw [decide_eq_false (by omega), cond_false, h0]
  | d + 1, K, i, h, hK, h0 => by
    obtain ⟨K, rfl⟩ : ∃ k, K = k + 1 := ⟨K - 1, by omega⟩
    have hi : i < n := by omega
    simp only [FR40_over_2, take_len l n hn, inR_nat hi, Int.toNat_natCast, wrap_nat (show i ≤ 1000 by omega), cond_true, getR_take l hi]
    rw [show decide ((i : Int) < (n : Int)) = true from decide_eq_true (by omega), cond_true]
    cases hp : overP w (getR l i) with
    | true =>
      have : anyF (overP w) l (i + 1) = true := by simp [anyF, hp]
      rw [anyF_mono this n (by omega)]
      simp only [overP, Bool.and_eq_true] at hp
      rw [hp.1, hp.2]; rfl
    | false =>
      have ih := over_loop w d K (i + 1) (by omega) (by omega) (by simp [anyF, h0, hp])
      simp only [overP] at hp
      cases k1 : (getR l i).Kind == 5 <;> cases k2 : (getR l i).Who == w <;> rw [k1, k2] at hp <;> simp only [cond_true, cond_false] <;> first | exact ih | cases hp
theorem last_ok (K : Nat) (hK : 100 < K) : FR40_last K (l.take n) = some (lastF l n) := last_loop l n hn hl n K 0 (by omega) (by omega)
theorem open_ok (K : Nat) (hK : 100 < K) : FR40_open K (l.take n) = some (openF l n) := open_loop l n hn hl n K 0 (by omega) (by omega)
theorem has_ok (e : TEvent) (he : e.Kind = 2) (K : Nat) (hK : 100 < K) : FR40_has K (l.take n) e = some (anyF (hasP e.A e.B) l n) := has_loop l n hn hl e he n K 0 (by omega) (by omega) rfl
theorem over_ok (w : Int) (K : Nat) (hK : 100 < K) : FR40_over K (l.take n) w = some (anyF (overP w) l n) := over_loop l n hn hl w n K 0 (by omega) (by omega) rfl
end

/-- The book is what the events ahead say. -/
structure BookOk (l : List TEvent) (w t : Int) (i : Nat) (b : Book) : Prop where
  wk : b.workers = w
  tl : b.tiles = t
  fr : b.frames = lastF l i + 1
  lo : 0 ≤ b.frames
  hi : b.frames ≤ i
  op : b.opn = openF l i
  dr : ∀ A B, b.drawn.contains (A, B) = anyF (hasP A B) l i
  ov : ∀ x, b.over.contains x = anyF (overP x) l i

theorem now_last {fr la x : Int} (h : fr = la + 1) (h0 : 0 ≤ fr) (h1 : fr ≤ 100) : nowF fr x = (!decide (la < 0) && x == la) := by
  unfold nowF
  rw [wrap_i64_of (by omega) (by omega), show fr - 1 = la by omega]
  by_cases hl : la < 0
  · rw [decide_eq_false (by omega), decide_eq_true hl]; rfl
  · rw [decide_eq_true (by omega), decide_eq_false hl]; simp

theorem keep_any {p : TEvent → Bool} {l : List TEvent} {i : Nat} (h : p (getR l i) = false) : anyF p l (i + 1) = anyF p l i := by simp [anyF, h]

/-- An event that is fine, of a kind that leaves the rest as it is. -/
theorem BookOk.next {l : List TEvent} {w t : Int} {i : Nat} {b : Book} (H : BookOk l w t i b) {fr : Int} {op : Bool} {dr : List (Int × Int)} {ov : List Int}
    (h1 : fr = lastF l (i + 1) + 1) (h2 : 0 ≤ fr) (h3 : fr ≤ (i + 1 : Nat)) (h4 : op = openF l (i + 1)) (h5 : ∀ A B, dr.contains (A, B) = anyF (hasP A B) l (i + 1)) (h6 : ∀ x, ov.contains x = anyF (overP x) l (i + 1)) :
    BookOk l w t (i + 1) ⟨b.workers, b.tiles, fr, op, dr, ov⟩ := ⟨H.wk, H.tl, h1, h2, h3, h4, h5, h6⟩

theorem cond_decide {α : Type} (b : Bool) (x y : α) : (bif decide ((bif b then (1 : Int) else 0) > 0) then x else y) = bif b then x else y := by cases b <;> rfl

theorem see_step (l : List TEvent) (w t : Int) (ht : 1 ≤ t) (i : Nat) (b : Book) (H : BookOk l w t i b) (hi : i < l.length) (hl : l.length ≤ 100) (K : Nat) (hK : 100 < K) :
    ∃ c b', Fsee b (getR l i) = some (c, b') ∧ FR40_See K (l.take i) (getR l i) w t = some c ∧ (c = 0 → BookOk l w t (i + 1) b') := by
  have hle : i ≤ l.length := by omega
  have hfr := H.fr
  have hlo := H.lo
  have hhi := H.hi
  have wl : IntKind.i64.wrap (lastF l i + 1) = lastF l i + 1 := wrap_i64_of (by omega) (by omega)
  have wf : IntKind.i64.wrap (b.frames + 1) = b.frames + 1 := wrap_i64_of (by omega) (by omega)
  have hnow : ∀ x, nowF b.frames x = (!decide (lastF l i < 0) && x == lastF l i) := fun x => now_last hfr hlo (by omega)
  have ht0 : (t != 0) = true := by simp; omega
  unfold Fsee FR40_See
  simp only [over_ok l i hle hl _ K hK, last_ok l i hle hl K hK, open_ok l i hle hl K hK, Option.bind_some, cond_decide, H.wk, H.op, H.ov, wl, cond_false]
  by_cases a1 : (getR l i).Kind < 1
  · simp only [decide_eq_true a1, cond_true]
    exact ⟨_, _, rfl, rfl, fun h => by cases h⟩
  simp only [decide_eq_false a1, cond_false]
  by_cases a2 : (getR l i).Kind > 5
  · simp only [decide_eq_true a2, cond_true]
    exact ⟨_, _, rfl, rfl, fun h => by cases h⟩
  simp only [decide_eq_false a2, cond_false]
  by_cases a3 : (getR l i).Who < 1
  · simp only [decide_eq_true a3, cond_true]
    exact ⟨_, _, rfl, rfl, fun h => by cases h⟩
  simp only [decide_eq_false a3, cond_false]
  by_cases a4 : (getR l i).Who > w
  · simp only [decide_eq_true a4, cond_true]
    exact ⟨_, _, rfl, rfl, fun h => by cases h⟩
  simp only [decide_eq_false a4, cond_false]
  cases a5 : anyF (overP (getR l i).Who) l i with
  | true => exact ⟨_, _, rfl, rfl, fun h => by cases h⟩
  | false =>
  simp only [cond_false]
  by_cases k1 : (getR l i).Kind = 1
  · simp only [show ((getR l i).Kind == 1) = true by simpa using k1, cond_true, hfr]
    cases o : openF l i with
    | true =>
      refine ⟨_, _, rfl, ?_, fun h => by cases h⟩
      cases (getR l i).A != lastF l i + 1 <;> rfl
    | false =>
      by_cases e : (getR l i).A = lastF l i + 1
      · simp only [show ((getR l i).A != lastF l i + 1) = false by simpa using e, cond_false]
        refine ⟨_, _, rfl, rfl, fun _ => ?_⟩
        rw [← hfr, wf]
        have h := H.next (fr := b.frames + 1) (op := true) (dr := b.drawn) (ov := b.over) (by simp only [lastF, if_pos k1]; omega) (by omega) (by omega) (by simp [openF, k1]) (fun A B => by rw [keep_any (by simp [hasP, k1])]; exact H.dr A B) (fun x => by rw [keep_any (by simp [overP, k1])]; exact H.ov x)
        rw [H.wk] at h; exact h
      · simp only [show ((getR l i).A != lastF l i + 1) = true by simpa using e, cond_true, cond_false]
        exact ⟨_, _, rfl, rfl, fun h => by cases h⟩
  simp only [show ((getR l i).Kind == 1) = false by simpa using k1, cond_false]
  by_cases k2 : (getR l i).Kind = 2
  · simp only [show ((getR l i).Kind == 2) = true by simpa using k2, cond_true, Fdraw, has_ok l i hle hl _ k2 K hK, hnow, cond_decide, H.dr, H.op, H.tl, Option.bind_some, cond_false]
    cases o : openF l i with
    | false =>
      refine ⟨_, _, rfl, ?_, fun h => by cases h⟩
      cases decide (lastF l i < 0) <;> cases (getR l i).A != lastF l i <;> rfl
    | true =>
      by_cases e1 : lastF l i < 0
      · simp only [decide_eq_true e1]
        exact ⟨_, _, rfl, rfl, fun h => by cases h⟩
      by_cases e2 : (getR l i).A = lastF l i
      · simp only [decide_eq_false e1, show ((getR l i).A == lastF l i) = true by simpa using e2, show ((getR l i).A != lastF l i) = false by simpa using e2, Bool.not_true, Bool.not_false, Bool.and_self, cond_false]
        by_cases e3 : (getR l i).B < 0
        · simp only [decide_eq_true e3]
          exact ⟨_, _, rfl, rfl, fun h => by cases h⟩
        by_cases e4 : (getR l i).B ≥ t
        · simp only [decide_eq_false e3, decide_eq_true e4]
          exact ⟨_, _, rfl, rfl, fun h => by cases h⟩
        simp only [decide_eq_false e3, decide_eq_false e4, cond_false]
        cases h6 : anyF (hasP (getR l i).A (getR l i).B) l i with
        | true => exact ⟨_, _, rfl, rfl, fun h => by cases h⟩
        | false =>
          refine ⟨_, _, rfl, rfl, fun _ => ?_⟩
          have h := H.next (fr := b.frames) (op := true) (dr := b.drawn ++ [((getR l i).A, (getR l i).B)]) (ov := b.over) (by simp only [lastF, if_neg k1]; exact hfr) hlo (by omega) (by simp [openF, k2, o]) (fun A B => ?_) (fun x => ?_)
          · rw [H.wk, H.tl] at h; exact h
          · rw [List.contains_append, H.dr A B]
            simp only [anyF]
            congr 1
            simp only [hasP, k2]
            rw [Bool.eq_iff_iff]
            simp
            constructor
            · rintro ⟨h1, h2⟩; exact ⟨h1.symm, h2.symm⟩
            · rintro ⟨h1, h2⟩; exact ⟨h1.symm, h2.symm⟩
          · rw [keep_any (by simp [overP, k2])]; exact H.ov x
      · simp only [decide_eq_false e1, show ((getR l i).A == lastF l i) = false by simpa using e2, show ((getR l i).A != lastF l i) = true by simpa using e2]
        exact ⟨_, _, rfl, rfl, fun h => by cases h⟩
  simp only [show ((getR l i).Kind == 2) = false by simpa using k2, cond_false]
  -- the rest is as it was
  have same : ∀ op, (getR l i).Kind ≠ 5 → op = openF l (i + 1) → BookOk l w t (i + 1) ⟨w, t, b.frames, op, b.drawn, b.over⟩ := fun op k5 hop => by
    have h := H.next (fr := b.frames) (op := op) (dr := b.drawn) (ov := b.over) (by simp only [lastF, if_neg k1]; exact hfr) hlo (by omega) hop (fun A B => by rw [keep_any (by simp [hasP, k2])]; exact H.dr A B) (fun x => by rw [keep_any (by simp [overP, k5])]; exact H.ov x)
    rw [H.wk, H.tl] at h; exact h
  by_cases k3 : (getR l i).Kind = 3
  · simp only [show ((getR l i).Kind == 3) = true by simpa using k3, cond_true, Fsteal, hnow, H.tl, ht0, Option.bind_some, cond_false]
    by_cases e1 : (getR l i).A < 0
    · simp only [decide_eq_true e1]
      exact ⟨_, _, rfl, rfl, fun h => by cases h⟩
    by_cases e2 : (getR l i).A ≥ w
    · simp only [decide_eq_false e1, decide_eq_true e2]
      exact ⟨_, _, rfl, rfl, fun h => by cases h⟩
    cases e3 : (getR l i).A == IntKind.i64.wrap ((getR l i).Who - 1) with
    | true =>
      simp only [decide_eq_false e1, decide_eq_false e2]
      exact ⟨_, _, rfl, rfl, fun h => by cases h⟩
    | false =>
      simp only [decide_eq_false e1, decide_eq_false e2, cond_false]
      by_cases e4 : (getR l i).B < 0
      · simp only [decide_eq_true e4]
        refine ⟨_, _, rfl, ?_, fun h => by cases h⟩
        cases decide (lastF l i < 0) <;> rfl
      by_cases e5 : lastF l i < 0
      · simp only [decide_eq_false e4, decide_eq_true e5]
        exact ⟨_, _, rfl, rfl, fun h => by cases h⟩
      simp only [decide_eq_false e4, decide_eq_false e5, cond_false, cond_true, Bool.not_false, Bool.true_and]
      by_cases e6 : IntKind.i64.wrap ((getR l i).B.tdiv t) = lastF l i
      · simp only [show (IntKind.i64.wrap ((getR l i).B.tdiv t) == lastF l i) = true by simpa using e6, show (IntKind.i64.wrap ((getR l i).B.tdiv t) != lastF l i) = false by simpa using e6]
        exact ⟨_, _, rfl, rfl, fun _ => same _ (by omega) (by simp [openF, k3])⟩
      · simp only [show (IntKind.i64.wrap ((getR l i).B.tdiv t) == lastF l i) = false by simpa using e6, show (IntKind.i64.wrap ((getR l i).B.tdiv t) != lastF l i) = true by simpa using e6]
        exact ⟨_, _, rfl, rfl, fun h => by cases h⟩
  simp only [show ((getR l i).Kind == 3) = false by simpa using k3, cond_false]
  by_cases k4 : (getR l i).Kind = 4
  · simp only [show ((getR l i).Kind == 4) = true by simpa using k4, cond_true, hnow]
    cases o : openF l i with
    | false =>
      refine ⟨_, _, rfl, ?_, fun h => by cases h⟩
      cases decide (lastF l i < 0) <;> cases (getR l i).A != lastF l i <;> rfl
    | true =>
      by_cases e1 : lastF l i < 0
      · simp only [decide_eq_true e1]
        exact ⟨_, _, rfl, rfl, fun h => by cases h⟩
      by_cases e2 : (getR l i).A = lastF l i
      · simp only [decide_eq_false e1, show ((getR l i).A == lastF l i) = true by simpa using e2, show ((getR l i).A != lastF l i) = false by simpa using e2, Bool.not_true, Bool.not_false, Bool.and_self, cond_false]
        refine ⟨_, _, rfl, rfl, fun _ => ?_⟩
        rw [H.tl]
        exact same false (by omega) (by simp [openF, k4])
      · simp only [decide_eq_false e1, show ((getR l i).A == lastF l i) = false by simpa using e2, show ((getR l i).A != lastF l i) = true by simpa using e2]
        exact ⟨_, _, rfl, rfl, fun h => by cases h⟩
  simp only [show ((getR l i).Kind == 4) = false by simpa using k4, cond_false]
  have k5 : (getR l i).Kind = 5 := by omega
  simp only [show ((getR l i).Kind == 5) = true by simpa using k5, cond_true]
  refine ⟨_, _, rfl, rfl, fun _ => ?_⟩
  have h := H.next (fr := b.frames) (op := openF l i) (dr := b.drawn) (ov := b.over ++ [(getR l i).Who]) (by simp only [lastF, if_neg k1]; exact hfr) hlo (by omega) (by simp [openF, k5]) (fun A B => by rw [keep_any (by simp [hasP, k5])]; exact H.dr A B) (fun x => ?_)
  · rw [H.wk] at h; exact h
  · rw [List.contains_append, H.ov x]
    simp only [anyF]
    congr 1
    simp only [overP, k5]
    rw [Bool.eq_iff_iff]
    simp
    exact eq_comm

theorem wrong_loop (l : List TEvent) (w t : Int) (ht : 1 ≤ t) (hl : l.length ≤ 100) : ∀ (d K K2 i : Nat) (b : Book), i + d = l.length → d < K → d + 101 < K2 → BookOk l w t i b →
    ∃ r, Faudit_Wrong_5 l K b i = some r ∧ FR40_Wrong_2 l w t K2 i = some r
  | 0, K, K2, i, b, h, hK, hK2, H => by
    obtain ⟨K, rfl⟩ : ∃ k, K = k + 1 := ⟨K - 1, by omega⟩
    obtain ⟨K2, rfl⟩ : ∃ k, K2 = k + 1 := ⟨K2 - 1, by omega⟩
    have hi : i = l.length := by omega
    subst hi
    exact ⟨_, by simp [Faudit_Wrong_5]; rfl, by simp [FR40_Wrong_2]⟩
  | d + 1, K, K2, i, b, h, hK, hK2, H => by
    obtain ⟨K, rfl⟩ : ∃ k, K = k + 1 := ⟨K - 1, by omega⟩
    obtain ⟨K2, rfl⟩ : ∃ k, K2 = k + 1 := ⟨K2 - 1, by omega⟩
    have hi : i < l.length := by omega
    obtain ⟨c, b', h1, h2, h3⟩ := see_step l w t ht i b H hi hl K2 (by omega)
    have e4 : decide ((i : Int) < (l.length : Int)) = true := decide_eq_true (by omega)
    have e5 : cutOk l.length ((Option.none : Option Int).getD 0) ((some (i : Int)).getD l.length) = true := by simp [cutOk]; omega
    have e6 : List.take (((some (i : Int)).getD (↑l.length : Int)).toNat - 0) (List.drop 0 l) = l.take i := by simp
    simp only [Faudit_Wrong_5, FR40_Wrong_2, e4, e5, e6, inR_nat hi, wrap_nat (show i ≤ 1000 by omega), Int.toNat_natCast, cond_true, h1, h2, Option.bind_some]
    by_cases hc : c = 0
    · simp only [show (c != 0) = false by simpa using hc, cond_false]
      exact wrong_loop l w t ht hl d K K2 (i + 1) b' (by omega) (by omega) (by omega) (h3 hc)
    · simp only [show (c != 0) = true by simpa using hc, cond_true]
      exact ⟨_, rfl, rfl⟩

theorem auditWrong_ok (l : List TEvent) (w t : Int) : FL40_AuditWrong 400 l w t = some true := by
  unfold FL40_AuditWrong
  by_cases hl : l.length ≤ 100
  · rw [decide_eq_false (by omega), cond_false]
    unfold Faudit_Wrong
    by_cases h1 : w < 1
    · simp [h1]
    · by_cases h2 : t < 1
      · simp [h1, h2]
      · obtain ⟨r, e1, e2⟩ := wrong_loop l w t (by omega) hl l.length 400 400 0 ⟨w, t, 0, false, [], []⟩ (by omega) (by omega) (by omega) ⟨rfl, rfl, rfl, Int.le_refl 0, Int.le_refl 0, rfl, fun _ _ => rfl, fun _ => rfl⟩
        have e1' : Faudit_Wrong_5 l 400 ⟨w, t, 0, false, [], []⟩ 0 = some r := e1
        have e2' : FR40_Wrong 400 l w t = some r := e2
        simp [h1, h2, e1', e2']
  · rw [decide_eq_true (by omega), cond_true]
theorem auditWrong_walk (l : List TEvent) (w t : Int) : Con Try.prog 3 [lst l, .int .i64 w, .int .i64 t] (.bool true) := cL40_AuditWrong 400 l w t true (auditWrong_ok l w t)

end

end Go.Proofs.Ytdoabaohacfhjaa.Lf
