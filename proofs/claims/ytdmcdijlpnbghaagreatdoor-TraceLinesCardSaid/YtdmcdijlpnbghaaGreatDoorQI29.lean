/- Several texts in one: EVp, EVq, EVr. -/
import Derived.Test.YtdmcdijlpnbghaaGreatDoorQI28
import Derived.Shelf.Strings.Builder1
namespace Go.Proofs.YtdmcdijlpnbghaaGreatDoor.Lf

section
open Go Go.Dt Go.Proofs
set_option linter.unusedVariables false
set_option linter.unusedSimpArgs false

theorem zero64 : i64 0 := ⟨by decide, by decide⟩
def noE : TEvent := ⟨0, 0, 0, 0⟩
/-- A word is read: it is a number's, or it is none's. -/
theorem U_cases (s : ByteArray) : (∃ v, i64 v ∧ s = sD v ∧ U s = (v, 0)) ∨ U s = (0, 6) := by
  unfold U
  cases h : Lib.parseIntB 64 s.data.toList with
  | ok v =>
    have hb := Lib.parseIntB_bounds h
    rcases Decidable.em (sD v = s) with g | g
    · exact .inl ⟨v, ⟨by omega, by omega⟩, g.symm, by simp [g]⟩
    · exact .inr (by simp [g])
  | _ => exact .inr rfl
theorem undecF {K : Nat} {s : ByteArray} (h : s.size ≤ 1000) : Fnum_Undec K s = some (U s) := by
  unfold Fnum_Undec
  rw [decide_eq_true h]
  rfl

/-! ### Which kind -/
def shs : List TTraceshape := [⟨⟨#[]⟩, 0⟩, ⟨wB 1, 2⟩, ⟨wB 2, 3⟩, ⟨wB 3, 3⟩, ⟨wB 4, 2⟩, ⟨wB 5, 1⟩]
def cK (l : List ByteArray) (i : Nat) : Bool := ((getR shs i).word.toList == (getR l 0).toList) && ((getR shs i).many == IntKind.i64.wrap ((l.length : Int) - 1))
def kindOf (l : List ByteArray) : Int := bif cK l 0 then 0 else bif cK l 1 then 1 else bif cK l 2 then 2 else bif cK l 3 then 3 else bif cK l 4 then 4 else bif cK l 5 then 5 else -1
theorem event1 {K : Nat} {l : List ByteArray} (h0 : 0 < l.length) (i : Nat) : Ftrace_Event_1 K (getR shs i) l = some (cK l i) := by
  unfold Ftrace_Event_1 cK
  rw [show inR 0 l.length = true from inR_of (i := 0) h0]
  simp only [cond_true]
  cases ((getR shs i).word.toList == (getR l 0).toList) <;> rfl
theorem kind_step {K i : Nat} {l : List ByteArray} (h0 : 0 < l.length) (hi : i < 6) : Fslices_IndexFunc_trace_Event_1_2 shs l (K + 1) (i : Int) = bif cK l i then some (i : Int) else Fslices_IndexFunc_trace_Event_1_2 shs l K ((i + 1 : Nat) : Int) := by
  rw [Fslices_IndexFunc_trace_Event_1_2, decide_eq_true (show (i : Int) < ((shs.length : Nat) : Int) by show (i : Int) < ((6 : Nat) : Int); omega), inR_of (show i < shs.length from hi), show ((i : Int)).toNat = i from rfl, event1 h0, wrap_succ (by omega)]
  rfl
theorem kind_eq {K : Nat} {l : List ByteArray} (h0 : 0 < l.length) (hK : 10 ≤ K) : Fslices_IndexFunc_trace_Event_1 K shs l = some (kindOf l) := by
  obtain ⟨K, rfl⟩ : ∃ k, K = k + 7 := ⟨K - 7, by omega⟩
  show Fslices_IndexFunc_trace_Event_1_2 shs l (K + 6 + 1) ((0 : Nat) : Int) = _
  have e6 : Fslices_IndexFunc_trace_Event_1_2 shs l (K + 1) ((5 + 1 : Nat) : Int) = some (-1) := rfl
  unfold kindOf
  rw [kind_step h0 (by omega)]
  cases cK l 0 with
  | true => rfl
  | false =>
    simp only [cond_false]
    rw [show K + 6 = K + 5 + 1 from rfl, kind_step h0 (by omega)]
    cases cK l (0 + 1) with
    | true => rfl
    | false =>
      simp only [cond_false]
      rw [show K + 5 = K + 4 + 1 from rfl, kind_step h0 (by omega)]
      cases cK l (0 + 1 + 1) with
      | true => rfl
      | false =>
        simp only [cond_false]
        rw [show K + 4 = K + 3 + 1 from rfl, kind_step h0 (by omega)]
        cases cK l (0 + 1 + 1 + 1) with
        | true => rfl
        | false =>
          simp only [cond_false]
          rw [show K + 3 = K + 2 + 1 from rfl, kind_step h0 (by omega)]
          cases cK l (0 + 1 + 1 + 1 + 1) with
          | true => rfl
          | false =>
            simp only [cond_false]
            rw [show K + 2 = K + 1 + 1 from rfl, kind_step h0 (by omega)]
            cases cK l (0 + 1 + 1 + 1 + 1 + 1) with
            | true => rfl
            | false => exact e6
def manyOf (k : Nat) : Nat := match k with
  | 1 => 2
  | 2 => 3
  | 3 => 3
  | 4 => 2
  | 5 => 1
  | _ => 0
theorem toList_inj {a b : ByteArray} (h : a.toList = b.toList) : a = b := by
  rw [ByteArray.toList_eq, ByteArray.toList_eq] at h
  exact ba_list h
theorem cK_true {l : List ByteArray} {w : ByteArray} {r : List ByteArray} (hl : l = w :: r) (hr : r.length ≤ 100000) {k : Nat} (h1 : k ≤ 5) (h : cK l k = true) : wB k = w ∧ r.length = manyOf k := by
  subst hl
  unfold cK at h
  rw [Bool.and_eq_true] at h
  obtain ⟨ha, hb⟩ := h
  have ha := toList_inj (eq_of_beq ha)
  have hb := eq_of_beq hb
  have hw : IntKind.i64.wrap (((w :: r).length : Int) - 1) = (r.length : Int) := by
    rw [List.length_cons, wrap_i64_of (by omega) (by omega)]; omega
  rw [hw] at hb
  have : k = 0 ∨ k = 1 ∨ k = 2 ∨ k = 3 ∨ k = 4 ∨ k = 5 := by omega
  rcases this with rfl | rfl | rfl | rfl | rfl | rfl
  · exact ⟨ha, by have hb : (0 : Int) = r.length := hb; show _ = 0; omega⟩
  · exact ⟨ha, by have hb : (2 : Int) = r.length := hb; show _ = 2; omega⟩
  · exact ⟨ha, by have hb : (3 : Int) = r.length := hb; show _ = 3; omega⟩
  · exact ⟨ha, by have hb : (3 : Int) = r.length := hb; show _ = 3; omega⟩
  · exact ⟨ha, by have hb : (2 : Int) = r.length := hb; show _ = 2; omega⟩
  · exact ⟨ha, by have hb : (1 : Int) = r.length := hb; show _ = 1; omega⟩
/-- Which kind it is that is found. -/
theorem kind_cases {w : ByteArray} {r : List ByteArray} (hr : r.length ≤ 100000) (hr1 : 1 ≤ r.length) : kindOf (w :: r) < 1 ∨ ∃ k : Nat, 1 ≤ k ∧ k ≤ 5 ∧ kindOf (w :: r) = k ∧ w = wB k ∧ r.length = manyOf k := by
  have key : ∀ k, k ≤ 5 → cK (w :: r) k = true → wB k = w ∧ r.length = manyOf k := fun k h5 h => cK_true rfl hr h5 h
  unfold kindOf
  cases h0 : cK (w :: r) 0 with
  | true => exact .inl (show (0 : Int) < 1 by decide)
  | false =>
    cases h1 : cK (w :: r) 1 with
    | true => exact .inr ⟨1, by omega, by omega, rfl, (key 1 (by omega) h1).1.symm, (key 1 (by omega) h1).2⟩
    | false =>
      cases h2 : cK (w :: r) 2 with
      | true => exact .inr ⟨2, by omega, by omega, rfl, (key 2 (by omega) h2).1.symm, (key 2 (by omega) h2).2⟩
      | false =>
        cases h3 : cK (w :: r) 3 with
        | true => exact .inr ⟨3, by omega, by omega, rfl, (key 3 (by omega) h3).1.symm, (key 3 (by omega) h3).2⟩
        | false =>
          cases h4 : cK (w :: r) 4 with
          | true => exact .inr ⟨4, by omega, by omega, rfl, (key 4 (by omega) h4).1.symm, (key 4 (by omega) h4).2⟩
          | false =>
            cases h5 : cK (w :: r) 5 with
            | true => exact .inr ⟨5, by omega, by omega, rfl, (key 5 (by omega) h5).1.symm, (key 5 (by omega) h5).2⟩
            | false => exact .inl (show (-1 : Int) < 1 by decide)
theorem cK_lit (i : Nat) (k : Nat) (r : List ByteArray) : cK (wB k :: r) i = (((getR shs i).word.data.toList == (wB k).data.toList) && ((getR shs i).many == IntKind.i64.wrap ((((wB k :: r).length : Nat) : Int) - 1))) := by
  unfold cK
  rw [show getR (wB k :: r) 0 = wB k from rfl, ByteArray.toList_eq, ByteArray.toList_eq]
theorem kind_at {k : Nat} {r : List ByteArray} (h1 : 1 ≤ k) (h5 : k ≤ 5) (hr : r.length = manyOf k) : kindOf (wB k :: r) = k := by
  have : k = 1 ∨ k = 2 ∨ k = 3 ∨ k = 4 ∨ k = 5 := by omega
  unfold kindOf
  simp only [cK_lit, List.length_cons, hr]
  rcases this with rfl | rfl | rfl | rfl | rfl <;> decide

/-! ### The numbers -/
theorem e7_none {s : ByteArray} {K : Nat} {k a b c : Int} {r : List ByteArray} (h : k < 1) (h1 : 1 ≤ r.length) : Ftrace_Event_7 s (K + 1) k a b c r (r.length : Int) ((0 : Nat) : Int) = some (noE, 13) := by
  rw [Ftrace_Event_7, decide_eq_true (show ((0 : Nat) : Int) < (r.length : Int) by omega), inR_of (show 0 < r.length by omega), decide_eq_true h]
  rfl
theorem e7_step {s : ByteArray} {K i : Nat} {k a b c : Int} {r : List ByteArray} {w : ByteArray} (h : ¬ k < 1) (hi : i < r.length) (hi3 : i < 3) (hw : r[i]? = some w) (hs : w.size ≤ 1000) :
    Ftrace_Event_7 s (K + 1) k a b c r (r.length : Int) (i : Int) = bif (U w).2 != 0 then some (noE, 13) else Ftrace_Event_7 s K k (selI i 0 (U w).1 a) (selI i 1 (U w).1 b) (selI i 2 (U w).1 c) r (r.length : Int) ((i + 1 : Nat) : Int) := by
  have e4 : getR r (i : Int).toNat = w := by
    show r.getD i _ = _
    simp [List.getD_eq_getElem?_getD, hw]
  rw [Ftrace_Event_7, decide_eq_true (show (i : Int) < (r.length : Int) by omega), inR_of hi, decide_eq_false h, e4, undecF hs, inR_of hi3, wrap_succ (by omega)]
  rfl
theorem e7_end {s : ByteArray} {K : Nat} {k a b c : Int} {r : List ByteArray} (h : ¬ k < 1) : Ftrace_Event_7 s (K + 1) k a b c r (r.length : Int) (r.length : Int) = some (⟨a, k, b, c⟩, 0) := by
  rw [Ftrace_Event_7, decide_eq_false (Int.lt_irrefl _), decide_eq_false h]
  rfl
theorem e7_one {s : ByteArray} {K : Nat} {k : Int} {x : ByteArray} (h : ¬ k < 1) (hx : x.size ≤ 1000) (hK : 5 ≤ K) :
    Ftrace_Event_7 s K k 0 0 0 [x] (([x].length : Nat) : Int) ((0 : Nat) : Int) = bif (U x).2 != 0 then some (noE, 13) else some (⟨(U x).1, k, 0, 0⟩, 0) := by
  obtain ⟨K, rfl⟩ : ∃ j, K = j + 2 := ⟨K - 2, by omega⟩
  rw [show K + 2 = K + 1 + 1 from rfl, e7_step h (by simp) (by omega) (w := x) rfl hx]
  have := e7_end (s := s) (K := K) (a := (U x).1) (b := 0) (c := 0) (r := [x]) h
  cases ((U x).2 != 0) with
  | true => rfl
  | false => exact this
theorem e7_two {s : ByteArray} {K : Nat} {k : Int} {x y : ByteArray} (h : ¬ k < 1) (hx : x.size ≤ 1000) (hy : y.size ≤ 1000) (hK : 5 ≤ K) :
    Ftrace_Event_7 s K k 0 0 0 [x, y] (([x, y].length : Nat) : Int) ((0 : Nat) : Int) = bif (U x).2 != 0 then some (noE, 13) else bif (U y).2 != 0 then some (noE, 13) else some (⟨(U x).1, k, (U y).1, 0⟩, 0) := by
  obtain ⟨K, rfl⟩ : ∃ j, K = j + 3 := ⟨K - 3, by omega⟩
  rw [show K + 3 = K + 2 + 1 from rfl, e7_step h (by simp) (by omega) (w := x) rfl hx, show K + 2 = K + 1 + 1 from rfl, e7_step h (by simp) (by omega) (w := y) rfl hy]
  have := e7_end (s := s) (K := K) (a := (U x).1) (b := (U y).1) (c := 0) (r := [x, y]) h
  cases ((U x).2 != 0) with
  | true => rfl
  | false =>
    cases ((U y).2 != 0) with
    | true => rfl
    | false => exact this
theorem e7_three {s : ByteArray} {K : Nat} {k : Int} {x y z : ByteArray} (h : ¬ k < 1) (hx : x.size ≤ 1000) (hy : y.size ≤ 1000) (hz : z.size ≤ 1000) (hK : 5 ≤ K) :
    Ftrace_Event_7 s K k 0 0 0 [x, y, z] (([x, y, z].length : Nat) : Int) ((0 : Nat) : Int) = bif (U x).2 != 0 then some (noE, 13) else bif (U y).2 != 0 then some (noE, 13) else bif (U z).2 != 0 then some (noE, 13) else some (⟨(U x).1, k, (U y).1, (U z).1⟩, 0) := by
  obtain ⟨K, rfl⟩ : ∃ j, K = j + 4 := ⟨K - 4, by omega⟩
  rw [show K + 4 = K + 3 + 1 from rfl, e7_step h (by simp) (by omega) (w := x) rfl hx, show K + 3 = K + 2 + 1 from rfl, e7_step h (by simp) (by omega) (w := y) rfl hy, show K + 2 = K + 1 + 1 from rfl, e7_step h (by simp) (by omega) (w := z) rfl hz]
  have := e7_end (s := s) (K := K) (a := (U x).1) (b := (U y).1) (c := (U z).1) (r := [x, y, z]) h
  cases ((U x).2 != 0) with
  | true => rfl
  | false =>
    cases ((U y).2 != 0) with
    | true => rfl
    | false =>
      cases ((U z).2 != 0) with
      | true => rfl
      | false => exact this
/-- The program's way from words on. -/
theorem event_words {s w : ByteArray} {r : List ByteArray} {K : Nat} (hs : s.size ≤ 1000) (hw : wordsF s = (w :: r, 0)) (h1 : 1 ≤ r.length) (hr : r.length ≤ 100000) (hK : 100 ≤ K) :
    Ftrace_Event K s = Ftrace_Event_7 s K (kindOf (w :: r)) 0 0 0 r (r.length : Int) ((0 : Nat) : Int) := by
  unfold Ftrace_Event Flex_Words
  rw [decide_eq_true (show s.size ≤ 100000 by omega)]
  simp only [cond_true, Option.bind_some]
  rw [hw]
  simp only [bne_self_eq_false, cond_false]
  rw [decide_eq_false (show ¬ (((w :: r).length : Nat) : Int) < 2 by rw [List.length_cons]; omega)]
  simp only [cond_false]
  rw [show Ftrace_shapes K = some shs from rfl]
  simp only [Option.bind_some]
  rw [kind_eq (by simp) (by omega)]
  simp only [Option.bind_some, Option.getD_some, Option.getD_none]
  rw [show cutOk (w :: r).length 1 (((w :: r).length : Nat) : Int) = true from cutOk_of (l := 1) (by simp) (Nat.le_refl _)]
  simp only [cond_true]
  have e : List.take ((((w :: r).length : Nat) : Int).toNat - 1) (List.drop 1 (w :: r)) = r := by
    show List.take ((r.length + 1) - 1) r = r
    simp
  rw [e]
  rfl
/-- trace.Event: the event whose line it is, or none. -/
theorem event_eq {s : ByteArray} (hs : s.size ≤ 1000) {K : Nat} (hK : 100 ≤ K) : ∃ r, Ftrace_Event K s = some r ∧ ((r = (noE, 13)) ∨ ∃ e, may e ∧ evOk e ∧ s = lineS e ∧ r = (e, 0)) := by
  cases hw : wordsF s with
  | mk l c =>
    by_cases hc : c = 0
    · subst hc
      cases l with
      | nil =>
        refine ⟨(noE, 13), ?_, .inl rfl⟩
        unfold Ftrace_Event Flex_Words
        rw [decide_eq_true (show s.size ≤ 100000 by omega)]
        simp only [cond_true, Option.bind_some]
        rw [hw]
        rfl
      | cons w r =>
        obtain ⟨hj, hsz⟩ := words_join hw (by simp)
        cases r with
        | nil =>
          refine ⟨(noE, 13), ?_, .inl rfl⟩
          unfold Ftrace_Event Flex_Words
          rw [decide_eq_true (show s.size ≤ 100000 by omega)]
          simp only [cond_true, Option.bind_some]
          rw [hw]
          rfl
        | cons x r =>
          have hlen : (x :: r).length ≤ 100000 := by
            have h1 : (splS s).length = (w :: x :: r).length := by
              unfold wordsF at hw
              split at hw
              · split at hw
                · injection hw with h _; cases h
                · split at hw
                  · injection hw with _ h; cases h
                  · injection hw with h _; rw [h]
              · injection hw with _ h; cases h
            have h2 := splS_len s
            have h3 := Lib.countB_le blankS (by decide) s.size s (Nat.le_refl _)
            rw [List.length_cons] at h1
            omega
          have hx : x.size ≤ 1000 := by have := hsz x (by simp); omega
          rw [event_words hs hw (by simp) hlen hK]
          rcases kind_cases (w := w) (r := x :: r) hlen (by simp) with hk | ⟨k, k1, k5, hk, rfl, hr⟩
          · obtain ⟨K, rfl⟩ : ∃ j, K = j + 1 := ⟨K - 1, by omega⟩
            exact ⟨_, e7_none hk (by simp), .inl rfl⟩
          · rw [hk]
            clear hk
            have hk0 : ¬ (k : Int) < 1 := by omega
            have three : ∀ y z, r = [y, z] → (k = 2 ∨ k = 3) → ∃ q, Ftrace_Event_7 s K (k : Int) 0 0 0 (x :: r) (((x :: r).length : Nat) : Int) ((0 : Nat) : Int) = some q ∧ ((q = (noE, 13)) ∨ ∃ e, may e ∧ evOk e ∧ s = lineS e ∧ q = (e, 0)) := fun y z hr hk => by
              subst hr
              have hy : y.size ≤ 1000 := by have := hsz y (by simp); omega
              have hz : z.size ≤ 1000 := by have := hsz z (by simp); omega
              rw [e7_three hk0 hx hy hz (by omega)]
              rcases U_cases x with ⟨a, oa, rfl, ua⟩ | ua
              · rcases U_cases y with ⟨b, ob, rfl, ub⟩ | ub
                · rcases U_cases z with ⟨c, oc, rfl, uc⟩ | uc
                  · rw [ua, ub, uc]
                    refine ⟨(⟨a, k, b, c⟩, 0), rfl, .inr ⟨⟨a, k, b, c⟩, ?_, ⟨oa, ob, oc⟩, ?_, rfl⟩⟩
                    · rcases hk with rfl | rfl
                      · exact .inr (.inl rfl)
                      · exact .inr (.inr (.inl rfl))
                    · rw [← hj]
                      rcases hk with rfl | rfl <;> rfl
                  · rw [ua, ub, uc]; exact ⟨_, rfl, .inl rfl⟩
                · rw [ua, ub]; exact ⟨_, rfl, .inl rfl⟩
              · rw [ua]; exact ⟨_, rfl, .inl rfl⟩
            have two : ∀ y, r = [y] → (k = 1 ∨ k = 4) → ∃ q, Ftrace_Event_7 s K (k : Int) 0 0 0 (x :: r) (((x :: r).length : Nat) : Int) ((0 : Nat) : Int) = some q ∧ ((q = (noE, 13)) ∨ ∃ e, may e ∧ evOk e ∧ s = lineS e ∧ q = (e, 0)) := fun y hr hk => by
              subst hr
              have hy : y.size ≤ 1000 := by have := hsz y (by simp); omega
              rw [e7_two hk0 hx hy (by omega)]
              rcases U_cases x with ⟨a, oa, rfl, ua⟩ | ua
              · rcases U_cases y with ⟨b, ob, rfl, ub⟩ | ub
                · rw [ua, ub]
                  refine ⟨(⟨a, k, b, 0⟩, 0), rfl, .inr ⟨⟨a, k, b, 0⟩, ?_, ⟨oa, ob, zero64⟩, ?_, rfl⟩⟩
                  · rcases hk with rfl | rfl
                    · exact .inl ⟨rfl, rfl⟩
                    · exact .inr (.inr (.inr (.inl ⟨rfl, rfl⟩)))
                  · rw [← hj]
                    rcases hk with rfl | rfl <;> rfl
                · rw [ua, ub]; exact ⟨_, rfl, .inl rfl⟩
              · rw [ua]; exact ⟨_, rfl, .inl rfl⟩
            have one : r = [] → k = 5 → ∃ q, Ftrace_Event_7 s K (k : Int) 0 0 0 (x :: r) (((x :: r).length : Nat) : Int) ((0 : Nat) : Int) = some q ∧ ((q = (noE, 13)) ∨ ∃ e, may e ∧ evOk e ∧ s = lineS e ∧ q = (e, 0)) := fun hr hk => by
              subst hr
              rw [e7_one hk0 hx (by omega)]
              rcases U_cases x with ⟨a, oa, rfl, ua⟩ | ua
              · rw [ua]
                refine ⟨(⟨a, k, 0, 0⟩, 0), rfl, .inr ⟨⟨a, k, 0, 0⟩, ?_, ⟨oa, zero64, zero64⟩, ?_, rfl⟩⟩
                · subst hk; exact .inr (.inr (.inr (.inr ⟨rfl, rfl, rfl⟩)))
                · rw [← hj]; subst hk; rfl
              · rw [ua]; exact ⟨_, rfl, .inl rfl⟩
            have : k = 1 ∨ k = 2 ∨ k = 3 ∨ k = 4 ∨ k = 5 := by omega
            have l2 : r.length = 1 → ∃ y, r = [y] := fun h => by
              match r, h with
              | [y], _ => exact ⟨y, rfl⟩
            have l3 : r.length = 2 → ∃ y z, r = [y, z] := fun h => by
              match r, h with
              | [y, z], _ => exact ⟨y, z, rfl⟩
            rw [List.length_cons] at hr
            rcases this with rfl | rfl | rfl | rfl | rfl
            · obtain ⟨y, hy⟩ := l2 (by have : r.length + 1 = 2 := hr; omega)
              exact two y hy (.inl rfl)
            · obtain ⟨y, z, hy⟩ := l3 (by have : r.length + 1 = 3 := hr; omega)
              exact three y z hy (.inl rfl)
            · obtain ⟨y, z, hy⟩ := l3 (by have : r.length + 1 = 3 := hr; omega)
              exact three y z hy (.inr rfl)
            · obtain ⟨y, hy⟩ := l2 (by have : r.length + 1 = 2 := hr; omega)
              exact two y hy (.inr rfl)
            · exact one (List.length_eq_zero_iff.1 (by have : r.length + 1 = 1 := hr; omega)) rfl
    · refine ⟨(noE, 13), ?_, .inl rfl⟩
      unfold Ftrace_Event Flex_Words
      rw [decide_eq_true (show s.size ≤ 100000 by omega)]
      simp only [cond_true, Option.bind_some]
      rw [hw]
      have : (c != 0) = true := by rw [bne_iff_ne]; exact hc
      simp only [this]
      rfl
/-- An event's line is read as that event. -/
theorem event_back {e : TEvent} (hm : may e) (ho : evOk e) {K : Nat} (hK : 100 ≤ K) : Ftrace_Event K (lineS e) = some (e, 0) := by
  have hL := lineOf_ev e
  have hw := words_line hL
  have hs : (lineS e).size ≤ 1000 := by have := hL.size; omega
  obtain ⟨n0, k, n1, n2⟩ := e
  obtain ⟨o0, o1, o2⟩ := ho
  simp only at o0 o1 o2
  have z0 := (sD_len n0).2
  have z1 := (sD_len n1).2
  have z2 := (sD_len n2).2
  have u0 := U_sD o0.1 o0.2
  have u1 := U_sD o1.1 o1.2
  have u2 := U_sD o2.1 o2.2
  rcases hm with ⟨rfl, h⟩ | rfl | rfl | ⟨rfl, h⟩ | ⟨rfl, h, h'⟩
  · have h : n2 = 0 := h
    subst h
    rw [event_words (w := wB 1) (r := [sD n0, sD n1]) hs hw (by simp) (by simp) hK, kind_at (k := 1) (by omega) (by omega) rfl, e7_two (by decide) (by omega) (by omega) (by omega), u0, u1]
    rfl
  · rw [event_words (w := wB 2) (r := [sD n0, sD n1, sD n2]) hs hw (by simp) (by simp) hK, kind_at (k := 2) (by omega) (by omega) rfl, e7_three (by decide) (by omega) (by omega) (by omega) (by omega), u0, u1, u2]
    rfl
  · rw [event_words (w := wB 3) (r := [sD n0, sD n1, sD n2]) hs hw (by simp) (by simp) hK, kind_at (k := 3) (by omega) (by omega) rfl, e7_three (by decide) (by omega) (by omega) (by omega) (by omega), u0, u1, u2]
    rfl
  · have h : n2 = 0 := h
    subst h
    rw [event_words (w := wB 4) (r := [sD n0, sD n1]) hs hw (by simp) (by simp) hK, kind_at (k := 4) (by omega) (by omega) rfl, e7_two (by decide) (by omega) (by omega) (by omega), u0, u1]
    rfl
  · have h : n1 = 0 := h
    have h' : n2 = 0 := h'
    subst h; subst h'
    rw [event_words (w := wB 5) (r := [sD n0]) hs hw (by simp) (by simp) hK, kind_at (k := 5) (by omega) (by omega) rfl, e7_one (by decide) (by omega) (by omega), u0]
    rfl

end

section
open Go Go.Dt Go.Proofs
set_option linter.unusedVariables false
set_option linter.unusedSimpArgs false

theorem undec6_rng {s : ByteArray} (hs : s.size ≤ 100) : ∀ (m i K : Nat) (p : Int), i + m = s.size → m + 30 ≤ K → ∃ r, FR03_Undec_6 s K p (i : Int) = some r ∧ i64 r.1
  | 0, i, K, p, h, hK => by
    obtain ⟨K, rfl⟩ : ∃ k, K = k + 1 := ⟨K - 1, by omega⟩
    have key : ∀ x : Int, -9223372036854775808 ≤ x → x ≤ 9223372036854775807 → ∃ r, ((FR03_Dec K x).bind fun u => some (x, u.toList == s.toList)) = some r ∧ i64 r.1 := fun x x1 x2 => by
      rw [R03_Dec_eq x1 x2 (by omega)]
      exact ⟨_, rfl, x1, x2⟩
    have wb : ∀ x : Int, -9223372036854775808 ≤ IntKind.i64.wrap x ∧ IntKind.i64.wrap x ≤ 9223372036854775807 := fun x => by
      rw [IntKind.wrap_i64]
      omega
    rw [FR03_Undec_6, decide_eq_false (show ¬ (i : Int) < (s.size : Int) by omega)]
    simp only [cond_false]
    cases (byteAt s 0 == 45) with
    | true => exact key _ (wb _).1 (wb _).2
    | false => exact key _ (wb _).1 (wb _).2
  | m + 1, i, K, p, h, hK => by
    obtain ⟨K, rfl⟩ : ∃ k, K = k + 1 := ⟨K - 1, by omega⟩
    have ih := fun p => undec6_rng hs m (i + 1) K p (by omega) (by omega)
    have none : ∃ r : Int × Bool, some ((0 : Int), false) = some r ∧ i64 r.1 := ⟨_, rfl, zero64⟩
    rw [FR03_Undec_6, decide_eq_true (show (i : Int) < (s.size : Int) by omega), inR_of (show i < s.size by omega), wrap_succ (by omega)]
    cases ((i : Int) == 0) <;> cases (byteAt s 0 == 45) <;> cases decide (byteAt s (i : Int) < 48) <;> cases decide (byteAt s (i : Int) > 57) <;> simp only [cond_true, cond_false] <;> first | exact ih _ | exact none
theorem undec_rng (s : ByteArray) {K : Nat} (hK : 200 ≤ K) : ∃ r, FR03_Undec K s = some r ∧ i64 r.1 := by
  unfold FR03_Undec
  by_cases h0 : s.size = 0
  · have : ((s.size : Int) == 0) = true := by rw [h0]; rfl
    rw [this]
    exact ⟨_, rfl, zero64⟩
  · have : ((s.size : Int) == 0) = false := by rw [beq_eq_false_iff_ne]; omega
    rw [this]
    simp only [cond_false]
    by_cases h20 : s.size > 20
    · rw [decide_eq_true (show (s.size : Int) > 20 by omega)]
      exact ⟨_, rfl, zero64⟩
    · rw [decide_eq_false (show ¬ (s.size : Int) > 20 by omega), show inR 0 s.size = true from inR_of (i := 0) (by omega)]
      exact undec6_rng (by omega) s.size 0 K 0 (by omega) (by omega)
theorem ten_any {s : ByteArray} {a b c : Int} (ha : i64 a) (hb : i64 b) (hc : i64 c) : ∀ (m k K : Nat), k + m = 6 → m + 30 ≤ K →
    ∃ r, FR37_Event_10 s K ⟨a, b, c⟩ (k : Int) = some r ∧ ((r = (noE, false)) ∨ ∃ e, may e ∧ evOk e ∧ s = lineS e ∧ r = (e, true))
  | 0, k, K, h, hK => by
    obtain ⟨K, rfl⟩ : ∃ k, K = k + 1 := ⟨K - 1, by omega⟩
    rw [FR37_Event_10, decide_eq_false (show ¬ (k : Int) ≤ 5 by omega)]
    exact ⟨_, rfl, .inl rfl⟩
  | m + 1, k, K, h, hK => by
    obtain ⟨K, rfl⟩ : ∃ k, K = k + 1 := ⟨K - 1, by omega⟩
    have ih := ten_any (s := s) ha hb hc m (k + 1) K (by omega) (by omega)
    obtain ⟨q, hq, hm⟩ := may_eq K ⟨a, (k : Int), b, c⟩
    rw [FR37_Event_10, decide_eq_true (show (k : Int) ≤ 5 by omega), hq, wrap_succ (by omega)]
    simp only [cond_true, Option.bind_some]
    cases q with
    | false => exact ih
    | true =>
      have hm := hm.1 rfl
      rw [refLine_eq hm ⟨ha, hb, hc⟩ (by omega)]
      simp only [cond_true, Option.bind_some]
      cases he : ((lineS ⟨a, (k : Int), b, c⟩).toList == s.toList) with
      | false => exact ih
      | true => exact ⟨_, rfl, .inr ⟨_, hm, ⟨ha, hb, hc⟩, (toList_inj (eq_of_beq he)).symm, rfl⟩⟩
theorem selI_ok {i j : Nat} {x a : Int} (hx : i64 x) (ha : i64 a) : i64 (selI i j x a) := by
  unfold selI
  cases (i == j) <;> assumption
theorem six_any {s : ByteArray} {l : List ByteArray} (hl : l.length ≤ 4) : ∀ (m i K : Nat) (a b c : Int), i64 a → i64 b → i64 c → 1 ≤ i → i + m = l.length → m + 300 ≤ K →
    ∃ r, FR37_Event_6 s K l a b c (i : Int) = some r ∧ ((r = (noE, false)) ∨ ∃ e, may e ∧ evOk e ∧ s = lineS e ∧ r = (e, true))
  | 0, i, K, a, b, c, ha, hb, hc, h1, h, hK => by
    obtain ⟨K, rfl⟩ : ∃ k, K = k + 1 := ⟨K - 1, by omega⟩
    rw [FR37_Event_6, decide_eq_false (show ¬ (i : Int) < (l.length : Int) by omega)]
    exact ten_any ha hb hc 5 1 K (by omega) (by omega)
  | m + 1, i, K, a, b, c, ha, hb, hc, h1, h, hK => by
    obtain ⟨K, rfl⟩ : ∃ k, K = k + 1 := ⟨K - 1, by omega⟩
    obtain ⟨r, hr, hr1⟩ := undec_rng (getR l (i : Int).toNat) (K := K) (by omega)
    have e : IntKind.i64.wrap ((i : Int) - 1) = ((i - 1 : Nat) : Int) := by rw [wrap_i64_of (by omega) (by omega)]; omega
    rw [FR37_Event_6, decide_eq_true (show (i : Int) < (l.length : Int) by omega), inR_of (show i < l.length by omega), hr, e, wrap_succ (by omega)]
    simp only [cond_true, Option.bind_some]
    rw [inR_of (show i - 1 < 3 by omega)]
    exact six_any hl m (i + 1) K _ _ _ (selI_ok hr1 ha) (selI_ok hr1 hb) (selI_ok hr1 hc) (by omega) (by omega) (by omega)
theorem six_step {s : ByteArray} {l : List ByteArray} {K i : Nat} {a b c v : Int} (hi : i + 1 < l.length) (hl : l.length ≤ 4) (hw : l[i + 1]? = some (sD v)) (hv : i64 v) (hK : 200 ≤ K) :
    FR37_Event_6 s (K + 1) l a b c ((i + 1 : Nat) : Int) = FR37_Event_6 s K l (selI i 0 v a) (selI i 1 v b) (selI i 2 v c) ((i + 2 : Nat) : Int) := by
  have e4 : getR l ((i + 1 : Nat) : Int).toNat = sD v := by
    show l.getD (i + 1) _ = _
    simp [List.getD_eq_getElem?_getD, hw]
  have e : IntKind.i64.wrap (((i + 1 : Nat) : Int) - 1) = (i : Int) := by rw [wrap_i64_of (by omega) (by omega)]; omega
  rw [FR37_Event_6, decide_eq_true (show ((i + 1 : Nat) : Int) < (l.length : Int) by omega), inR_of hi, e4, Undec_sD hv.1 hv.2 hK, e, wrap_succ (by omega)]
  simp only [cond_true, Option.bind_some]
  rw [inR_of (show i < 3 by omega)]
  rfl
theorem six_end {s : ByteArray} {l : List ByteArray} {K : Nat} {a b c : Int} : FR37_Event_6 s (K + 1) l a b c (l.length : Int) = FR37_Event_10 s K ⟨a, b, c⟩ 1 := by
  rw [FR37_Event_6, decide_eq_false (Int.lt_irrefl _)]
  rfl
theorem wB_inj {j k : Nat} (h1 : 1 ≤ j) (h5 : j ≤ 5) (k1 : 1 ≤ k) (k5 : k ≤ 5) (h : wB j = wB k) : j = k := by
  have h := congrArg (fun b : ByteArray => b.data.toList) h
  have hj : j = 1 ∨ j = 2 ∨ j = 3 ∨ j = 4 ∨ j = 5 := by omega
  have hk : k = 1 ∨ k = 2 ∨ k = 3 ∨ k = 4 ∨ k = 5 := by omega
  rcases hj with rfl | rfl | rfl | rfl | rfl <;> rcases hk with rfl | rfl | rfl | rfl | rfl <;> first | rfl | (exfalso; revert h; decide)
theorem head_we {e : TEvent} (hm : may e) : ∃ k : Nat, 1 ≤ k ∧ k ≤ 5 ∧ e.Kind = k ∧ (evWe e).head? = some (wB k) := by
  obtain ⟨n0, k, n1, n2⟩ := e
  rcases hm with ⟨rfl, _⟩ | rfl | rfl | ⟨rfl, _⟩ | ⟨rfl, _, _⟩
  · exact ⟨1, by omega, by omega, rfl, rfl⟩
  · exact ⟨2, by omega, by omega, rfl, rfl⟩
  · exact ⟨3, by omega, by omega, rfl, rfl⟩
  · exact ⟨4, by omega, by omega, rfl, rfl⟩
  · exact ⟨5, by omega, by omega, rfl, rfl⟩
theorem line_kind {e e' : TEvent} (hm : may e) (hm' : may e') (h : lineS e' = lineS e) : e'.Kind = e.Kind := by
  have h1 := (lineOf_ev e).spl
  have h2 := (lineOf_ev e').spl
  rw [h] at h2
  have h3 := h2.symm.trans h1
  obtain ⟨k, k1, k5, hk, hh⟩ := head_we hm
  obtain ⟨j, j1, j5, hj, hh'⟩ := head_we hm'
  rw [h3, hh] at hh'
  have := wB_inj k1 k5 j1 j5 (Option.some.inj hh')
  omega
theorem ten_at {a b c : Int} {k : Nat} (hm : may ⟨a, (k : Int), b, c⟩) (ho : evOk ⟨a, (k : Int), b, c⟩) : ∀ (m j K : Nat), j + m = k → m + 30 ≤ K →
    FR37_Event_10 (lineS ⟨a, (k : Int), b, c⟩) K ⟨a, b, c⟩ (j : Int) = some (⟨a, (k : Int), b, c⟩, true)
  | 0, j, K, h, hK => by
    have : j = k := by omega
    subst this
    obtain ⟨K, rfl⟩ : ∃ k, K = k + 1 := ⟨K - 1, by omega⟩
    obtain ⟨q, hq, hm2⟩ := may_eq K ⟨a, (j : Int), b, c⟩
    have hk5 : (j : Int) ≤ 5 := by
      obtain ⟨k, _, h5, hk, _⟩ := head_we hm
      have hk : (j : Int) = k := hk
      omega
    rw [FR37_Event_10, decide_eq_true hk5, hq, hm2.2 hm, refLine_eq hm ho (by omega)]
    simp
  | m + 1, j, K, h, hK => by
    obtain ⟨K, rfl⟩ : ∃ k, K = k + 1 := ⟨K - 1, by omega⟩
    obtain ⟨q, hq, hm2⟩ := may_eq K ⟨a, (j : Int), b, c⟩
    have ih := ten_at hm ho m (j + 1) K (by omega) (by omega)
    have hk5 : (j : Int) ≤ 5 := by
      obtain ⟨k', _, h5, hk, _⟩ := head_we hm
      have hk : (k : Int) = k' := hk
      omega
    rw [FR37_Event_10, decide_eq_true hk5, hq, wrap_succ (by omega)]
    simp only [cond_true, Option.bind_some]
    cases q with
    | false => exact ih
    | true =>
      have hm3 := hm2.1 rfl
      rw [refLine_eq hm3 ho (by omega)]
      simp only [cond_true, Option.bind_some]
      cases he : ((lineS ⟨a, (j : Int), b, c⟩).toList == (lineS ⟨a, (k : Int), b, c⟩).toList) with
      | false => exact ih
      | true =>
        have := line_kind hm hm3 (toList_inj (eq_of_beq he))
        have : (j : Int) = k := this
        omega
/-- The reference's Event. -/
theorem refEvent_eq {s : ByteArray} (hs : s.size ≤ 1000) {K : Nat} (hK : 300000 ≤ K) : ∃ r, FR37_Event K s = some r ∧ ((r = (noE, false)) ∨ ∃ e, may e ∧ evOk e ∧ s = lineS e ∧ r = (e, true)) := by
  obtain ⟨⟨l, is⟩, hw, _, _⟩ := refWords (s := s) (by omega) hK
  unfold FR37_Event
  rw [hw]
  simp only [Option.bind_some]
  cases is with
  | false => exact ⟨_, rfl, .inl rfl⟩
  | true =>
    simp only [Bool.not_true, cond_false]
    by_cases h2 : l.length < 2
    · rw [decide_eq_true (show (l.length : Int) < 2 by omega)]
      exact ⟨_, rfl, .inl rfl⟩
    · rw [decide_eq_false (show ¬ (l.length : Int) < 2 by omega)]
      by_cases h4 : l.length > 4
      · rw [decide_eq_true (show (l.length : Int) > 4 by omega)]
        exact ⟨_, rfl, .inl rfl⟩
      · rw [decide_eq_false (show ¬ (l.length : Int) > 4 by omega)]
        exact six_any (by omega) (l.length - 1) 1 K 0 0 0 zero64 zero64 zero64 (by omega) (by omega) (by omega)
theorem refEvent_back {e : TEvent} (hm : may e) (ho : evOk e) {K : Nat} (hK : 300000 ≤ K) : FR37_Event K (lineS e) = some (e, true) := by
  have hw := ref_line (lineOf_ev e) hK
  unfold FR37_Event
  rw [hw]
  simp only [Option.bind_some, Bool.not_true, cond_false]
  obtain ⟨n0, k, n1, n2⟩ := e
  obtain ⟨o0, o1, o2⟩ := ho
  simp only at o0 o1 o2
  obtain ⟨K, rfl⟩ : ∃ j, K = j + 5 := ⟨K - 5, by omega⟩
  have two : ∀ j : Nat, (j = 1 ∨ j = 4) → may ⟨n0, (j : Int), n1, 0⟩ → FR37_Event_6 (lineS ⟨n0, (j : Int), n1, 0⟩) (K + 5) [wB j, sD n0, sD n1] 0 0 0 1 = some (⟨n0, (j : Int), n1, 0⟩, true) := fun j hj hm => by
    have s1 := six_step (s := lineS ⟨n0, (j : Int), n1, 0⟩) (l := [wB j, sD n0, sD n1]) (K := K + 4) (i := 0) (a := 0) (b := 0) (c := 0) (v := n0) (by simp) (by simp) rfl o0 (by omega)
    have s2 := six_step (s := lineS ⟨n0, (j : Int), n1, 0⟩) (l := [wB j, sD n0, sD n1]) (K := K + 3) (i := 1) (a := n0) (b := 0) (c := 0) (v := n1) (by simp) (by simp) rfl o1 (by omega)
    have s3 := six_end (s := lineS ⟨n0, (j : Int), n1, 0⟩) (l := [wB j, sD n0, sD n1]) (K := K + 2) (a := n0) (b := n1) (c := 0)
    refine s1.trans (s2.trans (s3.trans ?_))
    exact ten_at hm ⟨o0, o1, zero64⟩ (j - 1) 1 (K + 2) (by omega) (by omega)
  have three : ∀ j : Nat, (j = 2 ∨ j = 3) → may ⟨n0, (j : Int), n1, n2⟩ → FR37_Event_6 (lineS ⟨n0, (j : Int), n1, n2⟩) (K + 5) [wB j, sD n0, sD n1, sD n2] 0 0 0 1 = some (⟨n0, (j : Int), n1, n2⟩, true) := fun j hj hm => by
    have s1 := six_step (s := lineS ⟨n0, (j : Int), n1, n2⟩) (l := [wB j, sD n0, sD n1, sD n2]) (K := K + 4) (i := 0) (a := 0) (b := 0) (c := 0) (v := n0) (by simp) (by simp) rfl o0 (by omega)
    have s2 := six_step (s := lineS ⟨n0, (j : Int), n1, n2⟩) (l := [wB j, sD n0, sD n1, sD n2]) (K := K + 3) (i := 1) (a := n0) (b := 0) (c := 0) (v := n1) (by simp) (by simp) rfl o1 (by omega)
    have s2b := six_step (s := lineS ⟨n0, (j : Int), n1, n2⟩) (l := [wB j, sD n0, sD n1, sD n2]) (K := K + 2) (i := 2) (a := n0) (b := n1) (c := 0) (v := n2) (by simp) (by simp) rfl o2 (by omega)
    have s3 := six_end (s := lineS ⟨n0, (j : Int), n1, n2⟩) (l := [wB j, sD n0, sD n1, sD n2]) (K := K + 1) (a := n0) (b := n1) (c := n2)
    refine s1.trans (s2.trans (s2b.trans (s3.trans ?_)))
    exact ten_at hm ⟨o0, o1, o2⟩ (j - 1) 1 (K + 1) (by omega) (by omega)
  rcases hm with ⟨rfl, h⟩ | rfl | rfl | ⟨rfl, h⟩ | ⟨rfl, h, h'⟩
  · have h : n2 = 0 := h
    subst h
    exact two 1 (.inl rfl) (.inl ⟨rfl, rfl⟩)
  · exact three 2 (.inl rfl) (.inr (.inl rfl))
  · exact three 3 (.inr rfl) (.inr (.inr (.inl rfl)))
  · have h : n2 = 0 := h
    subst h
    exact two 4 (.inr rfl) (.inr (.inr (.inr (.inl ⟨rfl, rfl⟩))))
  · have h : n1 = 0 := h
    have h' : n2 = 0 := h'
    subst h; subst h'
    have s1 := six_step (s := lineS ⟨n0, 5, 0, 0⟩) (l := [wB 5, sD n0]) (K := K + 4) (i := 0) (a := 0) (b := 0) (c := 0) (v := n0) (by simp) (by simp) rfl o0 (by omega)
    have s3 := six_end (s := lineS ⟨n0, 5, 0, 0⟩) (l := [wB 5, sD n0]) (K := K + 3) (a := n0) (b := 0) (c := 0)
    refine s1.trans (s3.trans ?_)
    exact ten_at (k := 5) (.inr (.inr (.inr (.inr ⟨rfl, rfl, rfl⟩)))) ⟨o0, zero64, zero64⟩ 4 1 (K + 3) (by omega) (by omega)

end

section
open Go Go.Dt Go.Proofs Go.Shelf Go.RowKit
set_option linter.unusedVariables false

def lays166_ren : Go.Shelf.Ren := ⟨fun | 166 => 37 | 240 => 57 | 276 => 77 | n => n, fun | 70 => 81 | 9 => 9 | 3 => 3 | 75 => 86 | 0 => 0 | 72 => 84 | 37 => 82 | 4 => 4 | 164 => 131 | 80 => 89 | 5 => 5 | 20 => 20 | n => n, fun | n => n⟩
theorem lays166 : Go.Proofs.Lays.n166 Tryz.prog lays166_ren := {
  mixed := by kernel_rfl
  f166 := Tryz.func37.trans (congrArg some (by kernel_rfl))
  f240 := Tryz.func57.trans (congrArg some (by kernel_rfl))
  f276 := Tryz.func77.trans (congrArg some (by kernel_rfl))
  t0 := Tryz.underlying0
  a0 := Tryz.isAgg0
  z0 := Tryz.sizeOf0
  v0 := Tryz.zeroValue0
  t3 := Tryz.underlying3
  a3 := Tryz.isAgg3
  z3 := Tryz.sizeOf3
  v3 := Tryz.zeroValue3
  t4 := Tryz.underlying4
  a4 := Tryz.isAgg4
  z4 := Tryz.sizeOf4
  v4 := Tryz.zeroValue4
  t9 := Tryz.underlying9
  a9 := Tryz.isAgg9
  z9 := Tryz.sizeOf9
  v9 := Tryz.zeroValue9
  t20 := Tryz.underlying20
  a20 := Tryz.isAgg20
  z20 := Tryz.sizeOf20
  v20 := Tryz.zeroValue20
  t37 := Tryz.underlying82
  a37 := Tryz.isAgg82
  z37 := Tryz.sizeOf82
  v37 := Tryz.zeroValue82
  t70 := Tryz.underlying81
  a70 := Tryz.isAgg81
  z70 := Tryz.sizeOf81
  v70 := Tryz.zeroValue81
  t72 := Tryz.underlying84
  a72 := Tryz.isAgg84
  z72 := Tryz.sizeOf84
  v72 := Tryz.zeroValue84
  t75 := Tryz.underlying86
  a75 := Tryz.isAgg86
  z75 := Tryz.sizeOf86
  v75 := Tryz.zeroValue86
  t164 := Tryz.underlying131
  a164 := Tryz.isAgg131
  z164 := Tryz.sizeOf131
  v164 := Tryz.zeroValue131 }
def lays167_ren : Go.Shelf.Ren := ⟨fun | 167 => 73 | 240 => 57 | 276 => 77 | n => n, fun | 70 => 81 | 5 => 5 | 75 => 86 | 0 => 0 | 72 => 84 | 37 => 82 | 4 => 4 | 164 => 131 | 80 => 89 | 9 => 9 | 20 => 20 | n => n, fun | n => n⟩
theorem lays167 : Go.Proofs.Lays.n167 Tryz.prog lays167_ren := {
  mixed := by kernel_rfl
  f167 := Tryz.func73.trans (congrArg some (by kernel_rfl))
  f240 := Tryz.func57.trans (congrArg some (by kernel_rfl))
  f276 := Tryz.func77.trans (congrArg some (by kernel_rfl))
  t0 := Tryz.underlying0
  a0 := Tryz.isAgg0
  z0 := Tryz.sizeOf0
  v0 := Tryz.zeroValue0
  t4 := Tryz.underlying4
  a4 := Tryz.isAgg4
  z4 := Tryz.sizeOf4
  v4 := Tryz.zeroValue4
  t5 := Tryz.underlying5
  a5 := Tryz.isAgg5
  z5 := Tryz.sizeOf5
  v5 := Tryz.zeroValue5
  t9 := Tryz.underlying9
  a9 := Tryz.isAgg9
  z9 := Tryz.sizeOf9
  v9 := Tryz.zeroValue9
  t20 := Tryz.underlying20
  a20 := Tryz.isAgg20
  z20 := Tryz.sizeOf20
  v20 := Tryz.zeroValue20
  t37 := Tryz.underlying82
  a37 := Tryz.isAgg82
  z37 := Tryz.sizeOf82
  v37 := Tryz.zeroValue82
  t70 := Tryz.underlying81
  a70 := Tryz.isAgg81
  z70 := Tryz.sizeOf81
  v70 := Tryz.zeroValue81
  t72 := Tryz.underlying84
  a72 := Tryz.isAgg84
  z72 := Tryz.sizeOf84
  v72 := Tryz.zeroValue84
  t75 := Tryz.underlying86
  a75 := Tryz.isAgg86
  z75 := Tryz.sizeOf86
  v75 := Tryz.zeroValue86
  t164 := Tryz.underlying131
  a164 := Tryz.isAgg131
  z164 := Tryz.sizeOf131
  v164 := Tryz.zeroValue131 }
def lays169_ren : Go.Shelf.Ren := ⟨fun | 169 => 38 | n => n, fun | 70 => 81 | 9 => 9 | 0 => 0 | 72 => 84 | 37 => 82 | 127 => 115 | 3 => 3 | 5 => 5 | 20 => 20 | n => n, fun | n => n⟩
theorem lays169 : Go.Proofs.Lays.n169 Tryz.prog lays169_ren := {
  mixed := by kernel_rfl
  f169 := Tryz.func38.trans (congrArg some (by kernel_rfl))
  t0 := Tryz.underlying0
  a0 := Tryz.isAgg0
  z0 := Tryz.sizeOf0
  v0 := Tryz.zeroValue0
  t3 := Tryz.underlying3
  a3 := Tryz.isAgg3
  z3 := Tryz.sizeOf3
  v3 := Tryz.zeroValue3
  t9 := Tryz.underlying9
  a9 := Tryz.isAgg9
  z9 := Tryz.sizeOf9
  v9 := Tryz.zeroValue9
  t37 := Tryz.underlying82
  a37 := Tryz.isAgg82
  z37 := Tryz.sizeOf82
  v37 := Tryz.zeroValue82
  t70 := Tryz.underlying81
  a70 := Tryz.isAgg81
  z70 := Tryz.sizeOf81
  v70 := Tryz.zeroValue81
  t72 := Tryz.underlying84
  a72 := Tryz.isAgg84
  z72 := Tryz.sizeOf84
  v72 := Tryz.zeroValue84
  t127 := Tryz.underlying115
  a127 := Tryz.isAgg115
  z127 := Tryz.sizeOf115
  v127 := Tryz.zeroValue115 }
theorem extra166 : Go.Proofs.Builder.Extra Tryz.prog lays166_ren := {
  sizeBuilder := by kernel_rfl
  liesBuilder := by kernel_rfl
  t5 := Tryz.underlying5
  a5 := Tryz.isAgg5
  z5 := Tryz.sizeOf5
  v5 := Tryz.zeroValue5
  infoByte := by kernel_rfl
  cellsByte := by kernel_rfl
  sizeByte := by kernel_rfl
  neB5 := by decide }
theorem extra167 : Go.Proofs.Builder.Extra Tryz.prog lays167_ren := {
  sizeBuilder := by kernel_rfl
  liesBuilder := by kernel_rfl
  t5 := Tryz.underlying5
  a5 := Tryz.isAgg5
  z5 := Tryz.sizeOf5
  v5 := Tryz.zeroValue5
  infoByte := by kernel_rfl
  cellsByte := by kernel_rfl
  sizeByte := by kernel_rfl
  neB5 := by decide }
theorem extra169 : Go.Proofs.Builder.Extra Tryz.prog lays169_ren := {
  sizeBuilder := by kernel_rfl
  liesBuilder := by kernel_rfl
  t5 := Tryz.underlying5
  a5 := Tryz.isAgg5
  z5 := Tryz.sizeOf5
  v5 := Tryz.zeroValue5
  infoByte := by kernel_rfl
  cellsByte := by kernel_rfl
  sizeByte := by kernel_rfl
  neB5 := by decide }
/-- What WriteString, WriteByte, String do. -/
theorem writeString (B b : Nat) (l : List UInt8) (s : ByteArray) (w : World) (h : Lib.IsBuilder 84 5 B b (Lib.byteCells l) w) (hl : l.length + s.size ≤ 140737488355328) (hB : B ≤ w.heap.size) :
    Calls Tryz.prog 37 #[.pointer (some ⟨b, 0, none⟩), .string s] w fun e w' => e = .returned (.tuple #[.int .i64 s.size, .nilIface]) ∧ Lib.IsBuilder 84 5 B b (Lib.byteCells (l ++ s.data.toList)) w' ∧ Below B w w' :=
  (Any.Builder_WriteString lays166 extra166 B b _ s w h (by rw [Lib.byteCells_length]; exact hl) hB).mono fun e w' ⟨he, hb, hw⟩ => ⟨he, by rw [Lib.byteCells_append]; exact .inr hb, hw⟩
theorem writeByte (B b : Nat) (l : List UInt8) (c : Nat) (hc : c < 256) (w : World) (h : Lib.IsBuilder 84 5 B b (Lib.byteCells l) w) (hl : l.length + 1 ≤ 140737488355328) (hB : B ≤ w.heap.size) :
    Calls Tryz.prog 73 #[.pointer (some ⟨b, 0, none⟩), .int .u8 c] w fun e w' => e = .returned .nilIface ∧ Lib.IsBuilder 84 5 B b (Lib.byteCells (l ++ [UInt8.ofNat c])) w' ∧ Below B w w' :=
  (Any.Builder_WriteByte lays167 extra167 B b _ c w h (by rw [Lib.byteCells_length]; exact hl) hB).mono fun e w' ⟨he, hb, hw⟩ => ⟨he, by
    rw [Lib.byteCells_append, show Lib.byteCells [UInt8.ofNat c] = [Value.int .u8 c] by simp [Lib.byteCells, Nat.mod_eq_of_lt hc]]; exact .inr hb, hw⟩
theorem string_ (B b : Nat) (l : List UInt8) (w : World) (h : Lib.IsBuilder 84 5 B b (Lib.byteCells l) w) (h0 : l ≠ []) :
    Calls Tryz.prog 38 #[.pointer (some ⟨b, 0, none⟩)] w fun e w' => e = .returned (.string ⟨l.toArray⟩) ∧ Below B w w' :=
  Any.Builder_String lays169 extra169 B b l w h h0

end

end Go.Proofs.YtdmcdijlpnbghaaGreatDoor.Lf
