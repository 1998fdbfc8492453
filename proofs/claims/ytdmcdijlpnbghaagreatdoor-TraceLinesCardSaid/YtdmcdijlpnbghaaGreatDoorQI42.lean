/- Several texts in one: EVw, EVx, EWl. -/
import Derived.Test.YtdmcdijlpnbghaaGreatDoorQI34
import Derived.Test.YtdmcdijlpnbghaaGreatDoorQI27
import Derived.Test.YtdmcdijlpnbghaaGreatDoorQI41
namespace Go.Proofs.YtdmcdijlpnbghaaGreatDoor.Lf

section
open Go Go.Dt Go.Proofs
set_option linter.unusedVariables false

/-! ### 3 -/
end

section
open Go Go.Dt Go.Proofs
set_option linter.unusedVariables false
set_option linter.unusedSimpArgs false

theorem i64_of {n : Int} (h : (Lit.int .i64 n).wf = true) : i64 n := by
  simp only [Lit.wf, Bool.and_eq_true, decide_eq_true_eq] at h
  exact h
end

section
open Go Go.Dt Go.Proofs
set_option linter.unusedVariables false
set_option linter.unusedSimpArgs false

theorem getRi {α : Type} [F : Flat α] {l : List α} {i : Nat} {e : α} (h : l[i]? = some e) : getR l (i : Int).toNat = e := by
  rw [Int.toNat_natCast]
  unfold getR
  rw [List.getD_eq_getElem?_getD, h]
  rfl
theorem at_of_lt {α : Type} {l : List α} {i : Nat} (h : i < l.length) : ∃ e, l[i]? = some e := ⟨l[i], by simp [h]⟩
theorem tlT_size {l : List TEvent} (h : l.length ≤ 1000) : (toBA (tlT l)).size ≤ 1000000 := by rw [toBA_size]; exact tlT_len l h
theorem loop26 {l : List TEvent} (hl : l.length ≤ 40) (ho : ∀ e ∈ l, evOk e) (a1 : ByteArray) : ∀ (m i K : Nat), i + m = l.length → 100 + m < K → (∀ e ∈ l.take i, may e) →
    FL37_TraceLines_26 l a1 K (tlF l []).1 (tlF l []).2 (toBA (tlT (l.take i))) (i : Int) = some true
  | 0, i, K, him, hK, hm => by
    obtain ⟨K, rfl⟩ : ∃ k, K = k + 1 := ⟨K - 1, by omega⟩
    have hi : i = l.length := by omega
    subst hi
    rw [List.take_length] at hm ⊢
    rw [FL37_TraceLines_26, decide_eq_false (show ¬ ((l.length : Nat) : Int) < (l.length : Int) by omega), tlF_yes [] hm, List.nil_append]
    simp [toBA]
  | m + 1, i, K, him, hK, hm => by
    obtain ⟨K, rfl⟩ : ∃ k, K = k + 1 := ⟨K - 1, by omega⟩
    have hi : i < l.length := by omega
    obtain ⟨e, he⟩ := at_of_lt hi
    have hmem := List.mem_of_getElem? he
    obtain ⟨b, hb, hbm⟩ := may_eq K e
    rw [FL37_TraceLines_26, decide_eq_true (show (i : Int) < (l.length : Int) by omega), inR_of hi, wrap_succ (by omega)]
    simp only [cond_true]
    rw [getRi he, hb]
    simp only [Option.bind_some]
    cases b with
    | false =>
      have hnm : ¬ may e := fun h => by have := hbm.2 h; cases this
      rw [tlF_no hmem hnm]
      simp [noS]
    | true =>
      have hme := hbm.1 rfl
      rw [refLine_eq hme (ho e hmem) (K := K) (by omega)]
      simp only [Option.bind_some, Bool.not_true, cond_false]
      have htk : l.take (i + 1) = l.take i ++ [e] := by rw [List.take_add_one, he]; rfl
      have hls := lineS_size e
      have hT := tlT_size (l := l.take i) (by rw [List.length_take]; omega)
      have hT2 := tlT_len (l.take i) (by rw [List.length_take]; omega)
      have h3 : (toBA (tlT (l.take i)) ++ lineS e).size ≤ 1000000000 := by rw [ByteArray.size_append]; omega
      have c2 : catOk (toBA (tlT (l.take i)) ++ lineS e) (ByteArray.mk #[10]) = true := Nat.ble_eq_true_of_le (by show _ + 1 ≤ _; omega)
      rw [catOk_of hT (by omega)]
      simp only [cond_true]
      rw [show (OfNat.ofNat 10 : UInt8) = 10 from rfl, c2]
      simp only [cond_true]
      have e2 : toBA (tlT (l.take i)) ++ lineS e ++ ByteArray.mk #[10] = toBA (tlT (l.take (i + 1))) := by
        rw [htk, tlT_append, ← ba_toBA (toBA (tlT (l.take i)) ++ lineS e ++ ByteArray.mk #[10])]
        congr 1
        rw [app_data, app_data, app_data, toBA_data, List.append_assoc]
        rfl
      rw [e2]
      refine loop26 hl ho a1 m (i + 1) K (by omega) (by omega) fun e' he' => ?_
      rw [htk, List.mem_append, List.mem_singleton] at he'
      rcases he' with h | rfl
      · exact hm e' h
      · exact hme
theorem okI_of {n : Int} (h : i64 n) : okI n = true := by
  obtain ⟨h1, h2⟩ := h
  simp only [okI, Bool.and_eq_true, decide_eq_true_eq]
  exact ⟨h1, h2⟩
theorem lines_part {l : List TEvent} (hl : l.length ≤ 40) (ho : ∀ e ∈ l, evOk e) (a1 : ByteArray) {K : Nat} (hK : 1000 ≤ K) : ((Ftrace_Lines K l).bind fun u => FL37_TraceLines_26 l a1 K u.fst u.snd (ByteArray.mk #[]) 0) = some true := by
  have h1 : (Nat.ble l.length 1000 && l.all okEv) = true := by
    rw [Bool.and_eq_true]
    refine ⟨Nat.ble_eq_true_of_le (by omega), List.all_eq_true.2 fun e he => ?_⟩
    obtain ⟨o1, o2, o3⟩ := ho e he
    simp only [okEv, Bool.and_eq_true]
    exact ⟨okI_of o1, okI_of o2, okI_of o3⟩
  unfold Ftrace_Lines
  rw [h1]
  simp only [cond_true, Option.bind_some]
  exact loop26 hl ho a1 l.length 0 K (by omega) (by omega) (by simp)
theorem loop19 {l : List TEvent} (hl : l.length ≤ 40) (ho : ∀ e ∈ l, evOk e) (a1 : ByteArray) (x : List TEvent) (hx : x.length ≤ 1000000) : ∀ (m i K : Nat), i + m = x.length → 1000 + m < K → FL37_TraceLines_19 l a1 K x x (i : Int) = some true
  | 0, i, K, him, hK => by
    obtain ⟨K, rfl⟩ : ∃ k, K = k + 1 := ⟨K - 1, by omega⟩
    rw [FL37_TraceLines_19, decide_eq_false (show ¬ (i : Int) < (x.length : Int) by omega)]
    exact lines_part hl ho a1 (by omega)
  | m + 1, i, K, him, hK => by
    obtain ⟨K, rfl⟩ : ∃ k, K = k + 1 := ⟨K - 1, by omega⟩
    have hi : i < x.length := by omega
    rw [FL37_TraceLines_19, decide_eq_true (show (i : Int) < (x.length : Int) by omega), inR_of hi, wrap_succ (by omega)]
    simp only [cond_true, beq_self_eq_true, Bool.and_self, Bool.not_true, cond_false]
    exact loop19 hl ho a1 x hx m (i + 1) K (by omega) (by omega)
theorem bad8 {l : List TEvent} (hl : l.length ≤ 40) (ho : ∀ e ∈ l, evOk e) (a1 : ByteArray) (L : List ByteArray) (w : List TEvent) (i : Int) {K : Nat} (hK : 1000 < K) : FL37_TraceLines_8 l a1 K [] 13 L w false i = some true := by
  obtain ⟨K, rfl⟩ : ∃ k, K = k + 1 := ⟨K - 1, by omega⟩
  have h := lines_part hl ho a1 (K := K) (by omega)
  rw [FL37_TraceLines_8]
  cases decide (i < (L.length : Int)) with
  | true => exact h
  | false => exact h
theorem loop8 {l : List TEvent} (hl : l.length ≤ 40) (ho : ∀ e ∈ l, evOk e) (a1 : ByteArray) (L : List ByteArray) (hL : L.length ≤ 100000) (hLs : ∀ b ∈ L, b.size ≤ 1000) : ∀ (m i K : Nat) (w : List TEvent), i + m = L.length → 700000 + m < K → w.length ≤ i →
    (∀ es, evsOf (L.drop i) = some es → FL37_TraceLines_8 l a1 K (w ++ es) 0 L w true (i : Int) = some true) ∧ (evsOf (L.drop i) = none → FL37_TraceLines_8 l a1 K [] 13 L w true (i : Int) = some true)
  | 0, i, K, w, him, hK, hw => by
    obtain ⟨K, rfl⟩ : ∃ k, K = k + 1 := ⟨K - 1, by omega⟩
    rw [List.drop_eq_nil_of_le (by omega)]
    refine ⟨fun es h => ?_, fun h => by cases h⟩
    cases h
    rw [List.append_nil, FL37_TraceLines_8, decide_eq_false (show ¬ (i : Int) < (L.length : Int) by omega)]
    simp only [cond_false, cond_true, Bool.not_true, bne_self_eq_false]
    exact loop19 hl ho a1 w (by omega) w.length 0 K (by omega) (by omega)
  | m + 1, i, K, w, him, hK, hw => by
    obtain ⟨K, rfl⟩ : ∃ k, K = k + 1 := ⟨K - 1, by omega⟩
    have hi : i < L.length := by omega
    obtain ⟨b, hb⟩ := at_of_lt hi
    have hbs := hLs b (List.mem_of_getElem? hb)
    have hd : L.drop i = b :: L.drop (i + 1) := by
      rw [List.drop_eq_getElem_cons hi]
      congr 1
      exact (List.getElem?_eq_some_iff.1 hb).2
    rw [hd, evsOf]
    have go : ∀ (x : List TEvent) (c : Int) (r : TEvent × Bool), FR37_Event K b = some r → FL37_TraceLines_8 l a1 (K + 1) x c L w true (i : Int) = FL37_TraceLines_8 l a1 K x c L (w ++ [r.1]) r.2 ((i + 1 : Nat) : Int) := fun x c r hr => by
      rw [FL37_TraceLines_8, decide_eq_true (show (i : Int) < (L.length : Int) by omega), inR_of hi, wrap_succ (by omega), getRi hb, hr]
      simp only [cond_true, Option.bind_some]
      rw [room_of (by simp; omega) (by omega)]
      rfl
    rcases ev_spec hbs with ⟨e, he, hv⟩ | ⟨he, hv⟩
    · obtain ⟨h1, h2⟩ := loop8 hl ho a1 L hL hLs m (i + 1) K (w ++ [e]) (by omega) (by omega) (by simp; omega)
      have hr := (hv K (by omega)).2
      rw [he]
      simp only [Option.bind_some]
      refine ⟨fun es h => ?_, fun h => ?_⟩
      · rw [Option.map_eq_some_iff] at h
        obtain ⟨es', h3, rfl⟩ := h
        rw [go _ _ _ hr]
        have := h1 es' h3
        rwa [List.append_assoc] at this
      · rw [Option.map_eq_none_iff] at h
        rw [go _ _ _ hr]
        exact h2 h
    · have hr := (hv K (by omega)).2
      rw [he]
      refine ⟨fun es h => (by cases h), fun _ => ?_⟩
      rw [go _ _ _ hr]
      exact bad8 hl ho a1 L _ _ (by omega)
theorem traceLines_true {l : List TEvent} (ho : ∀ e ∈ l, evOk e) (s : ByteArray) {K : Nat} (hK : 900000 ≤ K) : FL37_TraceLines K l s = some true := by
  unfold FL37_TraceLines
  cases hs : decide ((l.length : Int) > 40) with
  | true => rfl
  | false =>
    have hl : l.length ≤ 40 := by have := of_decide_eq_false hs; omega
    cases hs2 : decide ((s.size : Int) > 1000) with
    | true => rfl
    | false =>
      have hss : s.size ≤ 1000 := by have := of_decide_eq_false hs2; omega
      simp only [cond_false]
      rw [events_eq hss (by omega), split_eq (by omega) (by omega)]
      simp only [Option.bind_some]
      obtain ⟨f1, f2, f3, f4⟩ := ln_facts s
      have h8 := loop8 hl ho s (lnB s) (by omega) (fun b hb => by have := f2 b hb; omega) (lnB s).length 0 K [] (by omega) (by omega) (Nat.le_refl _)
      rw [List.drop_zero] at h8
      unfold evRes
      cases hz : ((lnR s).size == 0) with
      | false =>
        have hz : ¬ (lnR s).size = 0 := by simpa using hz
        cases evsOf (lnB s) with
        | none => exact bad8 hl ho s _ _ _ (by omega)
        | some es =>
          simp only [if_neg hz]
          exact bad8 hl ho s _ _ _ (by omega)
      | true =>
        have hz : (lnR s).size = 0 := by simpa using hz
        cases he : evsOf (lnB s) with
        | none => exact h8.2 he
        | some es =>
          simp only [if_pos hz]
          exact h8.1 es he
theorem lines_law (l : List TEvent) (hl : Ope.ok l) (s : ByteArray) {p : Prop} (_ : p) : Con Tryz.prog 5 [lst l, .string s] (.bool true) :=
  cL37_TraceLines 900000 l s true (traceLines_true (fun e he => by
    have h := hl.2 e he
    exact ⟨i64_of h.1, i64_of h.2.2.1, i64_of h.2.2.2⟩) s (Nat.le_refl _))

end

end Go.Proofs.YtdmcdijlpnbghaaGreatDoor.Lf
