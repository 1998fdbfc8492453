/- Lifting: rows of one's own, cut and copied into. -/
import Derived.Test.YtjfodgjgpeiaaaaDt38
namespace Go.Dt
open Go.RowKit
set_option linter.unusedVariables false
set_option linter.unusedSimpArgs false

/-- What is copied next: into which block, from which cell on, how many elements there is room for, their size, the block's cells; where from (a block and a cell, or a known slice), how many, the cells. -/
def cpAt (P : Program) (s : VS) : Option (Nat × Nat × Nat × Nat × List Value × Option (Nat × Nat) × Nat × List Value) := match opAt s with
  | some o => match o.op with
    | .call ⟨.builtin .copy, xs, ts⟩ => match xs.toList, ts.toList with
      | [d, x], [t, tx] => bif okConst d && okConst x then (match P.underlying t, P.underlying tx, evalC s.slots d with
        | some (.slice e), some (.slice _), .slice (some ⟨b, off, none⟩) l _ => (match s.mem[b]?, szC P e with
          | some (.cells c sz true), some size => bif Nat.beq sz size then (match asFrz (evalC s.slots x) with
            | some (n, c2) => some (b, off, l, size, c, none, n, c2)
            | none => (match evalC s.slots x with
              | .slice (some ⟨b2, off2, none⟩) n _ => (match s.mem[b2]? with
                | some (.cells c2 _ _) => some (b, off, l, size, c, some (b2, off2), n, c2)
                | _ => none)
              | _ => none)) else none
          | _, _ => none)
        | _, _, _ => none) else none
      | _, _ => none
    | _ => none
  | none => none
section
variable {P : Program}
theorem cpAt_inv {s : VS} {b off l size n : Nat} {c c2 : List Value} {q : Option (Nat × Nat)} (hs : cpAt P s = some (b, off, l, size, c, q, n, c2)) :
    ∃ o d x t tx e e' cap, opAt s = some o ∧ o.op = .call { callee := .builtin .copy, args := #[d, x], argTypes := #[t, tx] } ∧ okConst d = true ∧ okConst x = true ∧ P.underlying t = some (.slice e) ∧ P.underlying tx = some (.slice e') ∧
      evalC s.slots d = .slice (some ⟨b, off, none⟩) l cap ∧ s.mem[b]? = some (.cells c size true) ∧ szC P e = some size ∧
      ((q = none ∧ evalC s.slots x = frz n c2) ∨ ∃ b2 off2 cap2 sz2 rw2, q = some (b2, off2) ∧ evalC s.slots x = .slice (some ⟨b2, off2, none⟩) n cap2 ∧ s.mem[b2]? = some (.cells c2 sz2 rw2)) := by
  unfold cpAt at hs
  split at hs
  · rename_i o ho
    split at hs
    · rename_i xs ts hop
      split at hs
      · rename_i d x t tx hx ht
        cases hc : (okConst d && okConst x) with
        | false => simp [hc] at hs
        | true =>
          rw [hc, cond_true] at hs
          rw [Bool.and_eq_true] at hc
          split at hs
          · rename_i e e' b' off' l' cap hu hu2 hd
            split at hs
            · rename_i c' sz size' hb hz
              cases hbq : Nat.beq sz size' with
              | false => simp [hbq] at hs
              | true =>
                rw [hbq, cond_true] at hs
                have e0 := Nat.eq_of_beq_eq_true hbq
                subst e0
                have e1 := arr_two hx
                have e2 := arr_two ht
                subst e1 e2
                split at hs
                · rename_i n' c2' hf
                  cases hs
                  exact ⟨o, d, x, t, tx, e, e', cap, ho, hop, hc.1, hc.2, hu, hu2, hd, hb, hz, .inl ⟨rfl, asFrz_ok hf⟩⟩
                · split at hs
                  · rename_i b2 off2 n' cap2 hxe
                    split at hs
                    · rename_i c2' sz2 rw2 hb2
                      cases hs
                      exact ⟨o, d, x, t, tx, e, e', cap, ho, hop, hc.1, hc.2, hu, hu2, hd, hb, hz, .inr ⟨b2, off2, cap2, sz2, rw2, rfl, hxe, hb2⟩⟩
                    · cases hs
                  · cases hs
            · cases hs
          · cases hs
      · cases hs
    · cases hs
  · cases hs

variable {α : Type} [F : Flat α]
/-- A row, in which so many elements of another one were copied to a place. -/
def cpL (zs : List α) (o l : Nat) (ys : List α) : List α := zs.take o ++ ys.take (Nat.min ys.length l) ++ zs.drop (o + Nat.min ys.length l)
theorem splice_rows (zs ys : List α) (o k : Nat) (hk : k ≤ ys.length) : splice (rows zs) (o * F.sz) ((rows ys).take (k * F.sz)) = rows (zs.take o ++ ys.take k ++ zs.drop (o + k)) := by
  unfold splice
  have e : ((rows ys).take (k * F.sz)).length = k * F.sz := by
    rw [rows_take, rows_length, List.length_take, Nat.min_eq_left hk]
  rw [e, ← Nat.add_mul, rows_take, rows_take, rows_drop, rows_append, rows_append]

omit F in
theorem cpL_length {zs ys : List α} {o l : Nat} (h : o + l ≤ zs.length) : (cpL zs o l ys).length = zs.length := by
  have h1 : Nat.min ys.length l ≤ l := Nat.min_le_right _ _
  have h2 : Nat.min ys.length l ≤ ys.length := Nat.min_le_left _ _
  simp only [cpL, List.length_append, List.length_take, List.length_drop, Nat.min_eq_left h2]
  rw [Nat.min_eq_left (by omega)]
  omega

variable {f : FuncId} {n0 : Nat} {ρ : Type} {E : ρ → Value} {s : VS} {T : Option ρ}
/-- Of a slice that is known by what it holds, into a row of one's own. -/
theorem L.copyF (hm : P.follows .mixedOrders = true) (n' b off l o : Nat) (zs ys : List α) (ho : off = o * F.sz) (hs : cpAt P (vadv P n' s) = some (b, off, l, F.sz, rows zs, Option.none, ys.length, rows ys))
    (h : (cpL zs o l ys).length = zs.length → Lifts P f n0 E (afterAp (vadv P n' s) (.int .i64 (Nat.min ys.length l : Nat)) ((vadv P n' s).mem.set b (ownB (cpL zs o l ys))) ⟨[b], [b]⟩) T) :
    Lifts P f n0 E s (bif Nat.ble (o + l) zs.length then T else Option.none) := fun r hr => by
  cases hi : Nat.ble (o + l) zs.length with
  | false => rw [hi] at hr; cases hr
  | true =>
    rw [hi] at hr
    have hle := Nat.le_of_ble_eq_true hi
    have h := h (cpL_length hle) r hr
    refine RunsE.adv hm n' ?_
    obtain ⟨o', d, x, t, tx, e, e', cap, hop, hopp, hc1, hc2, hu, hu2, hd, hb, hz, hsrc⟩ := cpAt_inv hs
    rcases hsrc with ⟨_, hx⟩ | ⟨_, _, _, _, _, hq, _⟩
    · unfold afterAp at h
      simp only [hop, fv_eq, fl_eq] at h
      have hmin : Nat.min ys.length l ≤ l := Nat.min_le_right _ _
      have hmin2 : Nat.min ys.length l ≤ ys.length := Nat.min_le_left _ _
      have hfit : off + Nat.min ys.length l * F.sz ≤ (rows zs).length := by
        rw [ho, rows_length, ← Nat.add_mul]
        exact Nat.mul_le_mul_right _ (by omega)
      have hok := OpOk.copy hopp hc1 hc2 hd hb hfit hu (.inl ⟨e', hu2⟩) hz (SrcC.frz (size := F.sz) (m := (vadv P n' s).mem) hx (rows_length ys) (rows_one ys)) (fun str hstr => by rw [hx] at hstr; cases hstr)
      rw [ho, splice_rows zs ys o _ hmin2] at hok
      exact RunsE.op o' hop hok h
    · cases hq
/-- Of a row of one's own, into one. -/
theorem L.copyO (hm : P.follows .mixedOrders = true) (n' b off l o b2 off2 o2 n : Nat) (zs ws : List α) (ho : off = o * F.sz) (ho2 : off2 = o2 * F.sz) (hs : cpAt P (vadv P n' s) = some (b, off, l, F.sz, rows zs, some (b2, off2), n, rows ws))
    (h : (cpL zs o l ((ws.drop o2).take n)).length = zs.length → Lifts P f n0 E (afterAp (vadv P n' s) (.int .i64 (Nat.min ((ws.drop o2).take n).length l : Nat)) ((vadv P n' s).mem.set b (ownB (cpL zs o l ((ws.drop o2).take n)))) ⟨[b, b2], [b]⟩) T) :
    Lifts P f n0 E s (bif Nat.ble (o + l) zs.length && Nat.ble (o2 + n) ws.length then T else Option.none) := fun r hr => by
  cases hi : (Nat.ble (o + l) zs.length && Nat.ble (o2 + n) ws.length) with
  | false => rw [hi] at hr; cases hr
  | true =>
    rw [hi] at hr
    rw [Bool.and_eq_true] at hi
    have hle := Nat.le_of_ble_eq_true hi.1
    have hle2 := Nat.le_of_ble_eq_true hi.2
    have h := h (cpL_length hle) r hr
    refine RunsE.adv hm n' ?_
    obtain ⟨o', d, x, t, tx, e, e', cap, hop, hopp, hc1, hc2, hu, hu2, hd, hb, hz, hsrc⟩ := cpAt_inv hs
    rcases hsrc with ⟨hq, _⟩ | ⟨b2', off2', cap2, sz2, rw2, hq, hx, hb2⟩
    · cases hq
    · cases hq
      unfold afterAp at h
      simp only [hop, fv_eq, fl_eq] at h
      have hyl : ((ws.drop o2).take n).length = n := by simp; omega
      have hmin : Nat.min n l ≤ l := Nat.min_le_right _ _
      have hmin2 : Nat.min n l ≤ n := Nat.min_le_left _ _
      have hfit : off + Nat.min n l * F.sz ≤ (rows zs).length := by
        rw [ho, rows_length, ← Nat.add_mul]
        exact Nat.mul_le_mul_right _ (by omega)
      have hcell : ((rows ws).drop off2).take (n * F.sz) = rows ((ws.drop o2).take n) := by rw [ho2, rows_drop, rows_take]
      have hok := OpOk.copy hopp hc1 hc2 hd hb hfit hu (.inl ⟨e', hu2⟩) hz (SrcC.sl (size := F.sz) (m := (vadv P n' s).mem) hx hb2 (by rw [ho2, rows_length, ← Nat.add_mul]; exact Nat.mul_le_mul_right _ (by omega)) (by rw [hcell]; exact rows_one _)) (fun str hstr => by rw [hx] at hstr; cases hstr)
      rw [hcell, ho, splice_rows zs _ o _ (by rw [hyl]; exact hmin2)] at hok
      unfold cpL at h
      rw [hyl] at h
      exact RunsE.op o' hop hok h

/-- A row of one's own, cut. -/
theorem L.osl (hm : P.follows .mixedOrders = true) (n' b off len cap size : Nat) (lo hi : Option Int) (hs : slAt P (vadv P n' s) = some (b, off, len, cap, size, lo, hi))
    (h : Lifts P f n0 E (afterRd (vadv P n' s) b (.slice (some ⟨b, off + (lo.getD 0).toNat * size, Option.none⟩) ((hi.getD len).toNat - (lo.getD 0).toNat) (cap - (lo.getD 0).toNat))) T) :
    Lifts P f n0 E s (bif cutOk cap (lo.getD 0) (hi.getD len) then T else Option.none) := fun r hr => by
  cases hi' : cutOk cap (lo.getD 0) (hi.getD len) with
  | false => rw [hi'] at hr; cases hr
  | true =>
    rw [hi'] at hr
    simp only [cutOk, Bool.and_eq_true, decide_eq_true_eq] at hi'
    exact R.slice hm n' b off len cap size lo hi (lo.getD 0).toNat (hi.getD len).toNat _ hs (by omega) (by omega) (by omega) (by omega) rfl (h r hr)
end
end Go.Dt
