/- Lifting: a slice known by what it holds, appended onto nil or onto a row of one's own. -/
import Derived.Test.YtjfodgjgpeiaaaaDt37
namespace Go.Dt
open Go.RowKit
set_option linter.unusedVariables false
set_option linter.unusedSimpArgs false

section
variable {P : Program} {f : FuncId} {n0 : Nat} {ρ : Type} {E : ρ → Value} {s : VS} {T0 T1 : Option ρ}
variable {α : Type} [F : Flat α]
/-- Onto nil. -/
theorem L.catN (hm : P.follows .mixedOrders = true) (n' bytes : Nat) (ys : List α) (hs : apfAt P (vadv P n' s) = some (.slice Option.none 0 0, F.sz, bytes, ys.length, rows ys))
    (h0 : ys.isEmpty = true → Lifts P f n0 E (afterAp (vadv P n' s) (.slice Option.none 0 0) (vadv P n' s).mem ⟨[], []⟩) T0)
    (h1 : ys.isEmpty = false → Lifts P f n0 E (afterAp (vadv P n' s) (ownV (vadv P n' s).mem.length ys) ((vadv P n' s).mem ++ [ownB ys]) ⟨[], []⟩) T1) :
    Lifts P f n0 E s (bif ys.isEmpty then T0 else bif room (([] : List α).length + ys.length) bytes then T1 else Option.none) := fun r hr => by
  refine RunsE.adv hm n' ?_
  obtain ⟨o, so, x, t, tx, e, e', i, z, ho, hop, hc1, hc2, hse, hu, hu2, hxe, hinf, hz, hzs, hsz, rfl⟩ := apfAt_inv hs
  have hsrc : SrcC P (vadv P n' s).slots (vadv P n' s).mem i.size x ys.length (rows ys) [] := .frz hxe (by rw [hsz]; exact rows_length ys) (rows_one ys)
  cases ys with
  | nil =>
    have h := h0 rfl r hr
    unfold afterAp at h
    simp only [ho, fv_eq, fl_eq] at h
    exact RunsE.op o ho (OpOk.append0 hop hc1 hc2 hse (Nat.le_refl _) hu (.inl ⟨e', hu2⟩) hinf hsrc) h
  | cons y ys =>
    have e1 : (y :: ys).isEmpty = false := rfl
    rw [e1, cond_false] at hr
    rw [List.length_nil, Nat.zero_add] at hr
    cases hi : room (y :: ys).length i.bytes with
    | false => rw [hi] at hr; cases hr
    | true =>
      rw [hi] at hr
      simp only [room, Bool.and_eq_true, decide_eq_true_eq] at hi
      have h := h1 rfl r hr
      unfold afterAp at h
      simp only [ho, fv_eq, fl_eq, ownV, ownB] at h
      have hok := OpOk.appendNil hop hc1 hc2 hse (by simp : 0 < (y :: ys).length) hu (.inl ⟨e', hu2⟩) hinf hz hzs hi.2 hi.1 hsrc
      rw [hsz] at hok
      exact RunsE.op o ho hok h

/-- Onto a row of one's own. -/
theorem L.catO (hm : P.follows .mixedOrders = true) (n' b bytes nn : Nat) (zs ys : List α) (hnn : nn = zs.length) (hs : apfAt P (vadv P n' s) = some (.slice (some ⟨b, 0, Option.none⟩) nn nn, F.sz, bytes, ys.length, rows ys))
    (hb : (vadv P n' s).mem[b]? = some (ownB zs))
    (h0 : ys.isEmpty = true → Lifts P f n0 E (afterAp (vadv P n' s) (ownV b zs) (vadv P n' s).mem ⟨[], []⟩) T0)
    (h1 : ys.isEmpty = false → Lifts P f n0 E (afterAp (vadv P n' s) (ownV (vadv P n' s).mem.length (zs ++ ys)) ((vadv P n' s).mem.set b .gone ++ [ownB (zs ++ ys)]) ⟨[b], [b]⟩) T1) :
    Lifts P f n0 E s (bif ys.isEmpty then T0 else bif room (zs.length + ys.length) bytes then T1 else Option.none) := fun r hr => by
  subst hnn
  refine RunsE.adv hm n' ?_
  obtain ⟨o, so, x, t, tx, e, e', i, z, ho, hop, hc1, hc2, hse, hu, hu2, hxe, hinf, hz, hzs, hsz, rfl⟩ := apfAt_inv hs
  have hsrc : SrcC P (vadv P n' s).slots (vadv P n' s).mem i.size x ys.length (rows ys) [] := .frz hxe (by rw [hsz]; exact rows_length ys) (rows_one ys)
  cases ys with
  | nil =>
    have h := h0 rfl r hr
    unfold afterAp at h
    simp only [ho, fv_eq, fl_eq, ownV] at h
    exact RunsE.op o ho (OpOk.append0 hop hc1 hc2 hse (Nat.le_refl _) hu (.inl ⟨e', hu2⟩) hinf hsrc) h
  | cons y ys =>
    have e1 : (y :: ys).isEmpty = false := rfl
    rw [e1, cond_false] at hr
    cases hi : room (zs.length + (y :: ys).length) i.bytes with
    | false => rw [hi] at hr; cases hr
    | true =>
      rw [hi] at hr
      simp only [room, Bool.and_eq_true, decide_eq_true_eq] at hi
      have h := h1 rfl r hr
      unfold afterAp at h
      simp only [ho, fv_eq, fl_eq, ownV, ownB] at h
      have hok := OpOk.appendGrow (l := zs.length) (off := 0) (c := rows zs) hop hc1 hc2 hse (by rw [hsz]; exact hb) (by simp : 0 < (y :: ys).length) (by rw [hsz, rows_length]; omega) hu (.inl ⟨e', hu2⟩) hinf hz hzs hi.2 hi.1 hsrc
      have e2 : ((rows zs).drop 0).take (zs.length * i.size) ++ rows (y :: ys) = rows (zs ++ y :: ys) := by
        rw [List.drop_zero, hsz, ← rows_length, List.take_length, rows_append]
      rw [e2, hsz] at hok
      rw [List.length_append] at h
      exact RunsE.op o ho hok h

/-- A slice written out, that is known by what it holds from then on. -/
def bsfAt (P : Program) (s : VS) : Option (Nat × List Value) := match opAt s with
  | some o => match o.op with
    | .buildSlice t len ps => bif (ps.toList.all (fun p => okConst p.2) && ps.toList.all (fun p => notTuple (evalC s.slots p.2))) && Nat.blt 0 len then (match bsCells P t len (partsC s.slots ps) with
      | some (_, cs) => some (len, cs.toList)
      | Option.none => Option.none) else Option.none
    | _ => Option.none
  | Option.none => Option.none
theorem L.lit (hm : P.follows .mixedOrders = true) (n' : Nat) (xs : List α) (hs : bsfAt P (vadv P n' s) = some (xs.length, rows xs))
    (h : Lifts P f n0 E (afterAp (vadv P n' s) (lst xs) ((vadv P n' s).mem ++ [.gone]) ⟨[], []⟩) T0) : Lifts P f n0 E s T0 := fun r hr => by
  have h := h r hr
  refine RunsE.adv hm n' ?_
  unfold bsfAt at hs
  unfold afterAp at h
  split at hs
  · rename_i o ho
    simp only [ho, fv_eq, fl_eq] at h
    split at hs
    · rename_i t len ps hop
      cases hc : ((ps.toList.all (fun p => okConst p.2) && ps.toList.all (fun p => notTuple (evalC (vadv P n' s).slots p.2))) && Nat.blt 0 len) with
      | false => rw [hc] at hs; cases hs
      | true =>
        rw [hc, cond_true] at hs
        simp only [Bool.and_eq_true] at hc
        split at hs
        · rename_i size cs hb
          simp only [Option.some.injEq, Prod.mk.injEq] at hs
          obtain ⟨rfl, e2⟩ := hs
          have hok := OpOk.buildSlice (o := o) (m := (vadv P n' s).mem) hop hc.1.1 hc.1.2 hb
          rw [e2] at hok
          have hpos : 0 < xs.length := Nat.le_of_ble_eq_true hc.2
          exact RunsE.op o ho (OpOk.frzOut (m1 := (vadv P n' s).mem) rfl (rows_pure xs) (fun h => absurd hpos (by omega)) hok) h
        · cases hs
    · cases hs
  · cases hs
end
end Go.Dt
