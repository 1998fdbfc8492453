/- Several texts in one: Dt37, Dt38, Dt39. -/
import Derived.Test.YtllcomjnmkcdpaaDoorQE15
namespace Go.Dt

section
open Go.RowKit
set_option linter.unusedVariables false
set_option linter.unusedSimpArgs false

section
variable {P : Program} {o : Oper} {a : List Value} {m : List Blk}
variable {f : FuncId} {n0 : Nat} {ρ : Type} {E : ρ → Value} {s : VS} {T : Option ρ}
/-- A truth value that is not known is taken to be both. -/
def anyS (d : Nat) (b : Bool) : VS → VS
  | .norm todo a m => fl (a.set d (.bool b)) fun a' => .norm todo a' m
  | s => s
theorem Runs.anyB {v : Value} {m' : List Blk} (d : Nat) (hs : slotV d s = Dt.anyB) (h : ∀ b, Runs P f n0 (anyS d b s) v m') : Runs P f n0 s v m' := by
  cases s with
  | reg => exact h true
  | norm todo a m =>
    have hs : a.getD d undef = Dt.anyB := hs
    intro ι t w hr b cs hb hk
    have hv := hr.slots d
    rw [hs] at hv
    generalize hy : t.getD d undef = y at hv
    have key : ∀ b', y = .bool b' → Rel ι (a.set d (.bool b')) m t w := fun b' e => by
      refine ⟨by simpa using hr.size, fun x => ?_, hr.sim, hr.dom⟩
      by_cases hx : d = x
      · subst hx
        by_cases hda : d < a.length
        · rw [show (a.set d (.bool b')).getD d undef = .bool b' by simp [List.getD_eq_getElem?_getD, hda], hy, e]
          exact .bool b'
        · rw [List.set_eq_of_length_le (by omega)]
          exact hr.slots d
      · rw [show (a.set d (.bool b')).getD x undef = a.getD x undef by simp [List.getD_eq_getElem?_getD, List.getElem?_set_ne hx]]
        exact hr.slots x
    cases hv with
    | iface _ ht => exact absurd ht (by decide)
    | anyB b' =>
      have := h b'
      simp only [anyS, fl_eq] at this
      exact this ι t w (key b' rfl) b cs hb hk

theorem Runs.weaken {v u : Value} {m' : List Blk} (hw : ∀ (ι : Map) (x : Value), RV ι v x → RV ι u x) (h : Runs P f n0 s v m') : Runs P f n0 s u m' := by
  have key : ∀ {todo a m}, RunsN P f n0 todo a m v m' → RunsN P f n0 todo a m u m' := fun h ι t w hr b cs hb hk => by
    obtain ⟨v', w', fr, ι', h1, h2, h3, h4, h5⟩ := h ι t w hr b cs hb hk
    exact ⟨v', w', fr, ι', h1, h2, h3, hw _ _ h4, h5⟩
  cases s with
  | norm todo a m => exact key h
  | reg => exact fun hreg => key (h hreg)

/-- A slice written out, of no elements. -/
theorem L.none (hm : P.follows .mixedOrders = true) (n' : Nat) (size : Nat) (hs : bnAt P (vadv P n' s) = some size) (h : Lifts P f n0 E (afterAp (vadv P n' s) (.slice (some ⟨(vadv P n' s).mem.length, 0, Option.none⟩) 0 0) ((vadv P n' s).mem ++ [.cells [] size true]) ⟨[], []⟩) T) : Lifts P f n0 E s T := fun r hr => R.none hm n' size hs (h r hr)

variable {α : Type} [F : Flat α]
end

end

section
open Go.RowKit
set_option linter.unusedVariables false
set_option linter.unusedSimpArgs false

section
variable {P : Program} {f : FuncId} {n0 : Nat} {ρ : Type} {E : ρ → Value} {s : VS} {T0 T1 : Option ρ}
variable {α : Type} [F : Flat α]
/-- Onto nil. -/
theorem L.catN (hm : P.follows .mixedOrders = true) (n' bytes : Nat) (ys : List α) (hs : apfAt P (vadv P n' s) = some (.slice Option.none 0 0, F.sz, bytes, ys.length, rows ys))
    (h0 : ys.isEmpty = true → Lifts P f n0 E (afterAp (vadv P n' s) (.slice Option.none 0 0) (vadv P n' s).mem ⟨[], []⟩) T0)
    (h1 : ys.isEmpty = false → Lifts P f n0 E (afterAp (vadv P n' s) (ownV (vadv P n' s).mem.length ys) ((vadv P n' s).mem ++ [ownB ys]) ⟨[], []⟩) T1) :
    Lifts P f n0 E s (bif ys.isEmpty then T0 else bif room (([] : List α).length + ys.length) bytes then T1 else Option.none) := fun r hr => by
  refine RunsE.adv hm n' ?_
  obtain ⟨o, so, x, t, tx, e, e', i, z, ho, hop, hc1, hc2, hse, hu, hu2, hxe, hinf, hz, hzs, hsz, rfl⟩ := apfAt_inv hs
  have hsrc : SrcC P (vadv P n' s).slots (vadv P n' s).mem i.size x ys.length (rows ys) [] := .frz hxe (by rw [hsz]; exact rows_length ys) (rows_one ys)
  cases ys with
  | nil =>
    have h := h0 rfl r hr
    unfold afterAp at h
    simp only [ho, fv_eq, fl_eq] at h
    exact RunsE.op o ho (OpOk.append0 hop hc1 hc2 hse (Nat.le_refl _) hu (.inl ⟨e', hu2⟩) hinf hsrc) h
  | cons y ys =>
    have e1 : (y :: ys).isEmpty = false := rfl
    rw [e1, cond_false] at hr
    rw [List.length_nil, Nat.zero_add] at hr
    cases hi : room (y :: ys).length i.bytes with
    | false => rw [hi] at hr; cases hr
    | true =>
      rw [hi] at hr
      simp only [room, Bool.and_eq_true, decide_eq_true_eq] at hi
      have h := h1 rfl r hr
      unfold afterAp at h
      simp only [ho, fv_eq, fl_eq, ownV, ownB] at h
      have hok := OpOk.appendNil hop hc1 hc2 hse (by simp : 0 < (y :: ys).length) hu (.inl ⟨e', hu2⟩) hinf hz hzs hi.2 hi.1 hsrc
      rw [hsz] at hok
      exact RunsE.op o ho hok h

/-- Onto a row of one's own. -/
theorem L.catO (hm : P.follows .mixedOrders = true) (n' b bytes nn : Nat) (zs ys : List α) (hnn : nn = zs.length) (hs : apfAt P (vadv P n' s) = some (.slice (some ⟨b, 0, Option.none⟩) nn nn, F.sz, bytes, ys.length, rows ys))
    (hb : (vadv P n' s).mem[b]? = some (ownB zs))
    (h0 : ys.isEmpty = true → Lifts P f n0 E (afterAp (vadv P n' s) (ownV b zs) (vadv P n' s).mem ⟨[], []⟩) T0)
    (h1 : ys.isEmpty = false → Lifts P f n0 E (afterAp (vadv P n' s) (ownV (vadv P n' s).mem.length (zs ++ ys)) ((vadv P n' s).mem.set b .gone ++ [ownB (zs ++ ys)]) ⟨[b], [b]⟩) T1) :
    Lifts P f n0 E s (bif ys.isEmpty then T0 else bif room (zs.length + ys.length) bytes then T1 else Option.none) := fun r hr => by
  subst hnn
  refine RunsE.adv hm n' ?_
  obtain ⟨o, so, x, t, tx, e, e', i, z, ho, hop, hc1, hc2, hse, hu, hu2, hxe, hinf, hz, hzs, hsz, rfl⟩ := apfAt_inv hs
  have hsrc : SrcC P (vadv P n' s).slots (vadv P n' s).mem i.size x ys.length (rows ys) [] := .frz hxe (by rw [hsz]; exact rows_length ys) (rows_one ys)
  cases ys with
  | nil =>
    have h := h0 rfl r hr
    unfold afterAp at h
    simp only [ho, fv_eq, fl_eq, ownV] at h
    exact RunsE.op o ho (OpOk.append0 hop hc1 hc2 hse (Nat.le_refl _) hu (.inl ⟨e', hu2⟩) hinf hsrc) h
  | cons y ys =>
    have e1 : (y :: ys).isEmpty = false := rfl
    rw [e1, cond_false] at hr
    cases hi : room (zs.length + (y :: ys).length) i.bytes with
    | false => rw [hi] at hr; cases hr
    | true =>
      rw [hi] at hr
      simp only [room, Bool.and_eq_true, decide_eq_true_eq] at hi
      have h := h1 rfl r hr
      unfold afterAp at h
      simp only [ho, fv_eq, fl_eq, ownV, ownB] at h
      have hok := OpOk.appendGrow (l := zs.length) (off := 0) (c := rows zs) hop hc1 hc2 hse (by rw [hsz]; exact hb) (by simp : 0 < (y :: ys).length) (by rw [hsz, rows_length]; omega) hu (.inl ⟨e', hu2⟩) hinf hz hzs hi.2 hi.1 hsrc
      have e2 : ((rows zs).drop 0).take (zs.length * i.size) ++ rows (y :: ys) = rows (zs ++ y :: ys) := by
        rw [List.drop_zero, hsz, ← rows_length, List.take_length, rows_append]
      rw [e2, hsz] at hok
      rw [List.length_append] at h
      exact RunsE.op o ho hok h

end

end

section
open Go.RowKit
set_option linter.unusedVariables false
set_option linter.unusedSimpArgs false

section
variable {P : Program}
variable {α : Type} [F : Flat α]
variable {f : FuncId} {n0 : Nat} {ρ : Type} {E : ρ → Value} {s : VS} {T : Option ρ}
end

end

end Go.Dt
