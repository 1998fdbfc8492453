/- Several texts in one: Dt37, Dt38, Dt39. -/
import Derived.Test.YtefiememffgohaaQP15
namespace Go.Dt

section
open Go.RowKit
set_option linter.unusedVariables false
set_option linter.unusedSimpArgs false

theorem run_eql_nil0 {P : Program} (w : World) (t e : TypeId) (l c : Nat) (h : P.underlying t = some (.slice e)) : (binOp .eql t (.slice none l c) (.slice none 0 0)).run P w = .ok (.bool true) w := by
  simp only [binOp]
  simp [run_equal_slice_nil w t e none l c h]
section
variable {P : Program} {o : Oper} {a : List Value} {m : List Blk}
theorem OpOk.eqFrz {t e ty : TypeId} {x : Operand} {n : Nat} {c : List Value} (ho : o.op = .binOp .eql t x (.const (.slice none 0 0)) ty) (hc : okConst x = true) (hx : evalC a x = frz n c) (hp : 0 < n)
    (hu : P.underlying t = some (.slice e)) : OpOk P o a m (.bool false) m ⟨[], []⟩ :=
  OpOk.quiet fun ι tt w hs => by
    have hr := rv_operand hs (x := x) (by rw [ho]; simp [Op.operands]) hc
    rw [hx] at hr
    refine ⟨_, .bool _, ?_⟩
    unfold execOp; rw [ho]
    have hn : (act tt).eval (.const (.slice none 0 0)) = .slice none 0 0 := rfl
    generalize hy : (act tt).eval x = y at hr
    cases hr with
    | iface _ ht => exact absurd ht (by decide)
    | frzN => exact absurd hp (by decide)
    | frzE => exact absurd hp (by decide)
    | frz hr hcap hp hfit hcc => simp only [hy, hn, Sem.run_bind, run_guard_slice, Result.andThen_ok, run_eql_nil w t e _ _ _ hu]; simp
theorem OpOk.eqFrz0 {t e ty : TypeId} {x : Operand} {n : Nat} {c : List Value} (ho : o.op = .binOp .eql t x (.const (.slice none 0 0)) ty) (hc : okConst x = true) (hx : evalC a x = frz n c)
    (hu : P.underlying t = some (.slice e)) : OpOk P o a m anyB m ⟨[], []⟩ :=
  OpOk.quiet fun ι tt w hs => by
    have hr := rv_operand hs (x := x) (by rw [ho]; simp [Op.operands]) hc
    rw [hx] at hr
    have hn : (act tt).eval (.const (.slice none 0 0)) = .slice none 0 0 := rfl
    generalize hy : (act tt).eval x = y at hr
    cases hr with
    | iface _ ht => exact absurd ht (by decide)
    | frzN =>
      refine ⟨_, .anyB true, ?_⟩
      unfold execOp; rw [ho]
      simp only [hy, hn, Sem.run_bind, run_guard_slice, Result.andThen_ok, run_eql_nil0 w t e _ _ hu]; simp
    | frzE q cap =>
      refine ⟨_, .anyB false, ?_⟩
      unfold execOp; rw [ho]
      simp only [hy, hn, Sem.run_bind, run_guard_slice, Result.andThen_ok, run_eql_nil w t e _ _ _ hu]; simp
    | frz hr hcap hp hfit hcc =>
      refine ⟨_, .anyB false, ?_⟩
      unfold execOp; rw [ho]
      simp only [hy, hn, Sem.run_bind, run_guard_slice, Result.andThen_ok, run_eql_nil w t e _ _ _ hu]; simp

/-- A slice known by what it holds is held against nil next. -/
def eqnAt (P : Program) (s : VS) : Option (Nat × List Value) := match opAt s with
  | some o => match o.op with
    | .binOp .eql t x (.const (.slice none 0 0)) _ => bif okConst x then (match asFrz (evalC s.slots x), P.underlying t with
      | some (n, c), some (.slice _) => some (n, c)
      | _, _ => none) else none
    | _ => none
  | none => none
theorem eqnAt_inv {s : VS} {n : Nat} {c : List Value} (hs : eqnAt P s = some (n, c)) : ∃ o t x ty e, opAt s = some o ∧ o.op = .binOp .eql t x (.const (.slice none 0 0)) ty ∧ okConst x = true ∧ evalC s.slots x = frz n c ∧ P.underlying t = some (.slice e) := by
  unfold eqnAt at hs
  split at hs
  · rename_i o ho
    split at hs
    · rename_i t x ty hop
      cases hc : okConst x with
      | false => simp [hc] at hs
      | true =>
        rw [hc, cond_true] at hs
        split at hs
        · rename_i n' c' e hx hu
          cases hs
          exact ⟨o, t, x, ty, e, ho, hop, hc, asFrz_ok hx, hu⟩
        · cases hs
    · cases hs
  · cases hs

variable {f : FuncId} {n0 : Nat} {ρ : Type} {E : ρ → Value} {s : VS} {T : Option ρ}
theorem L.eqNil (hm : P.follows .mixedOrders = true) (n' : Nat) {n : Nat} {c : List Value} (hp : 0 < n) (hs : eqnAt P (vadv P n' s) = some (n, c)) (h : Lifts P f n0 E (afterOne (vadv P n' s) (.bool false)) T) : Lifts P f n0 E s T := fun r hr => by
  obtain ⟨o, t, x, ty, e, ho, hop, hc, hx, hu⟩ := eqnAt_inv hs
  have h := h r hr
  refine RunsE.adv hm n' (RunsE.op o ho (OpOk.eqFrz hop hc hx hp hu) ?_)
  unfold afterOne at h
  simpa only [ho, fv_eq] using h
theorem Runs.eqAny {v : Value} {m' : List Blk} {n : Nat} {c : List Value} (hs : eqnAt P s = some (n, c)) (h : Runs P f n0 (afterOne s anyB) v m') : Runs P f n0 s v m' := by
  obtain ⟨o, t, x, ty, e, ho, hop, hc, hx, hu⟩ := eqnAt_inv hs
  refine Runs.op o ho (OpOk.eqFrz0 hop hc hx hu) ?_
  unfold afterOne at h
  simpa only [ho, fv_eq] using h

/-- A truth value that is not known is taken to be both. -/
def anyS (d : Nat) (b : Bool) : VS → VS
  | .norm todo a m => fl (a.set d (.bool b)) fun a' => .norm todo a' m
  | s => s
theorem Runs.anyB {v : Value} {m' : List Blk} (d : Nat) (hs : slotV d s = Dt.anyB) (h : ∀ b, Runs P f n0 (anyS d b s) v m') : Runs P f n0 s v m' := by
  cases s with
  | reg => exact h true
  | norm todo a m =>
    have hs : a.getD d undef = Dt.anyB := hs
    intro ι t w hr b cs hb hk
    have hv := hr.slots d
    rw [hs] at hv
    generalize hy : t.getD d undef = y at hv
    have key : ∀ b', y = .bool b' → Rel ι (a.set d (.bool b')) m t w := fun b' e => by
      refine ⟨by simpa using hr.size, fun x => ?_, hr.sim, hr.dom⟩
      by_cases hx : d = x
      · subst hx
        by_cases hda : d < a.length
        · rw [show (a.set d (.bool b')).getD d undef = .bool b' by simp [List.getD_eq_getElem?_getD, hda], hy, e]
          exact .bool b'
        · rw [List.set_eq_of_length_le (by omega)]
          exact hr.slots d
      · rw [show (a.set d (.bool b')).getD x undef = a.getD x undef by simp [List.getD_eq_getElem?_getD, List.getElem?_set_ne hx]]
        exact hr.slots x
    cases hv with
    | iface _ ht => exact absurd ht (by decide)
    | anyB b' =>
      have := h b'
      simp only [anyS, fl_eq] at this
      exact this ι t w (key b' rfl) b cs hb hk

theorem Runs.weaken {v u : Value} {m' : List Blk} (hw : ∀ (ι : Map) (x : Value), RV ι v x → RV ι u x) (h : Runs P f n0 s v m') : Runs P f n0 s u m' := by
  have key : ∀ {todo a m}, RunsN P f n0 todo a m v m' → RunsN P f n0 todo a m u m' := fun h ι t w hr b cs hb hk => by
    obtain ⟨v', w', fr, ι', h1, h2, h3, h4, h5⟩ := h ι t w hr b cs hb hk
    exact ⟨v', w', fr, ι', h1, h2, h3, hw _ _ h4, h5⟩
  cases s with
  | norm todo a m => exact key h
  | reg => exact fun hreg => key (h hreg)

/-- A slice written out, of no elements. -/
theorem L.none (hm : P.follows .mixedOrders = true) (n' : Nat) (size : Nat) (hs : bnAt P (vadv P n' s) = some size) (h : Lifts P f n0 E (afterAp (vadv P n' s) (.slice (some ⟨(vadv P n' s).mem.length, 0, Option.none⟩) 0 0) ((vadv P n' s).mem ++ [.cells [] size true]) ⟨[], []⟩) T) : Lifts P f n0 E s T := fun r hr => R.none hm n' size hs (h r hr)

variable {α : Type} [F : Flat α]
/-- A copy of a slice of nothing: the end of it. -/
theorem clone_tail {fn : Func} (hm : P.follows .mixedOrders = true) (hf : P.funcs[f]? = some fn) (n4 n5 bytes : Nat) (e4 : apfAt P (vadv P n4 s) = some (.slice (some ⟨0, 0, Option.none⟩) 0 0, F.sz, bytes, 0, []))
    (hb : (vadv P n4 s).mem = [.cells [] F.sz true]) (e5 : retOf P fn (vadv P n5 (afterAp (vadv P n4 s) (frz 0 []) [.gone] ⟨[0], [0]⟩)) = some (frz 0 []))
    (e5m : (vadv P n5 (afterAp (vadv P n4 s) (frz 0 []) [.gone] ⟨[0], [0]⟩)).mem = [.gone]) : Runs P f 0 s (frz 0 []) [.gone] := by
  refine Runs.adv hm n4 ?_
  obtain ⟨o, so, x, t, tx, e, e', i, z, ho, hop, hc1, hc2, hse, hu, hu2, hxe, hinf, hz, hzs, hsz, rfl⟩ := apfAt_inv e4
  have h := Runs.fin (n0 := 0) hm hf n5 e5
  rw [e5m] at h
  have hsrc : SrcC P (vadv P n4 s).slots (vadv P n4 s).mem i.size x 0 [] [] := .frz hxe (by simp) rfl
  have h1 := OpOk.append0 hop hc1 hc2 hse (Nat.le_refl _) hu (.inl ⟨e', hu2⟩) hinf hsrc
  have h2 := h1.weakenV (u := frz 0 []) (fun ι x hx => by
    cases hx with
    | slice0 p q => exact .frzE q 0
    | slice hL hc hr => exact .frzE _ _)
  have h3 := h2.forget (b := 0) (by rw [hb]; exact Nat.zero_lt_one)
  have e6 : (vadv P n4 s).mem.set 0 .gone = [.gone] := by rw [hb]; rfl
  rw [e6] at h3
  refine Runs.op o ho h3 ?_
  unfold afterAp at h
  simp only [ho, fv_eq, fl_eq] at h
  exact h
theorem Runs.noneS {v : Value} {m' : List Blk} {size : Nat} (hs : bnAt P s = some size) (h : Runs P f n0 (afterAp s (.slice (some ⟨s.mem.length, 0, Option.none⟩) 0 0) (s.mem ++ [.cells [] size true]) ⟨[], []⟩) v m') : Runs P f n0 s v m' := by
  obtain ⟨o, ho, hok⟩ := none_ok hs
  refine Runs.op o ho hok ?_
  unfold afterAp at h
  simpa only [ho, fv_eq, fl_eq] using h
/-- A copy of a slice of nothing. -/
theorem clone_nil {fn : Func} (hm : P.follows .mixedOrders = true) (hf : P.funcs[f]? = some fn) (n1 n2 n3 n4 d : Nat) {s1 s2 s3 s4 s5 : VS} {size : Nat}
    (h1 : s1 = vadv P n1 (entry fn [lst ([] : List α)] [])) (e1 : eqnAt P s1 = some (0, []))
    (h2 : s2 = vadv P n2 (afterOne s1 Dt.anyB)) (e2 : slotV d s2 = Dt.anyB)
    (h3 : s3 = vadv P n3 (padS (anyS d true s2))) (e3 : retOf P fn s3 = some (.slice Option.none 0 0)) (e3m : s3.mem = [.gone])
    (h4 : s4 = vadv P n4 (anyS d false s2)) (e4 : bnAt P s4 = some size)
    (h5 : s5 = afterAp s4 (.slice (some ⟨s4.mem.length, 0, Option.none⟩) 0 0) (s4.mem ++ [.cells [] size true]) ⟨[], []⟩) (e5 : Runs P f 0 s5 (frz 0 []) [.gone]) :
    RunsE P f 0 (entry fn [lst ([] : List α)] []) (frz 0 []) := by
  subst h1 h2 h3 h4 h5
  refine ⟨[.gone], Runs.adv hm n1 (Runs.eqAny e1 (Runs.adv hm n2 (Runs.anyB d e2 fun b => ?_)))⟩
  cases b with
  | true =>
    have h := Runs.fin (n0 := 0) hm hf n3 e3
    rw [e3m] at h
    exact Runs.pad (Runs.weaken (fun ι x hx => by cases hx; exact .frzN) h)
  | false => exact Runs.adv hm n4 (Runs.noneS e4 e5)

/-- A copy. -/
theorem clone_con {fn : Func} (bytes : Nat) (hf : P.funcs[f]? = some fn) (hn : ((fn.name == "runtime.NumGoroutine") || fn.body.isNone) = false)
    (h0 : RunsE P f 0 (entry fn [lst ([] : List α)] []) (frz 0 [])) (h1 : ∀ (y : α) (ys : List α), Lifts P f 0 (fun r : List α => lst r) (entry fn [lst (y :: ys)] []) (bif room (y :: ys).length bytes then some (y :: ys) else none)) :
    ∀ (xs : List α) (r : List α), (bif room xs.length bytes then some xs else none) = some r → Con P f [lst xs] (lst r) := fun xs r hr => by
  cases xs with
  | nil =>
    have e : r = [] := by
      cases hi : room ([] : List α).length bytes with
      | false => rw [hi] at hr; cases hr
      | true => rw [hi] at hr; cases hr; rfl
    subst e
    exact Con.run hf hn rfl h0
  | cons y ys => exact Con.lift hf hn rfl (fun _ => rfl) (h1 y ys) r hr
end

end

section
open Go.RowKit
set_option linter.unusedVariables false
set_option linter.unusedSimpArgs false

section
variable {P : Program} {f : FuncId} {n0 : Nat} {ρ : Type} {E : ρ → Value} {s : VS} {T0 T1 : Option ρ}
variable {α : Type} [F : Flat α]
/-- Onto nil. -/
theorem L.catN (hm : P.follows .mixedOrders = true) (n' bytes : Nat) (ys : List α) (hs : apfAt P (vadv P n' s) = some (.slice Option.none 0 0, F.sz, bytes, ys.length, rows ys))
    (h0 : ys.isEmpty = true → Lifts P f n0 E (afterAp (vadv P n' s) (.slice Option.none 0 0) (vadv P n' s).mem ⟨[], []⟩) T0)
    (h1 : ys.isEmpty = false → Lifts P f n0 E (afterAp (vadv P n' s) (ownV (vadv P n' s).mem.length ys) ((vadv P n' s).mem ++ [ownB ys]) ⟨[], []⟩) T1) :
    Lifts P f n0 E s (bif ys.isEmpty then T0 else bif room (([] : List α).length + ys.length) bytes then T1 else Option.none) := fun r hr => by
  refine RunsE.adv hm n' ?_
  obtain ⟨o, so, x, t, tx, e, e', i, z, ho, hop, hc1, hc2, hse, hu, hu2, hxe, hinf, hz, hzs, hsz, rfl⟩ := apfAt_inv hs
  have hsrc : SrcC P (vadv P n' s).slots (vadv P n' s).mem i.size x ys.length (rows ys) [] := .frz hxe (by rw [hsz]; exact rows_length ys) (rows_one ys)
  cases ys with
  | nil =>
    have h := h0 rfl r hr
    unfold afterAp at h
    simp only [ho, fv_eq, fl_eq] at h
    exact RunsE.op o ho (OpOk.append0 hop hc1 hc2 hse (Nat.le_refl _) hu (.inl ⟨e', hu2⟩) hinf hsrc) h
  | cons y ys =>
    have e1 : (y :: ys).isEmpty = false := rfl
    rw [e1, cond_false] at hr
    rw [List.length_nil, Nat.zero_add] at hr
    cases hi : room (y :: ys).length i.bytes with
    | false => rw [hi] at hr; cases hr
    | true =>
      rw [hi] at hr
      simp only [room, Bool.and_eq_true, decide_eq_true_eq] at hi
      have h := h1 rfl r hr
      unfold afterAp at h
      simp only [ho, fv_eq, fl_eq, ownV, ownB] at h
      have hok := OpOk.appendNil hop hc1 hc2 hse (by simp : 0 < (y :: ys).length) hu (.inl ⟨e', hu2⟩) hinf hz hzs hi.2 hi.1 hsrc
      rw [hsz] at hok
      exact RunsE.op o ho hok h

/-- Onto a row of one's own. -/
theorem L.catO (hm : P.follows .mixedOrders = true) (n' b bytes nn : Nat) (zs ys : List α) (hnn : nn = zs.length) (hs : apfAt P (vadv P n' s) = some (.slice (some ⟨b, 0, Option.none⟩) nn nn, F.sz, bytes, ys.length, rows ys))
    (hb : (vadv P n' s).mem[b]? = some (ownB zs))
    (h0 : ys.isEmpty = true → Lifts P f n0 E (afterAp (vadv P n' s) (ownV b zs) (vadv P n' s).mem ⟨[], []⟩) T0)
    (h1 : ys.isEmpty = false → Lifts P f n0 E (afterAp (vadv P n' s) (ownV (vadv P n' s).mem.length (zs ++ ys)) ((vadv P n' s).mem.set b .gone ++ [ownB (zs ++ ys)]) ⟨[b], [b]⟩) T1) :
    Lifts P f n0 E s (bif ys.isEmpty then T0 else bif room (zs.length + ys.length) bytes then T1 else Option.none) := fun r hr => by
  subst hnn
  refine RunsE.adv hm n' ?_
  obtain ⟨o, so, x, t, tx, e, e', i, z, ho, hop, hc1, hc2, hse, hu, hu2, hxe, hinf, hz, hzs, hsz, rfl⟩ := apfAt_inv hs
  have hsrc : SrcC P (vadv P n' s).slots (vadv P n' s).mem i.size x ys.length (rows ys) [] := .frz hxe (by rw [hsz]; exact rows_length ys) (rows_one ys)
  cases ys with
  | nil =>
    have h := h0 rfl r hr
    unfold afterAp at h
    simp only [ho, fv_eq, fl_eq, ownV] at h
    exact RunsE.op o ho (OpOk.append0 hop hc1 hc2 hse (Nat.le_refl _) hu (.inl ⟨e', hu2⟩) hinf hsrc) h
  | cons y ys =>
    have e1 : (y :: ys).isEmpty = false := rfl
    rw [e1, cond_false] at hr
    cases hi : room (zs.length + (y :: ys).length) i.bytes with
    | false => rw [hi] at hr; cases hr
    | true =>
      rw [hi] at hr
      simp only [room, Bool.and_eq_true, decide_eq_true_eq] at hi
      have h := h1 rfl r hr
      unfold afterAp at h
      simp only [ho, fv_eq, fl_eq, ownV, ownB] at h
      have hok := OpOk.appendGrow (l := zs.length) (off := 0) (c := rows zs) hop hc1 hc2 hse (by rw [hsz]; exact hb) (by simp : 0 < (y :: ys).length) (by rw [hsz, rows_length]; omega) hu (.inl ⟨e', hu2⟩) hinf hz hzs hi.2 hi.1 hsrc
      have e2 : ((rows zs).drop 0).take (zs.length * i.size) ++ rows (y :: ys) = rows (zs ++ y :: ys) := by
        rw [List.drop_zero, hsz, ← rows_length, List.take_length, rows_append]
      rw [e2, hsz] at hok
      rw [List.length_append] at h
      exact RunsE.op o ho hok h

/-- A slice written out, that is known by what it holds from then on. -/
def bsfAt (P : Program) (s : VS) : Option (Nat × List Value) := match opAt s with
  | some o => match o.op with
    | .buildSlice t len ps => bif (ps.toList.all (fun p => okConst p.2) && ps.toList.all (fun p => notTuple (evalC s.slots p.2))) && Nat.blt 0 len then (match bsCells P t len (partsC s.slots ps) with
      | some (_, cs) => some (len, cs.toList)
      | Option.none => Option.none) else Option.none
    | _ => Option.none
  | Option.none => Option.none
theorem L.lit (hm : P.follows .mixedOrders = true) (n' : Nat) (xs : List α) (hs : bsfAt P (vadv P n' s) = some (xs.length, rows xs))
    (h : Lifts P f n0 E (afterAp (vadv P n' s) (lst xs) ((vadv P n' s).mem ++ [.gone]) ⟨[], []⟩) T0) : Lifts P f n0 E s T0 := fun r hr => by
  have h := h r hr
  refine RunsE.adv hm n' ?_
  unfold bsfAt at hs
  unfold afterAp at h
  split at hs
  · rename_i o ho
    simp only [ho, fv_eq, fl_eq] at h
    split at hs
    · rename_i t len ps hop
      cases hc : ((ps.toList.all (fun p => okConst p.2) && ps.toList.all (fun p => notTuple (evalC (vadv P n' s).slots p.2))) && Nat.blt 0 len) with
      | false => rw [hc] at hs; cases hs
      | true =>
        rw [hc, cond_true] at hs
        simp only [Bool.and_eq_true] at hc
        split at hs
        · rename_i size cs hb
          simp only [Option.some.injEq, Prod.mk.injEq] at hs
          obtain ⟨rfl, e2⟩ := hs
          have hok := OpOk.buildSlice (o := o) (m := (vadv P n' s).mem) hop hc.1.1 hc.1.2 hb
          rw [e2] at hok
          have hpos : 0 < xs.length := Nat.le_of_ble_eq_true hc.2
          exact RunsE.op o ho (OpOk.frzOut (m1 := (vadv P n' s).mem) rfl (rows_pure xs) (fun h => absurd hpos (by omega)) hok) h
        · cases hs
    · cases hs
  · cases hs
end

end

section
open Go.RowKit
set_option linter.unusedVariables false
set_option linter.unusedSimpArgs false

/-- What is copied next: into which block, from which cell on, how many elements there is room for, their size, the block's cells; where from (a block and a cell, or a known slice), how many, the cells. -/
def cpAt (P : Program) (s : VS) : Option (Nat × Nat × Nat × Nat × List Value × Option (Nat × Nat) × Nat × List Value) := match opAt s with
  | some o => match o.op with
    | .call ⟨.builtin .copy, xs, ts⟩ => match xs.toList, ts.toList with
      | [d, x], [t, tx] => bif okConst d && okConst x then (match P.underlying t, P.underlying tx, evalC s.slots d with
        | some (.slice e), some (.slice _), .slice (some ⟨b, off, none⟩) l _ => (match s.mem[b]?, szC P e with
          | some (.cells c sz true), some size => bif Nat.beq sz size then (match asFrz (evalC s.slots x) with
            | some (n, c2) => some (b, off, l, size, c, none, n, c2)
            | none => (match evalC s.slots x with
              | .slice (some ⟨b2, off2, none⟩) n _ => (match s.mem[b2]? with
                | some (.cells c2 _ _) => some (b, off, l, size, c, some (b2, off2), n, c2)
                | _ => none)
              | _ => none)) else none
          | _, _ => none)
        | _, _, _ => none) else none
      | _, _ => none
    | _ => none
  | none => none
section
variable {P : Program}
theorem cpAt_inv {s : VS} {b off l size n : Nat} {c c2 : List Value} {q : Option (Nat × Nat)} (hs : cpAt P s = some (b, off, l, size, c, q, n, c2)) :
    ∃ o d x t tx e e' cap, opAt s = some o ∧ o.op = .call { callee := .builtin .copy, args := #[d, x], argTypes := #[t, tx] } ∧ okConst d = true ∧ okConst x = true ∧ P.underlying t = some (.slice e) ∧ P.underlying tx = some (.slice e') ∧
      evalC s.slots d = .slice (some ⟨b, off, none⟩) l cap ∧ s.mem[b]? = some (.cells c size true) ∧ szC P e = some size ∧
      ((q = none ∧ evalC s.slots x = frz n c2) ∨ ∃ b2 off2 cap2 sz2 rw2, q = some (b2, off2) ∧ evalC s.slots x = .slice (some ⟨b2, off2, none⟩) n cap2 ∧ s.mem[b2]? = some (.cells c2 sz2 rw2)) := by
  unfold cpAt at hs
  split at hs
  · rename_i o ho
    split at hs
    · rename_i xs ts hop
      split at hs
      · rename_i d x t tx hx ht
        cases hc : (okConst d && okConst x) with
        | false => simp [hc] at hs
        | true =>
          rw [hc, cond_true] at hs
          rw [Bool.and_eq_true] at hc
          split at hs
          · rename_i e e' b' off' l' cap hu hu2 hd
            split at hs
            · rename_i c' sz size' hb hz
              cases hbq : Nat.beq sz size' with
              | false => simp [hbq] at hs
              | true =>
                rw [hbq, cond_true] at hs
                have e0 := Nat.eq_of_beq_eq_true hbq
                subst e0
                have e1 := arr_two hx
                have e2 := arr_two ht
                subst e1 e2
                split at hs
                · rename_i n' c2' hf
                  cases hs
                  exact ⟨o, d, x, t, tx, e, e', cap, ho, hop, hc.1, hc.2, hu, hu2, hd, hb, hz, .inl ⟨rfl, asFrz_ok hf⟩⟩
                · split at hs
                  · rename_i b2 off2 n' cap2 hxe
                    split at hs
                    · rename_i c2' sz2 rw2 hb2
                      cases hs
                      exact ⟨o, d, x, t, tx, e, e', cap, ho, hop, hc.1, hc.2, hu, hu2, hd, hb, hz, .inr ⟨b2, off2, cap2, sz2, rw2, rfl, hxe, hb2⟩⟩
                    · cases hs
                  · cases hs
            · cases hs
          · cases hs
      · cases hs
    · cases hs
  · cases hs

variable {α : Type} [F : Flat α]
/-- A row, in which so many elements of another one were copied to a place. -/
def cpL (zs : List α) (o l : Nat) (ys : List α) : List α := zs.take o ++ ys.take (Nat.min ys.length l) ++ zs.drop (o + Nat.min ys.length l)
theorem splice_rows (zs ys : List α) (o k : Nat) (hk : k ≤ ys.length) : splice (rows zs) (o * F.sz) ((rows ys).take (k * F.sz)) = rows (zs.take o ++ ys.take k ++ zs.drop (o + k)) := by
  unfold splice
  have e : ((rows ys).take (k * F.sz)).length = k * F.sz := by
    rw [rows_take, rows_length, List.length_take, Nat.min_eq_left hk]
  rw [e, ← Nat.add_mul, rows_take, rows_take, rows_drop, rows_append, rows_append]

omit F in
theorem cpL_length {zs ys : List α} {o l : Nat} (h : o + l ≤ zs.length) : (cpL zs o l ys).length = zs.length := by
  have h1 : Nat.min ys.length l ≤ l := Nat.min_le_right _ _
  have h2 : Nat.min ys.length l ≤ ys.length := Nat.min_le_left _ _
  simp only [cpL, List.length_append, List.length_take, List.length_drop, Nat.min_eq_left h2]
  rw [Nat.min_eq_left (by omega)]
  omega

variable {f : FuncId} {n0 : Nat} {ρ : Type} {E : ρ → Value} {s : VS} {T : Option ρ}
/-- Of a slice that is known by what it holds, into a row of one's own. -/
theorem L.copyF (hm : P.follows .mixedOrders = true) (n' b off l o : Nat) (zs ys : List α) (ho : off = o * F.sz) (hs : cpAt P (vadv P n' s) = some (b, off, l, F.sz, rows zs, Option.none, ys.length, rows ys))
    (h : (cpL zs o l ys).length = zs.length → Lifts P f n0 E (afterAp (vadv P n' s) (.int .i64 (Nat.min ys.length l : Nat)) ((vadv P n' s).mem.set b (ownB (cpL zs o l ys))) ⟨[b], [b]⟩) T) :
    Lifts P f n0 E s (bif Nat.ble (o + l) zs.length then T else Option.none) := fun r hr => by
  cases hi : Nat.ble (o + l) zs.length with
  | false => rw [hi] at hr; cases hr
  | true =>
    rw [hi] at hr
    have hle := Nat.le_of_ble_eq_true hi
    have h := h (cpL_length hle) r hr
    refine RunsE.adv hm n' ?_
    obtain ⟨o', d, x, t, tx, e, e', cap, hop, hopp, hc1, hc2, hu, hu2, hd, hb, hz, hsrc⟩ := cpAt_inv hs
    rcases hsrc with ⟨_, hx⟩ | ⟨_, _, _, _, _, hq, _⟩
    · unfold afterAp at h
      simp only [hop, fv_eq, fl_eq] at h
      have hmin : Nat.min ys.length l ≤ l := Nat.min_le_right _ _
      have hmin2 : Nat.min ys.length l ≤ ys.length := Nat.min_le_left _ _
      have hfit : off + Nat.min ys.length l * F.sz ≤ (rows zs).length := by
        rw [ho, rows_length, ← Nat.add_mul]
        exact Nat.mul_le_mul_right _ (by omega)
      have hok := OpOk.copy hopp hc1 hc2 hd hb hfit hu (.inl ⟨e', hu2⟩) hz (SrcC.frz (size := F.sz) (m := (vadv P n' s).mem) hx (rows_length ys) (rows_one ys)) (fun str hstr => by rw [hx] at hstr; cases hstr)
      rw [ho, splice_rows zs ys o _ hmin2] at hok
      exact RunsE.op o' hop hok h
    · cases hq
/-- Of a row of one's own, into one. -/
theorem L.copyO (hm : P.follows .mixedOrders = true) (n' b off l o b2 off2 o2 n : Nat) (zs ws : List α) (ho : off = o * F.sz) (ho2 : off2 = o2 * F.sz) (hs : cpAt P (vadv P n' s) = some (b, off, l, F.sz, rows zs, some (b2, off2), n, rows ws))
    (h : (cpL zs o l ((ws.drop o2).take n)).length = zs.length → Lifts P f n0 E (afterAp (vadv P n' s) (.int .i64 (Nat.min ((ws.drop o2).take n).length l : Nat)) ((vadv P n' s).mem.set b (ownB (cpL zs o l ((ws.drop o2).take n)))) ⟨[b, b2], [b]⟩) T) :
    Lifts P f n0 E s (bif Nat.ble (o + l) zs.length && Nat.ble (o2 + n) ws.length then T else Option.none) := fun r hr => by
  cases hi : (Nat.ble (o + l) zs.length && Nat.ble (o2 + n) ws.length) with
  | false => rw [hi] at hr; cases hr
  | true =>
    rw [hi] at hr
    rw [Bool.and_eq_true] at hi
    have hle := Nat.le_of_ble_eq_true hi.1
    have hle2 := Nat.le_of_ble_eq_true hi.2
    have h := h (cpL_length hle) r hr
    refine RunsE.adv hm n' ?_
    obtain ⟨o', d, x, t, tx, e, e', cap, hop, hopp, hc1, hc2, hu, hu2, hd, hb, hz, hsrc⟩ := cpAt_inv hs
    rcases hsrc with ⟨hq, _⟩ | ⟨b2', off2', cap2, sz2, rw2, hq, hx, hb2⟩
    · cases hq
    · cases hq
      unfold afterAp at h
      simp only [hop, fv_eq, fl_eq] at h
      have hyl : ((ws.drop o2).take n).length = n := by simp; omega
      have hmin : Nat.min n l ≤ l := Nat.min_le_right _ _
      have hmin2 : Nat.min n l ≤ n := Nat.min_le_left _ _
      have hfit : off + Nat.min n l * F.sz ≤ (rows zs).length := by
        rw [ho, rows_length, ← Nat.add_mul]
        exact Nat.mul_le_mul_right _ (by omega)
      have hcell : ((rows ws).drop off2).take (n * F.sz) = rows ((ws.drop o2).take n) := by rw [ho2, rows_drop, rows_take]
      have hok := OpOk.copy hopp hc1 hc2 hd hb hfit hu (.inl ⟨e', hu2⟩) hz (SrcC.sl (size := F.sz) (m := (vadv P n' s).mem) hx hb2 (by rw [ho2, rows_length, ← Nat.add_mul]; exact Nat.mul_le_mul_right _ (by omega)) (by rw [hcell]; exact rows_one _)) (fun str hstr => by rw [hx] at hstr; cases hstr)
      rw [hcell, ho, splice_rows zs _ o _ (by rw [hyl]; exact hmin2)] at hok
      unfold cpL at h
      rw [hyl] at h
      exact RunsE.op o' hop hok h

/-- A row of one's own, cut. -/
theorem L.osl (hm : P.follows .mixedOrders = true) (n' b off len cap size : Nat) (lo hi : Option Int) (hs : slAt P (vadv P n' s) = some (b, off, len, cap, size, lo, hi))
    (h : Lifts P f n0 E (afterRd (vadv P n' s) b (.slice (some ⟨b, off + (lo.getD 0).toNat * size, Option.none⟩) ((hi.getD len).toNat - (lo.getD 0).toNat) (cap - (lo.getD 0).toNat))) T) :
    Lifts P f n0 E s (bif cutOk cap (lo.getD 0) (hi.getD len) then T else Option.none) := fun r hr => by
  cases hi' : cutOk cap (lo.getD 0) (hi.getD len) with
  | false => rw [hi'] at hr; cases hr
  | true =>
    rw [hi'] at hr
    simp only [cutOk, Bool.and_eq_true, decide_eq_true_eq] at hi'
    exact R.slice hm n' b off len cap size lo hi (lo.getD 0).toNat (hi.getD len).toNat _ hs (by omega) (by omega) (by omega) (by omega) rfl (h r hr)
end

end

end Go.Dt
