/- Several texts in one: Dt37, Dt38, Dt39. -/
import Derived.Test.YtegmkkpdckolkaaQC15
namespace Go.Dt

section
open Go.RowKit
set_option linter.unusedVariables false
set_option linter.unusedSimpArgs false

theorem run_eql_nil0 {P : Program} (w : World) (t e : TypeId) (l c : Nat) (h : P.underlying t = some (.slice e)) : (binOp .eql t (.slice none l c) (.slice none 0 0)).run P w = .ok (.bool true) w := by
  simp only [binOp]
  simp [run_equal_slice_nil w t e none l c h]
section
variable {P : Program} {o : Oper} {a : List Value} {m : List Blk}
theorem OpOk.eqFrz {t e ty : TypeId} {x : Operand} {n : Nat} {c : List Value} (ho : o.op = .binOp .eql t x (.const (.slice none 0 0)) ty) (hc : okConst x = true) (hx : evalC a x = frz n c) (hp : 0 < n)
    (hu : P.underlying t = some (.slice e)) : OpOk P o a m (.bool false) m ⟨[], []⟩ :=
  OpOk.quiet fun ι tt w hs => by
    have hr := rv_operand hs (x := x) (by rw [ho]; simp [Op.operands]) hc
    rw [hx] at hr
    refine ⟨_, .bool _, ?_⟩
    unfold execOp; rw [ho]
    have hn : (act tt).eval (.const (.slice none 0 0)) = .slice none 0 0 := rfl
    generalize hy : (act tt).eval x = y at hr
    cases hr with
    | iface _ ht => exact absurd ht (by decide)
    | frzN => exact absurd hp (by decide)
    | frzE => exact absurd hp (by decide)
    | frz hr hcap hp hfit hcc => simp only [hy, hn, Sem.run_bind, run_guard_slice, Result.andThen_ok, run_eql_nil w t e _ _ _ hu]; simp
theorem OpOk.eqFrz0 {t e ty : TypeId} {x : Operand} {n : Nat} {c : List Value} (ho : o.op = .binOp .eql t x (.const (.slice none 0 0)) ty) (hc : okConst x = true) (hx : evalC a x = frz n c)
    (hu : P.underlying t = some (.slice e)) : OpOk P o a m anyB m ⟨[], []⟩ :=
  OpOk.quiet fun ι tt w hs => by
    have hr := rv_operand hs (x := x) (by rw [ho]; simp [Op.operands]) hc
    rw [hx] at hr
    have hn : (act tt).eval (.const (.slice none 0 0)) = .slice none 0 0 := rfl
    generalize hy : (act tt).eval x = y at hr
    cases hr with
    | iface _ ht => exact absurd ht (by decide)
    | frzN =>
      refine ⟨_, .anyB true, ?_⟩
      unfold execOp; rw [ho]
      simp only [hy, hn, Sem.run_bind, run_guard_slice, Result.andThen_ok, run_eql_nil0 w t e _ _ hu]; simp
    | frzE q cap =>
      refine ⟨_, .anyB false, ?_⟩
      unfold execOp; rw [ho]
      simp only [hy, hn, Sem.run_bind, run_guard_slice, Result.andThen_ok, run_eql_nil w t e _ _ _ hu]; simp
    | frz hr hcap hp hfit hcc =>
      refine ⟨_, .anyB false, ?_⟩
      unfold execOp; rw [ho]
      simp only [hy, hn, Sem.run_bind, run_guard_slice, Result.andThen_ok, run_eql_nil w t e _ _ _ hu]; simp

/-- A slice known by what it holds is held against nil next. -/
def eqnAt (P : Program) (s : VS) : Option (Nat × List Value) := match opAt s with
  | some o => match o.op with
    | .binOp .eql t x (.const (.slice none 0 0)) _ => bif okConst x then (match asFrz (evalC s.slots x), P.underlying t with
      | some (n, c), some (.slice _) => some (n, c)
      | _, _ => none) else none
    | _ => none
  | none => none
theorem eqnAt_inv {s : VS} {n : Nat} {c : List Value} (hs : eqnAt P s = some (n, c)) : ∃ o t x ty e, opAt s = some o ∧ o.op = .binOp .eql t x (.const (.slice none 0 0)) ty ∧ okConst x = true ∧ evalC s.slots x = frz n c ∧ P.underlying t = some (.slice e) := by
  unfold eqnAt at hs
  split at hs
  · rename_i o ho
    split at hs
    · rename_i t x ty hop
      cases hc : okConst x with
      | false => simp [hc] at hs
      | true =>
        rw [hc, cond_true] at hs
        split at hs
        · rename_i n' c' e hx hu
          cases hs
          exact ⟨o, t, x, ty, e, ho, hop, hc, asFrz_ok hx, hu⟩
        · cases hs
    · cases hs
  · cases hs

variable {f : FuncId} {n0 : Nat} {ρ : Type} {E : ρ → Value} {s : VS} {T : Option ρ}
theorem L.eqNil (hm : P.follows .mixedOrders = true) (n' : Nat) {n : Nat} {c : List Value} (hp : 0 < n) (hs : eqnAt P (vadv P n' s) = some (n, c)) (h : Lifts P f n0 E (afterOne (vadv P n' s) (.bool false)) T) : Lifts P f n0 E s T := fun r hr => by
  obtain ⟨o, t, x, ty, e, ho, hop, hc, hx, hu⟩ := eqnAt_inv hs
  have h := h r hr
  refine RunsE.adv hm n' (RunsE.op o ho (OpOk.eqFrz hop hc hx hp hu) ?_)
  unfold afterOne at h
  simpa only [ho, fv_eq] using h
theorem Runs.eqAny {v : Value} {m' : List Blk} {n : Nat} {c : List Value} (hs : eqnAt P s = some (n, c)) (h : Runs P f n0 (afterOne s anyB) v m') : Runs P f n0 s v m' := by
  obtain ⟨o, t, x, ty, e, ho, hop, hc, hx, hu⟩ := eqnAt_inv hs
  refine Runs.op o ho (OpOk.eqFrz0 hop hc hx hu) ?_
  unfold afterOne at h
  simpa only [ho, fv_eq] using h

/-- A truth value that is not known is taken to be both. -/
def anyS (d : Nat) (b : Bool) : VS → VS
  | .norm todo a m => fl (a.set d (.bool b)) fun a' => .norm todo a' m
  | s => s
theorem Runs.anyB {v : Value} {m' : List Blk} (d : Nat) (hs : slotV d s = Dt.anyB) (h : ∀ b, Runs P f n0 (anyS d b s) v m') : Runs P f n0 s v m' := by
  cases s with
  | reg => exact h true
  | norm todo a m =>
    have hs : a.getD d undef = Dt.anyB := hs
    intro ι t w hr b cs hb hk
    have hv := hr.slots d
    rw [hs] at hv
    generalize hy : t.getD d undef = y at hv
    have key : ∀ b', y = .bool b' → Rel ι (a.set d (.bool b')) m t w := fun b' e => by
      refine ⟨by simpa using hr.size, fun x => ?_, hr.sim, hr.dom⟩
      by_cases hx : d = x
      · subst hx
        by_cases hda : d < a.length
        · rw [show (a.set d (.bool b')).getD d undef = .bool b' by simp [List.getD_eq_getElem?_getD, hda], hy, e]
          exact .bool b'
        · rw [List.set_eq_of_length_le (by omega)]
          exact hr.slots d
      · rw [show (a.set d (.bool b')).getD x undef = a.getD x undef by simp [List.getD_eq_getElem?_getD, List.getElem?_set_ne hx]]
        exact hr.slots x
    cases hv with
    | iface _ ht => exact absurd ht (by decide)
    | anyB b' =>
      have := h b'
      simp only [anyS, fl_eq] at this
      exact this ι t w (key b' rfl) b cs hb hk

theorem Runs.weaken {v u : Value} {m' : List Blk} (hw : ∀ (ι : Map) (x : Value), RV ι v x → RV ι u x) (h : Runs P f n0 s v m') : Runs P f n0 s u m' := by
  have key : ∀ {todo a m}, RunsN P f n0 todo a m v m' → RunsN P f n0 todo a m u m' := fun h ι t w hr b cs hb hk => by
    obtain ⟨v', w', fr, ι', h1, h2, h3, h4, h5⟩ := h ι t w hr b cs hb hk
    exact ⟨v', w', fr, ι', h1, h2, h3, hw _ _ h4, h5⟩
  cases s with
  | norm todo a m => exact key h
  | reg => exact fun hreg => key (h hreg)

/-- A slice written out, of no elements. -/
theorem L.none (hm : P.follows .mixedOrders = true) (n' : Nat) (size : Nat) (hs : bnAt P (vadv P n' s) = some size) (h : Lifts P f n0 E (afterAp (vadv P n' s) (.slice (some ⟨(vadv P n' s).mem.length, 0, Option.none⟩) 0 0) ((vadv P n' s).mem ++ [.cells [] size true]) ⟨[], []⟩) T) : Lifts P f n0 E s T := fun r hr => R.none hm n' size hs (h r hr)

variable {α : Type} [F : Flat α]
/-- A copy of a slice of nothing: the end of it. -/
theorem clone_tail {fn : Func} (hm : P.follows .mixedOrders = true) (hf : P.funcs[f]? = some fn) (n4 n5 bytes : Nat) (e4 : apfAt P (vadv P n4 s) = some (.slice (some ⟨0, 0, Option.none⟩) 0 0, F.sz, bytes, 0, []))
    (hb : (vadv P n4 s).mem = [.cells [] F.sz true]) (e5 : retOf P fn (vadv P n5 (afterAp (vadv P n4 s) (frz 0 []) [.gone] ⟨[0], [0]⟩)) = some (frz 0 []))
    (e5m : (vadv P n5 (afterAp (vadv P n4 s) (frz 0 []) [.gone] ⟨[0], [0]⟩)).mem = [.gone]) : Runs P f 0 s (frz 0 []) [.gone] := by
  refine Runs.adv hm n4 ?_
  obtain ⟨o, so, x, t, tx, e, e', i, z, ho, hop, hc1, hc2, hse, hu, hu2, hxe, hinf, hz, hzs, hsz, rfl⟩ := apfAt_inv e4
  have h := Runs.fin (n0 := 0) hm hf n5 e5
  rw [e5m] at h
  have hsrc : SrcC P (vadv P n4 s).slots (vadv P n4 s).mem i.size x 0 [] [] := .frz hxe (by simp) rfl
  have h1 := OpOk.append0 hop hc1 hc2 hse (Nat.le_refl _) hu (.inl ⟨e', hu2⟩) hinf hsrc
  have h2 := h1.weakenV (u := frz 0 []) (fun ι x hx => by
    cases hx with
    | slice0 p q => exact .frzE q 0
    | slice hL hc hr => exact .frzE _ _)
  have h3 := h2.forget (b := 0) (by rw [hb]; exact Nat.zero_lt_one)
  have e6 : (vadv P n4 s).mem.set 0 .gone = [.gone] := by rw [hb]; rfl
  rw [e6] at h3
  refine Runs.op o ho h3 ?_
  unfold afterAp at h
  simp only [ho, fv_eq, fl_eq] at h
  exact h
theorem Runs.noneS {v : Value} {m' : List Blk} {size : Nat} (hs : bnAt P s = some size) (h : Runs P f n0 (afterAp s (.slice (some ⟨s.mem.length, 0, Option.none⟩) 0 0) (s.mem ++ [.cells [] size true]) ⟨[], []⟩) v m') : Runs P f n0 s v m' := by
  obtain ⟨o, ho, hok⟩ := none_ok hs
  refine Runs.op o ho hok ?_
  unfold afterAp at h
  simpa only [ho, fv_eq, fl_eq] using h
/-- A copy of a slice of nothing. -/
theorem clone_nil {fn : Func} (hm : P.follows .mixedOrders = true) (hf : P.funcs[f]? = some fn) (n1 n2 n3 n4 d : Nat) {s1 s2 s3 s4 s5 : VS} {size : Nat}
    (h1 : s1 = vadv P n1 (entry fn [lst ([] : List α)] [])) (e1 : eqnAt P s1 = some (0, []))
    (h2 : s2 = vadv P n2 (afterOne s1 Dt.anyB)) (e2 : slotV d s2 = Dt.anyB)
    (h3 : s3 = vadv P n3 (padS (anyS d true s2))) (e3 : retOf P fn s3 = some (.slice Option.none 0 0)) (e3m : s3.mem = [.gone])
    (h4 : s4 = vadv P n4 (anyS d false s2)) (e4 : bnAt P s4 = some size)
    (h5 : s5 = afterAp s4 (.slice (some ⟨s4.mem.length, 0, Option.none⟩) 0 0) (s4.mem ++ [.cells [] size true]) ⟨[], []⟩) (e5 : Runs P f 0 s5 (frz 0 []) [.gone]) :
    RunsE P f 0 (entry fn [lst ([] : List α)] []) (frz 0 []) := by
  subst h1 h2 h3 h4 h5
  refine ⟨[.gone], Runs.adv hm n1 (Runs.eqAny e1 (Runs.adv hm n2 (Runs.anyB d e2 fun b => ?_)))⟩
  cases b with
  | true =>
    have h := Runs.fin (n0 := 0) hm hf n3 e3
    rw [e3m] at h
    exact Runs.pad (Runs.weaken (fun ι x hx => by cases hx; exact .frzN) h)
  | false => exact Runs.adv hm n4 (Runs.noneS e4 e5)

/-- A copy. -/
theorem clone_con {fn : Func} (bytes : Nat) (hf : P.funcs[f]? = some fn) (hn : ((fn.name == "runtime.NumGoroutine") || fn.body.isNone) = false)
    (h0 : RunsE P f 0 (entry fn [lst ([] : List α)] []) (frz 0 [])) (h1 : ∀ (y : α) (ys : List α), Lifts P f 0 (fun r : List α => lst r) (entry fn [lst (y :: ys)] []) (bif room (y :: ys).length bytes then some (y :: ys) else none)) :
    ∀ (xs : List α) (r : List α), (bif room xs.length bytes then some xs else none) = some r → Con P f [lst xs] (lst r) := fun xs r hr => by
  cases xs with
  | nil =>
    have e : r = [] := by
      cases hi : room ([] : List α).length bytes with
      | false => rw [hi] at hr; cases hr
      | true => rw [hi] at hr; cases hr; rfl
    subst e
    exact Con.run hf hn rfl h0
  | cons y ys => exact Con.lift hf hn rfl (fun _ => rfl) (h1 y ys) r hr
end

end

section
open Go.RowKit
set_option linter.unusedVariables false
set_option linter.unusedSimpArgs false

section
variable {P : Program} {f : FuncId} {n0 : Nat} {ρ : Type} {E : ρ → Value} {s : VS} {T0 T1 : Option ρ}
variable {α : Type} [F : Flat α]
end

end

section
open Go.RowKit
set_option linter.unusedVariables false
set_option linter.unusedSimpArgs false

section
variable {P : Program}
variable {α : Type} [F : Flat α]
variable {f : FuncId} {n0 : Nat} {ρ : Type} {E : ρ → Value} {s : VS} {T : Option ρ}
end

end

end Go.Dt
