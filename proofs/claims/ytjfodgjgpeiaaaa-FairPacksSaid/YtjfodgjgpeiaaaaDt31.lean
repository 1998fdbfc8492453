/- A slice held against nil. -/
import Derived.Test.YtjfodgjgpeiaaaaDt29
import Derived.Laws.Cover3
namespace Go.Dt
open Go.RowKit
set_option linter.unusedVariables false

theorem run_eql_nil {P : Program} (w : World) (t e : TypeId) (a : Addr) (l c : Nat) (h : P.underlying t = some (.slice e)) : (binOp .eql t (.slice (some a) l c) (.slice none 0 0)).run P w = .ok (.bool false) w := by
  simp only [binOp]
  simp [run_equal_slice_nil w t e (some a) l c h]
theorem run_guard_slice {P : Program} (w : World) (op : BinOp) (t : TypeId) (x y : Operand) (a b : Option Addr) (l c l' c' : Nat) : (eqGuard op t x y (.slice a l c) (.slice b l' c')).run P w = .ok () w := by
  cases op <;> simp [eqGuard]
section
variable {P : Program} {o : Oper} {a : List Value} {m : List Blk}
theorem OpOk.eqNil {t e ty : TypeId} {x : Operand} {b off l cap : Nat} (ho : o.op = .binOp .eql t x (.const (.slice none 0 0)) ty) (hc : okConst x = true) (hx : evalC a x = .slice (some ⟨b, off, none⟩) l cap)
    (hu : P.underlying t = some (.slice e)) : OpOk P o a m (.bool false) m ⟨[], []⟩ :=
  OpOk.quiet fun ι tt w hs => by
    have hr := rv_operand hs (x := x) (by rw [ho]; simp [Op.operands]) hc
    rw [hx] at hr
    refine ⟨_, .bool _, ?_⟩
    unfold execOp; rw [ho]
    have hn : (act tt).eval (.const (.slice none 0 0)) = .slice none 0 0 := rfl
    generalize hy : (act tt).eval x = y at hr
    cases hr with
    | slice h hcc hrr => simp only [hy, hn, Sem.run_bind, run_guard_slice, Result.andThen_ok, run_eql_nil w t e _ _ _ hu]; simp
    | slice0 => simp only [hy, hn, Sem.run_bind, run_guard_slice, Result.andThen_ok, run_eql_nil w t e _ _ _ hu]; simp
/-- A slice written out, of no elements. -/
theorem OpOk.buildNone {t e : TypeId} {size : Nat} (ho : o.op = .buildSlice t 0 #[]) (hu : P.underlying t = some (.slice e)) (hz : szC P e = some size) :
    OpOk P o a m (.slice (some ⟨m.length, 0, none⟩) 0 0) (m ++ [.cells [] size true]) ⟨[], []⟩ :=
  OpOk.makes fun ι tt w hs => by
    refine ⟨.slice (some ⟨w.heap.size, 0, none⟩) 0 0, #[], e, by simp, fun j hj => ?_, fun ι' hle hι => ?_, ?_⟩
    · simp at hj
    · have := RV.slice (o := 0) (l := 0) hι (Nat.le_refl 0) (by simp)
      simpa using this
    · unfold execOp; rw [ho]
      simp only [Instr.buildSlice, Sem.run_bind, run_underlying hu w, Result.andThen_ok, run_szC hz w, Sem.run_pure, newRow, newObj]
      simp [Instr.fill, Sem.run]
      congr 2
      apply Array.ext'
      simp

def nilAt (P : Program) (s : VS) : Option Bool := match opAt s with
  | some o => match o.op with
    | .binOp .eql t x (.const (.slice none 0 0)) _ => bif okConst x then (match evalC s.slots x, P.underlying t with
      | .slice (some ⟨_, _, none⟩) _ _, some (.slice _) => some false
      | _, _ => none) else none
    | _ => none
  | none => none
variable {Φ : List Blk → Prop} {f : FuncId} {n0 : Nat}
theorem nil_ok {s : VS} (hs : nilAt P s = some false) : ∃ o, opAt s = some o ∧ OpOk P o s.slots s.mem (.bool false) s.mem ⟨[], []⟩ := by
  unfold nilAt at hs
  split at hs
  · rename_i o ho
    split at hs
    · rename_i t x ty hop
      cases hc : okConst x with
      | false => simp [hc] at hs
      | true =>
        rw [hc, cond_true] at hs
        split at hs
        · rename_i b off l c e hx hu
          exact ⟨o, ho, OpOk.eqNil hop hc hx hu⟩
        · cases hs
    · cases hs
  · cases hs
/-- A slice that is not nil is held against nil. -/
theorem R.isNil {s : VS} {v : Value} (hm : P.follows .mixedOrders = true) (n' : Nat) (hs : nilAt P (vadv P n' s) = some false) (hr : RunsE P f n0 (afterOne (vadv P n' s) (.bool false)) v) : RunsE P f n0 s v := by
  obtain ⟨o, ho, hok⟩ := nil_ok hs
  refine RunsE.adv hm n' (RunsE.op o ho hok ?_)
  unfold afterOne at hr
  simpa only [ho, fv_eq] using hr
theorem Q.isNil {s : VS} {v : Value} (hm : P.follows .mixedOrders = true) (n' : Nat) (hs : nilAt P (vadv P n' s) = some false) (hr : RunsQ Φ P f n0 (afterOne (vadv P n' s) (.bool false)) v) : RunsQ Φ P f n0 s v := by
  obtain ⟨o, ho, hok⟩ := nil_ok hs
  refine RunsQ.adv hm n' (RunsQ.op o ho hok ?_)
  unfold afterOne at hr
  simpa only [ho, fv_eq] using hr

def bnAt (P : Program) (s : VS) : Option Nat := match opAt s with
  | some o => match o.op with
    | .buildSlice t 0 ps => (match ps.toList, P.underlying t with
      | [], some (.slice e) => szC P e
      | _, _ => none)
    | _ => none
  | none => none
theorem none_ok {s : VS} {size : Nat} (hs : bnAt P s = some size) : ∃ o, opAt s = some o ∧ OpOk P o s.slots s.mem (.slice (some ⟨s.mem.length, 0, none⟩) 0 0) (s.mem ++ [.cells [] size true]) ⟨[], []⟩ := by
  unfold bnAt at hs
  split at hs
  · rename_i o ho
    split at hs
    · rename_i t ps hop
      split at hs
      · rename_i e hp hu
        have e1 : ps = #[] := by apply Array.ext'; simpa using hp
        subst e1
        exact ⟨o, ho, OpOk.buildNone hop hu hs⟩
      · cases hs
    · cases hs
  · cases hs
/-- A slice written out, of no elements. -/
theorem R.none {s : VS} {v : Value} (hm : P.follows .mixedOrders = true) (n' : Nat) (size : Nat) (hs : bnAt P (vadv P n' s) = some size) (hr : RunsE P f n0 (afterAp (vadv P n' s) (.slice (some ⟨(vadv P n' s).mem.length, 0, none⟩) 0 0) ((vadv P n' s).mem ++ [.cells [] size true]) ⟨[], []⟩) v) : RunsE P f n0 s v := by
  obtain ⟨o, ho, hok⟩ := none_ok hs
  refine RunsE.adv hm n' (RunsE.op o ho hok ?_)
  unfold afterAp at hr
  simpa only [ho, fv_eq, fl_eq] using hr
theorem Q.none {s : VS} {v : Value} (hm : P.follows .mixedOrders = true) (n' : Nat) (size : Nat) (hs : bnAt P (vadv P n' s) = some size) (hr : RunsQ Φ P f n0 (afterAp (vadv P n' s) (.slice (some ⟨(vadv P n' s).mem.length, 0, none⟩) 0 0) ((vadv P n' s).mem ++ [.cells [] size true]) ⟨[], []⟩) v) : RunsQ Φ P f n0 s v := by
  obtain ⟨o, ho, hok⟩ := none_ok hs
  refine RunsQ.adv hm n' (RunsQ.op o ho hok ?_)
  unfold afterAp at hr
  simpa only [ho, fv_eq, fl_eq] using hr

end
end Go.Dt
