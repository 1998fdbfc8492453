/- Operations whose outcome hangs on a condition: quotients, shifts, functions without a body. -/
import Derived.Test.YtjfodgjgpeiaaaaDt14
import Derived.Laws.Externs
namespace Go.Dt
open Go.RowKit

section
variable {P : Program} {f : FuncId} {n0 : Nat}

/-- What is divided next: a remainder? the kind, the two numbers. -/
def divAt (s : VS) : Option (Bool × IntKind × Int × Int) := match opAt s with
  | some o => match o.op with
    | .binOp .quo _ x y _ => match evalC s.slots x, evalC s.slots y with
      | .int k n, .int k' d => if decide (k = k') && okConst x && okConst y then some (false, k, n, d) else none
      | _, _ => none
    | .binOp .rem _ x y _ => match evalC s.slots x, evalC s.slots y with
      | .int k n, .int k' d => if decide (k = k') && okConst x && okConst y then some (true, k, n, d) else none
      | _, _ => none
    | _ => none
  | none => none

def afterOne (s : VS) (u : Value) : VS := match opAt s with
  | some o => fv u fun u' => afterOp s o u' s.mem ⟨[], []⟩
  | none => s

theorem operand_int {a : List Value} {x : Operand} {k : IntKind} {n : Int} (h : evalC a x = .int k n) : plainOperand a x = true := by
  cases x with
  | tmp t =>
    have h' : a.getD t undef = .int k n := h
    show plain (a.getD t undef) = true
    rw [h']
    rfl
  | const v => rfl
  | global g => simp [evalC, undef] at h
  | func f => rfl

theorem OpOk.div {o : Oper} {a : List Value} {m : List Blk} {op : BinOp} {t ty : TypeId} {x y : Operand} {k : IntKind} {n d : Int} {r : Bool} (ho : o.op = .binOp op t x y ty) (hop : op = bif r then .rem else .quo) (hx : evalC a x = .int k n) (hy : evalC a y = .int k d) (hd : d ≠ 0) :
    OpOk P o a m (.int k (bif r then n.tmod d else k.wrap (n.tdiv d))) m ⟨[], []⟩ := by
  refine OpOk.plainOp ?_ (by unfold notSelect; rw [ho]) rfl ?_
  · rw [ho]
    simp [Op.operands, operand_int hx, operand_int hy]
  · unfold execOp
    rw [ho]
    subst hop
    cases r <;> simp only [binOp, hx, hy, Op.intDiv, hd, ne_eq, not_true_eq_false, if_false, cond_true, cond_false] <;> rfl

theorem RunsE.div {s : VS} {v : Value} (r : Bool) (k : IntKind) (n d : Int) (hs : divAt s = some (r, k, n, d)) (hd : d ≠ 0) (hr : RunsE P f n0 (afterOne s (.int k (bif r then n.tmod d else k.wrap (n.tdiv d)))) v) : RunsE P f n0 s v := by
  unfold divAt at hs
  unfold afterOne at hr
  split at hs
  · rename_i o ho
    simp only [ho, fv_eq] at hr
    split at hs
    · rename_i t x y ty hop
      split at hs
      · rename_i k1 n1 k2 d2 hx hy
        split at hs
        · rename_i hk
          simp only [Bool.and_eq_true, decide_eq_true_eq] at hk
          obtain ⟨⟨hk, hcx⟩, hcy⟩ := hk
          subst hk
          cases hs
          exact RunsE.op o ho (OpOk.div (r := false) hop rfl hx hy hd) hr
        · cases hs
      · cases hs
    · rename_i t x y ty hop
      split at hs
      · rename_i k1 n1 k2 d2 hx hy
        split at hs
        · rename_i hk
          simp only [Bool.and_eq_true, decide_eq_true_eq] at hk
          obtain ⟨⟨hk, hcx⟩, hcy⟩ := hk
          subst hk
          cases hs
          exact RunsE.op o ho (OpOk.div (r := true) hop rfl hx hy hd) hr
        · cases hs
      · cases hs
    · cases hs
  · cases hs

/-- What is shifted next: to the right? the kind, the two numbers. -/
def shiftAt (s : VS) : Option (Bool × IntKind × Int × Int) := match opAt s with
  | some o => match o.op with
    | .binOp .shl _ x y _ => match evalC s.slots x, evalC s.slots y with
      | .int k n, .int _ d => some (false, k, n, d)
      | _, _ => none
    | .binOp .shr _ x y _ => match evalC s.slots x, evalC s.slots y with
      | .int k n, .int _ d => some (true, k, n, d)
      | _, _ => none
    | _ => none
  | none => none

theorem OpOk.shift {o : Oper} {a : List Value} {m : List Blk} {op : BinOp} {t ty : TypeId} {x y : Operand} {k k' : IntKind} {n d : Int} {r : Bool} (ho : o.op = .binOp op t x y ty) (hop : op = bif r then .shr else .shl) (hx : evalC a x = .int k n) (hy : evalC a y = .int k' d) (hd : 0 ≤ d) :
    OpOk P o a m (.int k (bif r then n.fdiv (2 ^ min d.toNat k.bits) else k.wrap (n * 2 ^ min d.toNat k.bits))) m ⟨[], []⟩ := by
  refine OpOk.plainOp ?_ (by unfold notSelect; rw [ho]) rfl ?_
  · rw [ho]
    simp [Op.operands, operand_int hx, operand_int hy]
  · have hd' : ¬ d < 0 := by omega
    unfold execOp
    rw [ho]
    subst hop
    cases r <;> simp only [binOp, hx, hy, Op.shift, hd', if_false, cond_true, cond_false] <;> rfl

theorem RunsE.shift {s : VS} {v : Value} (r : Bool) (k : IntKind) (n d : Int) (hs : shiftAt s = some (r, k, n, d)) (hd : 0 ≤ d)
    (hr : RunsE P f n0 (afterOne s (.int k (bif r then n.fdiv (2 ^ min d.toNat k.bits) else k.wrap (n * 2 ^ min d.toNat k.bits)))) v) : RunsE P f n0 s v := by
  unfold shiftAt at hs
  unfold afterOne at hr
  split at hs
  · rename_i o ho
    simp only [ho, fv_eq] at hr
    split at hs
    · rename_i t x y ty hop
      split at hs
      · rename_i k1 n1 k2 d2 hx hy
        cases hs
        exact RunsE.op o ho (OpOk.shift (r := false) hop rfl hx hy hd) hr
      · cases hs
    · rename_i t x y ty hop
      split at hs
      · rename_i k1 n1 k2 d2 hx hy
        cases hs
        exact RunsE.op o ho (OpOk.shift (r := true) hop rfl hx hy hd) hr
      · cases hs
    · cases hs
  · cases hs

/-- What is called next, of the functions without a body. -/
def extAt (s : VS) : Option (FuncId × Array Value) := match opAt s with
  | some o => match o.op with
    | .call ⟨.value (.func g), xs, _⟩ => if xs.toList.all (plainOperand s.slots) then some (g, ⟨xs.toList.map (evalC s.slots)⟩) else none
    | _ => none
  | none => none

theorem RunsE.extern {s : VS} {v u : Value} {g : FuncId} {e : Array Value → Sem Value} (args : Array Value) (he : externOf P g = some e) (hs : extAt s = some (g, args)) (hp : plain u = true) (hv : ∀ w, (e args).run P w = .ok u w)
    (hr : RunsE P f n0 (afterOne s u) v) : RunsE P f n0 s v := by
  unfold extAt at hs
  unfold afterOne at hr
  split at hs
  · rename_i o ho
    simp only [ho, fv_eq] at hr
    split at hs
    · rename_i g' xs ts hop
      split at hs
      · rename_i hall
        cases hs
        have e1 : (⟨xs.toList.map (evalC s.slots)⟩ : Array Value) = xs.map (evalC s.slots) := by
          apply Array.ext'; simp
        rw [e1] at hv
        exact RunsE.op o ho (OpOk.extern hop rfl hall he hp hv) hr
      · cases hs
    · cases hs
  · cases hs

/-- One operation over plain values, by what it gives. -/
theorem RunsE.plainOp {s : VS} {v u : Value} (o : Oper) (hs : opAt s = some o) (hops : (o.op.operands.toList.all (plainOperand s.slots) && notSelect o && plain u) = true) (h : pureEval P (execOp (evalC s.slots) o) = some (.value u))
    (hr : RunsE P f n0 (afterOne s u) v) : RunsE P f n0 s v := by
  unfold afterOne at hr
  simp only [hs, fv_eq] at hr
  simp only [Bool.and_eq_true] at hops
  exact RunsE.op o hs (OpOk.plainOp hops.1.1 hops.1.2 hops.2 h) hr

end

/-- bits.Sub64 -/
def sub64Entry : Array Value → Sem Value := fun args => do
  let (x, y, b) ← Extern.MathBitsCarry.three "Sub64" args
  pure (Extern.MathBitsCarry.pair ((x + Extern.MathBitsCarry.m64 - y - b) % Extern.MathBitsCarry.m64) (if x < y + b then 1 else 0))

end Go.Dt
