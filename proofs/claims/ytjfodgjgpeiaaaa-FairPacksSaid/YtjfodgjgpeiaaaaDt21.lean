/- States that are come back to: loops, and ways that meet. -/
import Derived.Test.YtjfodgjgpeiaaaaDt18
namespace Go.Dt
open Go.RowKit

def putA : List (Nat × Value) → List Value → List Value
  | [], a => a
  | (i, v) :: l, a => putA l (a.set i v)

/-- Slots written into a state. -/
def puts (l : List (Nat × Value)) (s : VS) : VS :=
  match s with
  | .norm k a m => fl (putA l a) fun a' => .norm k a' m
  | s => s
def putM (m : List Blk) (s : VS) : VS :=
  match s with
  | .norm k a _ => .norm k a m
  | s => s

section
variable {P : Program} {f : FuncId} {n0 : Nat}

theorem RunsE.forget {s : VS} {v : Value} (ks : List Nat) (h : RunsE P f n0 (keepS ks s) v) : RunsE P f n0 s v := let ⟨m, h⟩ := h; ⟨m, Runs.forget ks h⟩

/-- As far as a state that is known, of which only some slots matter. -/
theorem R.at {s st : VS} {v : Value} (hm : P.follows .mixedOrders = true) (n : Nat) (ks : List Nat) (e : keepS ks (vadv P n s) = st) (h : RunsE P f n0 st v) : RunsE P f n0 s v :=
  RunsE.adv hm n (RunsE.forget ks (e ▸ h))

/-- The end, with a value spelled otherwise. -/
theorem R.finIs {s : VS} {v : Value} {fn : Func} (hm : P.follows .mixedOrders = true) (hf : P.funcs[f]? = some fn) (u : Value) (h : retOf P fn (go P s) = some u) (e : u = v) : RunsE P f n0 s v := e ▸ R.fin hm hf h

/-- An equation between states, of which only numbers differ. -/
theorem R.eq {s st : VS} {v : Value} (e : s = st) (h : RunsE P f n0 st v) : RunsE P f n0 s v := e ▸ h

/-- A byte of a string, by a number that is not known. -/
def strAt (s : VS) : Option (TypeId × ByteArray × IntKind × Int) := match opAt s with
  | some o => match o.op with
    | .index t x ix => match evalC s.slots x, evalC s.slots ix with
      | .string b, .int k i => if plainOperand s.slots x && plainOperand s.slots ix then some (t, b, k, i) else none
      | _, _ => none
    | _ => none
  | none => none

theorem RunsE.strIndex {s : VS} {v : Value} (t : TypeId) (b : ByteArray) (k : IntKind) (i : Int) (u : UInt8) (hs : strAt s = some (t, b, k, i)) (ht : P.underlying t = some .string) (hi : 0 ≤ i) (hb : b[i.toNat]? = some u) (hr : RunsE P f n0 (afterOne s (.int .u8 u.toNat)) v) : RunsE P f n0 s v := by
  unfold strAt at hs
  split at hs
  · rename_i o ho
    split at hs
    · rename_i t' x ix hop
      split at hs
      · rename_i b' k' i' hx hix
        split at hs
        · rename_i hpl
          cases hs
          rw [Bool.and_eq_true] at hpl
          refine RunsE.plainOp o ho (u := .int .u8 u.toNat) ?_ ?_ hr
          · simp [hop, Op.operands, hpl.1, hpl.2, notSelect, plain]
          · unfold execOp
            rw [hop]
            simp only [hx, hix, Instr.index, asIntOf]
            simp [Bind.bind, Sem.bind, Pure.pure, pureEval, underlying, program, hi, hb, ht]
        · cases hs
      · cases hs
    · cases hs
  · cases hs

theorem R.strIndex {s : VS} {v : Value} (hm : P.follows .mixedOrders = true) (n : Nat) (t : TypeId) (b : ByteArray) (k : IntKind) (i : Int) (u : UInt8) (hs : strAt (vadv P n s) = some (t, b, k, i)) (ht : P.underlying t = some .string) (hi : 0 ≤ i) (hb : b[i.toNat]? = some u) (hr : RunsE P f n0 (afterOne (vadv P n s) (.int .u8 u.toNat)) v) : RunsE P f n0 s v :=
  RunsE.adv hm n (RunsE.strIndex t b k i u hs ht hi hb hr)

end
end Go.Dt
