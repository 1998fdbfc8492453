/- Small helps for scripts; from a contract to a statement. -/
import Derived.Test.YtjfodgjgpeiaaaaDt13
import Derived.Below
import Derived.KernelRfl
namespace Go.Dt
open Go.RowKit

section
variable {P : Program} {f : FuncId} {n0 : Nat}

theorem FnEq.val {args : List Value} {m m' : List Blk} {v v' : Value} (h : FnEq P f args m v m') (e : v = v') : FnEq P f args m v' m' := e ▸ h

/-- On to the end. -/
theorem Runs.fin {s : VS} {v : Value} {fn : Func} (hm : P.follows .mixedOrders = true) (hf : P.funcs[f]? = some fn) (n : Nat) (h : retOf P fn (vadv P n s) = some v) : Runs P f n0 s v (vadv P n s).mem :=
  Runs.adv hm n (Runs.ret hf h)

/-- A function over plain values, by one straight run. -/
theorem FnEq.straight {fn : Func} {args : List Value} {v : Value} (hm : P.follows .mixedOrders = true) (hf : P.funcs[f]? = some fn) (hb : fn.body.isSome = true) (n : Nat) (hv : plain v = true)
    (h : retOf P fn (vadv P n (entry fn args [])) = some v) : FnEq P f args [] v [] :=
  FnEq.pure (FnEq.of_runs hf hb (Runs.fin hm hf n h)) hv

/-- By a run that ends somewhere. -/
theorem FnEq.plainRun {fn : Func} {args : List Value} {v : Value} (hf : P.funcs[f]? = some fn) (hb : fn.body.isSome = true) (hv : plain v = true)
    (h : ∃ m, Runs P f 0 (entry fn args []) v m) : FnEq P f args [] v [] :=
  let ⟨_, h⟩ := h
  FnEq.pure (FnEq.of_runs (m := []) hf hb h) hv

/-- The end of a run, wherever memory stands. -/
theorem Runs.fin' {s : VS} {v : Value} {fn : Func} (hm : P.follows .mixedOrders = true) (hf : P.funcs[f]? = some fn) (n : Nat) (h : retOf P fn (vadv P n s) = some v) : ∃ m, Runs P f n0 s v m :=
  ⟨_, Runs.fin hm hf n h⟩

def RunsE (P : Program) (f : FuncId) (n0 : Nat) (s : VS) (v : Value) : Prop := ∃ m, Runs P f n0 s v m

theorem RunsE.fin {s : VS} {v : Value} {fn : Func} (hm : P.follows .mixedOrders = true) (hf : P.funcs[f]? = some fn) (n : Nat) (h : retOf P fn (vadv P n s) = some v) : RunsE P f n0 s v := ⟨_, Runs.fin hm hf n h⟩
theorem RunsE.adv {s : VS} {v : Value} (hm : P.follows .mixedOrders = true) (n : Nat) (h : RunsE P f n0 (vadv P n s) v) : RunsE P f n0 s v := let ⟨m, h⟩ := h; ⟨m, Runs.adv hm n h⟩
theorem RunsE.branch {s : VS} {v : Value} (b : Bool) (hs : condOf s = some b) (h1 : b = true → RunsE P f n0 (goC s true) v) (h0 : b = false → RunsE P f n0 (goC s false) v) : RunsE P f n0 s v := by
  cases b
  · obtain ⟨m, h⟩ := h0 rfl; exact ⟨m, Runs.cond false hs h⟩
  · obtain ⟨m, h⟩ := h1 rfl; exact ⟨m, Runs.cond true hs h⟩
theorem RunsE.cond {s : VS} {v : Value} (b b' : Bool) (hs : condOf s = some b) (e : b = b') (h : RunsE P f n0 (goC s b') v) : RunsE P f n0 s v := by
  subst e; obtain ⟨m, h⟩ := h; exact ⟨m, Runs.cond b hs h⟩
theorem RunsE.guard {s : VS} {v : Value} (d : Nat) (b : Bool) (hs : guardOf s = some (d, b)) (h1 : b = true → RunsE P f n0 (setV s d (.bool true)) v) (h0 : b = false → RunsE P f n0 (setV s d (.bool false)) v) : RunsE P f n0 s v := by
  cases b
  · obtain ⟨m, h⟩ := h0 rfl; exact ⟨m, Runs.guard d false hs (fun h => by cases h) (fun _ => h)⟩
  · obtain ⟨m, h⟩ := h1 rfl; exact ⟨m, Runs.guard d true hs (fun _ => h) (fun h => by cases h)⟩
theorem RunsE.guardIs {s : VS} {v : Value} (d : Nat) (b b' : Bool) (hs : guardOf s = some (d, b)) (e : b = b') (h : RunsE P f n0 (setV s d (.bool b')) v) : RunsE P f n0 s v := by
  subst e
  cases b
  · obtain ⟨m, h⟩ := h; exact ⟨m, Runs.guard d false hs (fun h => by cases h) (fun _ => h)⟩
  · obtain ⟨m, h⟩ := h; exact ⟨m, Runs.guard d true hs (fun _ => h) (fun h => by cases h)⟩
theorem RunsE.spell {s : VS} {v : Value} (d : Nat) (u u' : Value) (h : s.slots.getD d undef = u) (e : u = u') (hr : RunsE P f n0 (setV s d u') v) : RunsE P f n0 s v := by
  subst e; obtain ⟨m, hr⟩ := hr; exact ⟨m, Runs.spell d u h hr⟩
theorem RunsE.op {s : VS} {v : Value} (o : Oper) {u : Value} {m1 : List Blk} {fp : Fp} (hs : opAt s = some o) (ho : OpOk P o s.slots s.mem u m1 fp) (hr : RunsE P f n0 (afterOp s o u m1 fp) v) : RunsE P f n0 s v := by
  obtain ⟨m, hr⟩ := hr; exact ⟨m, Runs.op o hs ho hr⟩

/-- What is called next: its number and what it gets. -/
def callAt (s : VS) : Option (FuncId × List Value) := match opAt s with
  | some o => callOf o s.slots
  | none => none
def afterCall (s : VS) (u : Value) : VS := match opAt s with
  | some o => fv u fun u' => afterOp s o u' s.mem ⟨[], []⟩
  | none => s

/-- A call that has nothing to do with memory, by its contract. -/
theorem RunsE.call {s : VS} {v u : Value} {g : FuncId} {gn : Func} (args : List Value) (hf : P.funcs[g]? = some gn) (hs : callAt s = some (g, args)) (hn : ((gn.name == "runtime.NumGoroutine") || gn.body.isNone) = false)
    (hp : (pures args && pureV u) = true) (h : FnEq P g args [] u []) (hr : RunsE P f n0 (afterCall s u) v) : RunsE P f n0 s v := by
  unfold callAt at hs
  unfold afterCall at hr
  split at hs
  · rename_i o ho
    simp only [ho, fv_eq] at hr
    rw [Bool.or_eq_false_iff] at hn
    rw [Bool.and_eq_true] at hp
    exact RunsE.op o ho (OpOk.callPlain hs hf hn.1 hn.2 hp.1 hp.2 h) hr
  · cases hs

/-- A call of a function without a Go body. -/
theorem RunsE.ext {s : VS} {v u : Value} {g : FuncId} {e : Array Value → Sem Value} (o : Oper) (xs : Array Operand) (ts : Array TypeId) (he : externOf P g = some e) (hs : opAt s = some o)
    (ho : o.op = .call { callee := .value (.func g), args := xs, argTypes := ts }) (hp : (xs.toList.all (plainOperand s.slots) && plain u) = true) (hv : ∀ w, (e (xs.map (evalC s.slots))).run P w = .ok u w)
    (hr : RunsE P f n0 (afterOp s o u s.mem ⟨[], []⟩) v) : RunsE P f n0 s v := by
  rw [Bool.and_eq_true] at hp
  exact RunsE.op o hs (OpOk.extern ho rfl hp.1 he hp.2 hv) hr

theorem FnEq.run {fn : Func} {args : List Value} {v : Value} (hf : P.funcs[f]? = some fn) (hb : fn.body.isSome = true) (hv : pureV v = true)
    (h : RunsE P f 0 (entry fn args []) v) : FnEq P f args [] v [] := let ⟨_, h⟩ := h; FnEq.pureR (FnEq.of_runs hf hb h) hv

/-! ### From a contract to a statement -/
theorem sim_nil {ι : Map} {w : World} (hf : ∀ r c, ι.fro r = some c → ∃ t fz, w.heap[r]? = some (.cells c t fz)) : Sim ι (at_ []) w :=
  ⟨fun b => by simp [at_]; trivial, fun b b2 L L2 _ ho => by simp [at_, Blk.own] at ho, hf, fun b L r c ho => by simp [at_, Blk.own] at ho⟩

/-- Of a function over plain values: the model's own calls. -/
theorem FnEq.calls {args : List Value} {v : Value} (h : FnEq P f args [] v []) (ha : plains args = true) (hv : plain v = true) (w : World) :
    Calls P f args.toArray w fun e w' => e = .returned v ∧ Below w.heap.size w w' := by
  refine (h ⟨fun _ => none, fun _ => none⟩ args.toArray w (by simp) (fun i => ?_) (sim_nil fun r c h => by cases h) (fun b hb => absurd rfl hb)).mono fun e w' he => ?_
  · have := RV.refls ⟨fun _ => none, fun _ => none⟩ args ha i
    simpa [List.getD_eq_getElem?_getD] using this
  · obtain ⟨v', ι', rfl, hv', _, _, hext⟩ := he
    rw [← hv'.eq_of_plain hv]
    exact ⟨rfl, hext.os, hext.tape, hext.output, hext.size, fun k hk => hext.frame k hk fun ⟨b, L, ho, _⟩ => by simp [at_, Blk.own] at ho⟩

end

theorem wrap_u64 (n : Int) : IntKind.u64.wrap n = n % 18446744073709551616 := by
  unfold IntKind.wrap
  simp [IntKind.signed, IntKind.bits]

theorem wrap_i64_of {n : Int} (h1 : -9223372036854775808 ≤ n) (h2 : n ≤ 9223372036854775807) : IntKind.i64.wrap n = n := by rw [IntKind.wrap_i64]; omega
theorem wrap_u64_of {n : Int} (h1 : 0 ≤ n) (h2 : n ≤ 18446744073709551615) : IntKind.u64.wrap n = n := by rw [wrap_u64]; omega
theorem tdiv_pos {a b : Int} (h : 0 ≤ a) : a.tdiv b = a / b := Int.tdiv_eq_ediv_of_nonneg h
theorem tmod_pos {a b : Int} (h : 0 ≤ a) : a.tmod b = a % b := Int.tmod_eq_emod_of_nonneg h

end Go.Dt
