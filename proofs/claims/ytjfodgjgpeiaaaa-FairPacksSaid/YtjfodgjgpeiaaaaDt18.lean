/- Scripts: one line for each thing that the machine can't reckon by itself. -/
import Derived.Test.YtjfodgjgpeiaaaaDt17
namespace Go.Dt
open Go.RowKit

section
variable {P : Program} {f : FuncId} {n0 : Nat}

/-- As far as the machine gets by itself. -/
def go (P : Program) (s : VS) : VS := vadv P 1000000 s

/-- A contract of a function over plain values. -/
structure Con (P : Program) (g : FuncId) (args : List Value) (u : Value) : Prop where
  eq : FnEq P g args [] u []
  fn : ∃ gn, P.funcs[g]? = some gn ∧ ((gn.name == "runtime.NumGoroutine") || gn.body.isNone) = false
  pl : (pures args && pureV u) = true

theorem Con.run {fn : Func} {args : List Value} {v : Value} (hf : P.funcs[f]? = some fn) (hn : ((fn.name == "runtime.NumGoroutine") || fn.body.isNone) = false) (hp : (pures args && pureV v) = true)
    (h : RunsE P f 0 (entry fn args []) v) : Con P f args v where
  eq := FnEq.run hf (by
    rw [Bool.or_eq_false_iff] at hn
    cases hb : fn.body with
    | none => rw [hb] at hn; cases hn.2
    | some c => rfl) ((Bool.and_eq_true _ _).mp hp).2 h
  fn := ⟨fn, hf, hn⟩
  pl := hp

theorem Con.of {fn : Func} {args : List Value} {v : Value} (hf : P.funcs[f]? = some fn) (hn : ((fn.name == "runtime.NumGoroutine") || fn.body.isNone) = false) (hp : (pures args && pureV v) = true)
    (h : FnEq P f args [] v []) : Con P f args v := ⟨h, ⟨fn, hf, hn⟩, hp⟩

theorem Con.val {g : FuncId} {args args' : List Value} {u u' : Value} (h : Con P g args u) (ha : args = args') (hu : u = u') : Con P g args' u' := ha ▸ hu ▸ h

theorem R.fin {s : VS} {v : Value} {fn : Func} (hm : P.follows .mixedOrders = true) (hf : P.funcs[f]? = some fn) (h : retOf P fn (go P s) = some v) : RunsE P f n0 s v := RunsE.fin hm hf _ h

theorem R.call {s : VS} {v u : Value} {g : FuncId} {args : List Value} (hm : P.follows .mixedOrders = true) (c : Con P g args u) (hs : callAt (go P s) = some (g, args)) (hr : RunsE P f n0 (afterCall (go P s) u) v) : RunsE P f n0 s v :=
  let ⟨_, hf, hn⟩ := c.fn
  RunsE.adv hm _ (RunsE.call args hf hs hn c.pl c.eq hr)

theorem R.branch {s : VS} {v : Value} (hm : P.follows .mixedOrders = true) (n' : Nat) (b : Bool) (hs : condOf (vadv P n' s) = some b) (h1 : b = true → RunsE P f n0 (goC (vadv P n' s) true) v) (h0 : b = false → RunsE P f n0 (goC (vadv P n' s) false) v) : RunsE P f n0 s v :=
  RunsE.adv hm n' (RunsE.branch b hs h1 h0)
theorem R.cond {s : VS} {v : Value} (hm : P.follows .mixedOrders = true) (n' : Nat) (b b' : Bool) (e : b = b') (hs : condOf (vadv P n' s) = some b) (h : RunsE P f n0 (goC (vadv P n' s) b') v) : RunsE P f n0 s v :=
  RunsE.adv hm n' (RunsE.cond b b' hs e h)

def guardB (s : VS) : Option Bool := match guardOf s with
  | some (_, b) => some b
  | none => none
def setG (s : VS) (b : Bool) : VS := match guardOf s with
  | some (d, _) => setV s d (.bool b)
  | none => s

theorem R.guard {s : VS} {v : Value} (hm : P.follows .mixedOrders = true) (n' : Nat) (b : Bool) (hs : guardB (vadv P n' s) = some b) (h1 : b = true → RunsE P f n0 (setG (vadv P n' s) true) v) (h0 : b = false → RunsE P f n0 (setG (vadv P n' s) false) v) : RunsE P f n0 s v := by
  refine RunsE.adv hm n' ?_
  unfold guardB at hs
  unfold setG at h1 h0
  split at hs
  · rename_i d b' hg
    cases hs
    have hg' : guardOf (vadv P n' s) = some (d, b) := hg
    simp only [hg] at h1 h0
    exact RunsE.guard d b hg' h1 h0
  · cases hs
theorem R.guardIs {s : VS} {v : Value} (hm : P.follows .mixedOrders = true) (n' : Nat) (b b' : Bool) (e : b = b') (hs : guardB (vadv P n' s) = some b) (h : RunsE P f n0 (setG (vadv P n' s) b') v) : RunsE P f n0 s v := by
  subst e
  exact R.guard hm n' b hs (fun e => by subst e; exact h) (fun e => by subst e; exact h)

theorem R.div {s : VS} {v : Value} (hm : P.follows .mixedOrders = true) (n' : Nat) (r : Bool) (k : IntKind) (n d : Int) (hd : d ≠ 0) (hs : divAt (vadv P n' s) = some (r, k, n, d)) (hr : RunsE P f n0 (afterOne (vadv P n' s) (.int k (bif r then n.tmod d else k.wrap (n.tdiv d)))) v) : RunsE P f n0 s v :=
  RunsE.adv hm n' (RunsE.div r k n d hs hd hr)
/-- A quotient, with its value spelled otherwise. -/
theorem R.divIs {s : VS} {v : Value} (hm : P.follows .mixedOrders = true) (n' : Nat) (r : Bool) (k : IntKind) (n d q : Int) (hd : d ≠ 0) (hq : (bif r then n.tmod d else k.wrap (n.tdiv d)) = q) (hs : divAt (vadv P n' s) = some (r, k, n, d)) (hr : RunsE P f n0 (afterOne (vadv P n' s) (.int k q)) v) : RunsE P f n0 s v :=
  RunsE.adv hm n' (RunsE.div r k n d hs hd (by rw [hq]; exact hr))
theorem R.shiftIs {s : VS} {v : Value} (hm : P.follows .mixedOrders = true) (n' : Nat) (r : Bool) (k : IntKind) (n d q : Int) (hd : 0 ≤ d) (hq : (bif r then n.fdiv (2 ^ min d.toNat k.bits) else k.wrap (n * 2 ^ min d.toNat k.bits)) = q) (hs : shiftAt (vadv P n' s) = some (r, k, n, d))
    (hr : RunsE P f n0 (afterOne (vadv P n' s) (.int k q)) v) : RunsE P f n0 s v :=
  RunsE.adv hm n' (RunsE.shift r k n d hs hd (by rw [hq]; exact hr))

theorem R.ext {s : VS} {v u : Value} {g : FuncId} {e : Array Value → Sem Value} (hm : P.follows .mixedOrders = true) (args : Array Value) (he : externOf P g = some e) (hp : plain u = true) (hv : ∀ w, (e args).run P w = .ok u w) (hs : extAt (go P s) = some (g, args))
    (hr : RunsE P f n0 (afterOne (go P s) u) v) : RunsE P f n0 s v :=
  RunsE.adv hm _ (RunsE.extern args he hs hp hv hr)

/-- A slot spelled otherwise. -/
theorem R.spell {s : VS} {v : Value} (hm : P.follows .mixedOrders = true) (n' : Nat) (d : Nat) (u u' : Value) (e : u = u') (h : (vadv P n' s).slots.getD d undef = u) (hr : RunsE P f n0 (setV (vadv P n' s) d u') v) : RunsE P f n0 s v :=
  RunsE.adv hm n' (RunsE.spell d u u' h e hr)

/-- A contract of a function that is given memory. -/
structure ConM (P : Program) (g : FuncId) (args : List Value) (m : List Blk) (u : Value) (m' : List Blk) : Prop where
  eq : FnEq P g args m u m'
  fn : ∃ gn, P.funcs[g]? = some gn ∧ ((gn.name == "runtime.NumGoroutine") || gn.body.isNone) = false

/-- A function that only reads what it is given. -/
theorem ConM.reads {fn : Func} {args : List Value} {m : List Blk} {v : Value} (hf : P.funcs[f]? = some fn) (hn : ((fn.name == "runtime.NumGoroutine") || fn.body.isNone) = false) (hv : plain v = true)
    (h : RunsE P f m.length (entry fn args m) v) : ConM P f args m v (List.replicate m.length .gone) where
  eq := FnEq.runRO hf (by
    rw [Bool.or_eq_false_iff] at hn
    cases hb : fn.body with
    | none => rw [hb] at hn; cases hn.2
    | some c => rfl) hv h
  fn := ⟨fn, hf, hn⟩

theorem R.callM {s : VS} {v r : Value} {g : FuncId} {vs : List Value} {mf mf' : List Blk} (hm : P.follows .mixedOrders = true) (E : List Ent) (c : ConM P g vs mf r mf') (hs : downAt E (go P s) = some (g, vs, mf)) (hE : okE E (go P s).mem mf' = true) (hview : E.all (fun e => !e.plain) = true)
    (hr : RunsE P f n0 (afterM E [] (go P s) (upV (back (kap E) E.length mf'.length (go P s).mem.length) r) mf') v) : RunsE P f n0 s v :=
  let ⟨_, hf, hn⟩ := c.fn
  RunsE.adv hm _ (RunsE.callM E [] vs mf hf hs hn hE (noView hview) noPl (lift_up _ _) c.eq hr)

end

/-! ### Equality of numbers, all at once -/
def eqs : List Int → List Int → Bool
  | x :: xs, y :: ys => x == y && eqs xs ys
  | [], [] => true
  | _, _ => false
theorem eqs_self : ∀ l : List Int, eqs l l = true
  | [] => rfl
  | x :: xs => by simp [eqs, eqs_self xs]
theorem eqs_of {l l' : List Int} (h : l = l') : eqs l l' = true := h ▸ eqs_self l
theorem of_eqs : ∀ {l l' : List Int}, eqs l l' = true → l = l'
  | [], [], _ => rfl
  | x :: xs, y :: ys, h => by
    simp only [eqs, Bool.and_eq_true, beq_iff_eq] at h
    rw [h.1, of_eqs h.2]
  | [], _ :: _, h => by cases h
  | _ :: _, [], h => by cases h
theorem not_eqs {l l' : List Int} (h : eqs l l' = false) : l ≠ l' := fun e => by rw [eqs_of e] at h; cases h

end Go.Dt
