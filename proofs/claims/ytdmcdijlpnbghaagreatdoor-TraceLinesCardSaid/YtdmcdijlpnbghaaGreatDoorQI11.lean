/- Several texts in one: Dt23, Dt24, Dt25. -/
import Derived.Test.YtdmcdijlpnbghaaGreatDoorQI10
namespace Go.Dt

section
open Go.RowKit Go.WideShapes Go.ChangeShapes Go.ChangeAt
set_option linter.unusedVariables false

/-- Rows of cells, one behind the other. -/
def RowsOk (ss : List Sc) : Nat → List Value → Prop
  | 0, c => c = []
  | n + 1, c => FlatOk ss (c.take ss.length) ∧ RowsOk ss n (c.drop ss.length)

theorem RowsOk.length {ss : List Sc} : ∀ {n : Nat} {c : List Value}, RowsOk ss n c → c.length = n * ss.length
  | 0, c, h => by
    have : c = [] := h
    simp [this]
  | n + 1, c, h => by
    have h1 := h.1.length
    have h2 := RowsOk.length h.2
    simp only [List.length_drop] at h2
    simp only [List.length_take] at h1
    rw [Nat.add_mul]
    omega

section
variable {H : Type} {enc : TypeId × Value → H} {P : Program} {w : World}

theorem slice_value {r : Reach} {b0 : Nat} {t e : TypeId} {v : Value} (ht : P.underlying t = some (.slice e)) (hval : Value.okWide P w r b0 t v) : ∃ a l c, v = .slice a l c := by
  unfold Value.okWide at hval
  rw [ht] at hval
  simp only [Cell.okWide, ht] at hval
  unfold Cell.ok at hval
  rw [ht] at hval
  split at hval <;> first | exact ⟨_, _, _, rfl⟩ | (exfalso; exact hval) | simp_all

theorem add_parts {a : Addr} (h : a.spot = none) (i : Nat) : (a.add i).block = a.block ∧ (a.add i).off = a.off + i ∧ (a.add i).spot = none := by
  unfold Addr.add
  split
  · rename_i hz
    subst hz
    exact ⟨rfl, rfl, h⟩
  · exact ⟨rfl, rfl, by first | rfl | exact h⟩

/-! ### All that a heap holds, held for good -/
def froH (w : World) : Nat → Option (Array Value) := fun r => match w.heap[r]? with
  | some (.cells c _ _) => some c
  | _ => none
theorem froH_ok {w : World} {r : Nat} {c : Array Value} (h : froH w r = some c) : ∃ t fz, w.heap[r]? = some (.cells c t fz) := by
  unfold froH at h
  split at h
  · rename_i c' t fz hh; cases h; exact ⟨t, fz, hh⟩
  · cases h

/-- A contract over values that hang on no block: the model's own calls. -/
theorem FnEq.callsF {f : FuncId} {args : List Value} {v : Value} (h : FnEq P f args [] v []) (hv : plain v = true) (args' : Array Value) (w : World) (hsz : args'.size = args.length)
    (hargs : ∀ i, RV ⟨fun _ => none, froH w⟩ (args.getD i undef) (args'.getD i undef)) (hg : GloOk (froH w) := by trivial) : Calls P f args' w fun e w' => e = .returned v ∧ Below w.heap.size w w' := by
  refine (h ⟨fun _ => none, froH w⟩ args' w hsz hargs (sim_nil (fun r c hr => froH_ok hr) hg) (fun b hb => absurd rfl hb)).mono fun e w' he => ?_
  obtain ⟨v', ι', rfl, hv', _, _, hext⟩ := he
  rw [← hv'.eq_of_plain hv]
  exact ⟨rfl, hext.os, hext.tape, hext.output, hext.size, fun k hk => hext.frame k hk fun ⟨b, L, ho, _⟩ => by simp [at_, Blk.own] at ho⟩

end

end

section
open Go.RowKit
set_option linter.unusedVariables false

abbrev RunsQ (Φ : List Blk → Prop) (P : Program) (f : Fr) (n0 : Nat) (s : VS) (v : Value) : Prop := RunsE P f n0 s (v, Φ)

section
variable {Φ : List Blk → Prop} {P : Program} {f : Fr} {n0 : Nat}

theorem RunsQ.adv {s : VS} {v : Value} (hm : P.follows .mixedOrders = true) (n : Nat) (h : RunsQ Φ P f n0 (vadv P n s) v) : RunsQ Φ P f n0 s v := let ⟨m, h, q⟩ := h; ⟨m, Runs.adv hm n h, q⟩
theorem RunsQ.branch {s : VS} {v : Value} (b : Bool) (hs : condOf s = some b) (h1 : b = true → RunsQ Φ P f n0 (goC s true) v) (h0 : b = false → RunsQ Φ P f n0 (goC s false) v) : RunsQ Φ P f n0 s v := by
  cases b
  · obtain ⟨m, h, q⟩ := h0 rfl; exact ⟨m, Runs.cond false hs h, q⟩
  · obtain ⟨m, h, q⟩ := h1 rfl; exact ⟨m, Runs.cond true hs h, q⟩
theorem RunsQ.cond {s : VS} {v : Value} (b b' : Bool) (hs : condOf s = some b) (e : b = b') (h : RunsQ Φ P f n0 (goC s b') v) : RunsQ Φ P f n0 s v := by
  subst e; obtain ⟨m, h, q⟩ := h; exact ⟨m, Runs.cond b hs h, q⟩
theorem RunsQ.guard {s : VS} {v : Value} (d : Nat) (b : Bool) (hs : guardOf s = some (d, b)) (h1 : b = true → RunsQ Φ P f n0 (setV s d (.bool true)) v) (h0 : b = false → RunsQ Φ P f n0 (setV s d (.bool false)) v) : RunsQ Φ P f n0 s v := by
  cases b
  · obtain ⟨m, h, q⟩ := h0 rfl; exact ⟨m, Runs.guard d false hs (fun h => by cases h) (fun _ => h), q⟩
  · obtain ⟨m, h, q⟩ := h1 rfl; exact ⟨m, Runs.guard d true hs (fun _ => h) (fun h => by cases h), q⟩
theorem RunsQ.spell {s : VS} {v : Value} (d : Nat) (u u' : Value) (h : s.slots.getD d undef = u) (e : u = u') (hr : RunsQ Φ P f n0 (setV s d u') v) : RunsQ Φ P f n0 s v := by
  subst e; obtain ⟨m, hr, q⟩ := hr; exact ⟨m, Runs.spell d u h hr, q⟩
theorem RunsQ.op {s : VS} {v : Value} (o : Oper) {u : Value} {m1 : List Blk} {fp : Fp} (hs : opAt s = some o) (ho : OpOk P o s.slots s.mem u m1 fp) (hr : RunsQ Φ P f n0 (afterOp s o u m1 fp) v) : RunsQ Φ P f n0 s v := by
  obtain ⟨m, hr, q⟩ := hr; exact ⟨m, Runs.op o hs ho hr, q⟩
theorem RunsQ.forget {s : VS} {v : Value} (ks : List Nat) (h : RunsQ Φ P f n0 (keepS ks s) v) : RunsQ Φ P f n0 s v := let ⟨m, h, q⟩ := h; ⟨m, Runs.forget ks h, q⟩
theorem RunsQ.gc {s : VS} {v : Value} (E : List Ent) (hE : okE E s.mem (E.map (downB E s.mem)) = true) (hview : ∀ e, e ∈ E → e.plain = true → plainAt s.mem e.blk) (hfirst : firstE E s.mem n0 = true) (hs : isNormS s = true)
    (h : RunsQ Φ P f n0 (gcS E s) v) : RunsQ Φ P f n0 s v := let ⟨m, h, q⟩ := h; ⟨m, Runs.gc E hE hview hfirst hs h, q⟩
theorem RunsQ.mono {Φ' : List Blk → Prop} {s : VS} {v : Value} (h : RunsQ Φ P f n0 s v) (hq : ∀ m, Φ m → Φ' m) : RunsQ Φ' P f n0 s v := let ⟨m, h, q⟩ := h; ⟨m, h, hq m q⟩
theorem RunsQ.run {s : VS} {v : Value} (h : RunsQ Φ P f n0 s v) : RunsE P f n0 s v := let ⟨m, h, _⟩ := h; ⟨m, h, trivial⟩

theorem Q.fin {s : VS} {v : Value} {fn : Func} (hm : P.follows .mixedOrders = true) {g : FuncId} (hf : P.funcs[g]? = some fn) (h : retOf P fn (go P s) = some v) (hq : Φ (go P s).mem) (hg : f.IsF g := by exact rfl) : RunsQ Φ P f n0 s v := ⟨_, Runs.fin hm (hg.of hf) _ h, hq⟩
theorem Q.finIs {s : VS} {v : Value} {fn : Func} (hm : P.follows .mixedOrders = true) {g : FuncId} (hf : P.funcs[g]? = some fn) (u : Value) (h : retOf P fn (go P s) = some u) (e : u = v) (m : List Blk) (hm' : (go P s).mem = m) (hq : Φ m) (hg : f.IsF g := by exact rfl) : RunsQ Φ P f n0 s v := e ▸ Q.fin hm hf h (hm' ▸ hq) hg

theorem RunsQ.call {s : VS} {v u : Value} {g : FuncId} {gn : Func} (args : List Value) (hf : P.funcs[g]? = some gn) (hs : callAt s = some (g, args)) (hn : ((gn.name == "runtime.NumGoroutine") || gn.body.isNone) = false)
    (hp : (pures args && pureV u) = true) (h : FnEq P g args [] u []) (hr : RunsQ Φ P f n0 (afterCall s u) v) : RunsQ Φ P f n0 s v := by
  unfold callAt at hs
  unfold afterCall at hr
  split at hs
  · rename_i o ho
    simp only [ho, fv_eq] at hr
    rw [Bool.or_eq_false_iff] at hn
    rw [Bool.and_eq_true] at hp
    exact RunsQ.op o ho (OpOk.callPlain hs hf hn.1 hn.2 hp.1 hp.2 h) hr
  · cases hs

theorem RunsQ.ext {s : VS} {v u : Value} {g : FuncId} {e : Array Value → Sem Value} (o : Oper) (xs : Array Operand) (ts : Array TypeId) (he : externOf P g = some e) (hs : opAt s = some o)
    (ho : o.op = .call { callee := .value (.func g), args := xs, argTypes := ts }) (hp : (xs.toList.all (plainOperand s.slots) && plain u) = true) (hv : ∀ w, (e (xs.map (evalC s.slots))).run P w = .ok u w)
    (hr : RunsQ Φ P f n0 (afterOp s o u s.mem ⟨[], []⟩) v) : RunsQ Φ P f n0 s v := by
  rw [Bool.and_eq_true] at hp
  exact RunsQ.op o hs (OpOk.extern ho rfl hp.1 he hp.2 hv) hr

theorem RunsQ.div {s : VS} {v : Value} (r : Bool) (k : IntKind) (n d : Int) (hs : divAt s = some (r, k, n, d)) (hd : d ≠ 0) (hr : RunsQ Φ P f n0 (afterOne s (.int k (bif r then n.tmod d else k.wrap (n.tdiv d)))) v) : RunsQ Φ P f n0 s v := by
  unfold divAt at hs
  unfold afterOne at hr
  split at hs
  · rename_i o ho
    simp only [ho, fv_eq] at hr
    split at hs
    · rename_i t x y ty hop
      split at hs
      · rename_i k1 n1 k2 d2 hx hy
        split at hs
        · rename_i hk
          simp only [Bool.and_eq_true, decide_eq_true_eq] at hk
          obtain ⟨⟨hk, hcx⟩, hcy⟩ := hk
          subst hk
          cases hs
          exact RunsQ.op o ho (OpOk.div (r := false) hop rfl hx hy hd) hr
        · cases hs
      · cases hs
    · rename_i t x y ty hop
      split at hs
      · rename_i k1 n1 k2 d2 hx hy
        split at hs
        · rename_i hk
          simp only [Bool.and_eq_true, decide_eq_true_eq] at hk
          obtain ⟨⟨hk, hcx⟩, hcy⟩ := hk
          subst hk
          cases hs
          exact RunsQ.op o ho (OpOk.div (r := true) hop rfl hx hy hd) hr
        · cases hs
      · cases hs
    · cases hs
  · cases hs

theorem RunsQ.extern {s : VS} {v u : Value} {g : FuncId} {e : Array Value → Sem Value} (args : Array Value) (he : externOf P g = some e) (hs : extAt s = some (g, args)) (hp : plain u = true) (hv : ∀ w, (e args).run P w = .ok u w)
    (hr : RunsQ Φ P f n0 (afterOne s u) v) : RunsQ Φ P f n0 s v := by
  unfold extAt at hs
  unfold afterOne at hr
  split at hs
  · rename_i o ho
    simp only [ho, fv_eq] at hr
    split at hs
    · rename_i g' xs ts hop
      split at hs
      · rename_i hall
        cases hs
        have e1 : (⟨xs.toList.map (evalC s.slots)⟩ : Array Value) = xs.map (evalC s.slots) := by
          apply Array.ext'; simp
        rw [e1] at hv
        exact RunsQ.op o ho (OpOk.extern hop rfl hall he hp hv) hr
      · cases hs
    · cases hs
  · cases hs

theorem RunsQ.plainOp {s : VS} {v u : Value} (o : Oper) (hs : opAt s = some o) (hops : (o.op.operands.toList.all (plainOperand s.slots) && notSelect o && plain u) = true) (h : pureEval P (execOp (evalC s.slots) o) = some (.value u))
    (hr : RunsQ Φ P f n0 (afterOne s u) v) : RunsQ Φ P f n0 s v := by
  unfold afterOne at hr
  simp only [hs, fv_eq] at hr
  simp only [Bool.and_eq_true] at hops
  exact RunsQ.op o hs (OpOk.plainOp hops.1.1 hops.1.2 hops.2 h) hr

theorem RunsQ.callM {s : VS} {v r u : Value} {g : FuncId} {gn : Func} {mf' : List Blk} (E : List Ent) (pl : List Nat) (vs : List Value) (mf : List Blk) (hf : P.funcs[g]? = some gn) (hs : downAt E s = some (g, vs, mf))
    (hn : ((gn.name == "runtime.NumGoroutine") || gn.body.isNone) = false) (hE : okE E s.mem mf' = true) (hview : ∀ e, e ∈ E → e.plain = true → plainAt s.mem e.blk) (hpl : ∀ i, i ∈ pl → plainAt mf' i)
    (hu : Lift (back (kap E) E.length mf'.length s.mem.length) r u) (h : FnEq P g vs mf r mf') (hr : RunsQ Φ P f n0 (afterM E pl s u mf') v) : RunsQ Φ P f n0 s v := by
  unfold downAt callAt at hs
  unfold afterM at hr
  cases ho : opAt s with
  | none => simp [ho] at hs
  | some o =>
    simp only [ho] at hs
    simp only [ho, fv_eq, fl_eq] at hr
    cases hc : callOf o s.slots with
    | none => simp [hc] at hs
    | some ga =>
      obtain ⟨g', args⟩ := ga
      simp only [hc, Option.some.injEq, Prod.mk.injEq] at hs
      obtain ⟨rfl, rfl, rfl⟩ := hs
      rw [Bool.or_eq_false_iff] at hn
      have hc' := hc
      unfold callOf at hc
      split at hc
      · rename_i c hop
        split at hc
        · rename_i gop hcal
          split at hc
          · rename_i hk
            rw [Bool.and_eq_true] at hk
            split at hc
            · rename_i f' first captured hg
              cases hc
              obtain ⟨callee, xs, ts⟩ := c
              simp only at hcal hk h
              subst hcal
              have D := callData_of hE hview hpl
              have hlen : (E.map (downB E s.mem)).length = E.length := by simp
              exact RunsQ.op o ho (OpOk.call (κ := kap E) hop hg hk.1 hk.2 hf hn.1 hn.2 (by simp only [downVs_length]) (fun i _ => by
                have := ren_downs E (argsC s.slots xs first captured) i
                simpa [List.getD_eq_getElem?_getD] using this) D (by rw [hlen]; exact hu) h) hr
            · cases hc
          · cases hc
        · cases hc
      · cases hc

theorem Q.call {s : VS} {v u : Value} {g : FuncId} {args : List Value} (hm : P.follows .mixedOrders = true) (c : Con P g args u) (hs : callAt (go P s) = some (g, args)) (hr : RunsQ Φ P f n0 (afterCall (go P s) u) v) : RunsQ Φ P f n0 s v :=
  let ⟨_, hf, hn⟩ := c.fn
  RunsQ.adv hm _ (RunsQ.call args hf hs hn c.pl c.eq hr)

theorem Q.branch {s : VS} {v : Value} (hm : P.follows .mixedOrders = true) (n' : Nat) (b : Bool) (hs : condOf (vadv P n' s) = some b) (h1 : b = true → RunsQ Φ P f n0 (goC (vadv P n' s) true) v) (h0 : b = false → RunsQ Φ P f n0 (goC (vadv P n' s) false) v) : RunsQ Φ P f n0 s v :=
  RunsQ.adv hm n' (RunsQ.branch b hs h1 h0)

theorem Q.cond {s : VS} {v : Value} (hm : P.follows .mixedOrders = true) (n' : Nat) (b b' : Bool) (e : b = b') (hs : condOf (vadv P n' s) = some b) (h : RunsQ Φ P f n0 (goC (vadv P n' s) b') v) : RunsQ Φ P f n0 s v :=
  RunsQ.adv hm n' (RunsQ.cond b b' hs e h)

theorem Q.guard {s : VS} {v : Value} (hm : P.follows .mixedOrders = true) (n' : Nat) (b : Bool) (hs : guardB (vadv P n' s) = some b) (h1 : b = true → RunsQ Φ P f n0 (setG (vadv P n' s) true) v) (h0 : b = false → RunsQ Φ P f n0 (setG (vadv P n' s) false) v) : RunsQ Φ P f n0 s v := by
  refine RunsQ.adv hm n' ?_
  unfold guardB at hs
  unfold setG at h1 h0
  split at hs
  · rename_i d b' hg
    cases hs
    have hg' : guardOf (vadv P n' s) = some (d, b) := hg
    simp only [hg] at h1 h0
    exact RunsQ.guard d b hg' h1 h0
  · cases hs

theorem Q.div {s : VS} {v : Value} (hm : P.follows .mixedOrders = true) (n' : Nat) (r : Bool) (k : IntKind) (n d : Int) (hd : d ≠ 0) (hs : divAt (vadv P n' s) = some (r, k, n, d)) (hr : RunsQ Φ P f n0 (afterOne (vadv P n' s) (.int k (bif r then n.tmod d else k.wrap (n.tdiv d)))) v) : RunsQ Φ P f n0 s v :=
  RunsQ.adv hm n' (RunsQ.div r k n d hs hd hr)

theorem Q.ext {s : VS} {v u : Value} {g : FuncId} {e : Array Value → Sem Value} (hm : P.follows .mixedOrders = true) (args : Array Value) (he : externOf P g = some e) (hp : plain u = true) (hv : ∀ w, (e args).run P w = .ok u w) (hs : extAt (go P s) = some (g, args))
    (hr : RunsQ Φ P f n0 (afterOne (go P s) u) v) : RunsQ Φ P f n0 s v :=
  RunsQ.adv hm _ (RunsQ.extern args he hs hp hv hr)

theorem Q.spell {s : VS} {v : Value} (hm : P.follows .mixedOrders = true) (n' : Nat) (d : Nat) (u u' : Value) (e : u = u') (h : (vadv P n' s).slots.getD d undef = u) (hr : RunsQ Φ P f n0 (setV (vadv P n' s) d u') v) : RunsQ Φ P f n0 s v :=
  RunsQ.adv hm n' (RunsQ.spell d u u' h e hr)

theorem Q.callM {s : VS} {v r : Value} {g : FuncId} {vs : List Value} {mf mf' : List Blk} (hm : P.follows .mixedOrders = true) (E : List Ent) (c : ConM P g vs mf r mf') (hs : downAt E (go P s) = some (g, vs, mf)) (hE : okE E (go P s).mem mf' = true) (hview : E.all (fun e => !e.plain) = true)
    (hr : RunsQ Φ P f n0 (afterM E [] (go P s) (upV (back (kap E) E.length mf'.length (go P s).mem.length) r) mf') v) : RunsQ Φ P f n0 s v :=
  let ⟨_, hf, hn⟩ := c.fn
  RunsQ.adv hm _ (RunsQ.callM E [] vs mf hf hs hn hE (noView hview) noPl (lift_up _ _) c.eq hr)

theorem Q.at {s st : VS} {v : Value} (hm : P.follows .mixedOrders = true) (n : Nat) (ks : List Nat) (e : keepS ks (vadv P n s) = st) (h : RunsQ Φ P f n0 st v) : RunsQ Φ P f n0 s v :=
  RunsQ.adv hm n (RunsQ.forget ks (e ▸ h))

theorem Q.eq {s st : VS} {v : Value} (e : s = st) (h : RunsQ Φ P f n0 st v) : RunsQ Φ P f n0 s v := e ▸ h

theorem RunsQ.strIndex {s : VS} {v : Value} (t : TypeId) (b : ByteArray) (k : IntKind) (i : Int) (u : UInt8) (hs : strAt s = some (t, b, k, i)) (ht : P.underlying t = some .string) (hi : 0 ≤ i) (hb : b[i.toNat]? = some u) (hr : RunsQ Φ P f n0 (afterOne s (.int .u8 u.toNat)) v) : RunsQ Φ P f n0 s v := by
  unfold strAt at hs
  split at hs
  · rename_i o ho
    split at hs
    · rename_i t' x ix hop
      split at hs
      · rename_i b' k' i' hx hix
        split at hs
        · rename_i hpl
          cases hs
          rw [Bool.and_eq_true] at hpl
          refine RunsQ.plainOp o ho (u := .int .u8 u.toNat) ?_ ?_ hr
          · simp [hop, Op.operands, hpl.1, hpl.2, notSelect, plain]
          · unfold execOp
            rw [hop]
            simp only [hx, hix, Instr.index, asIntOf]
            simp [Bind.bind, Sem.bind, Pure.pure, pureEval, underlying, program, hi, hb, ht]
        · cases hs
      · cases hs
    · cases hs
  · cases hs

theorem Q.strIndex {s : VS} {v : Value} (hm : P.follows .mixedOrders = true) (n : Nat) (t : TypeId) (b : ByteArray) (k : IntKind) (i : Int) (u : UInt8) (hs : strAt (vadv P n s) = some (t, b, k, i)) (ht : P.underlying t = some .string) (hi : 0 ≤ i) (hb : b[i.toNat]? = some u) (hr : RunsQ Φ P f n0 (afterOne (vadv P n s) (.int .u8 u.toNat)) v) : RunsQ Φ P f n0 s v :=
  RunsQ.adv hm n (RunsQ.strIndex t b k i u hs ht hi hb hr)

theorem RunsQ.idx {s : VS} {v : Value} (b off len n : Nat) (k : IntKind) (i : Int) (p : Nat) (hs : idxAt P s = some (b, off, len, n, k, i)) (h0 : 0 ≤ i) (h1 : i < len) (hp : off + i.toNat * n = p) (hr : RunsQ Φ P f n0 (afterOne s (.pointer (some ⟨b, p, none⟩))) v) : RunsQ Φ P f n0 s v := by
  unfold idxAt at hs
  unfold afterOne at hr
  split at hs
  · rename_i o ho
    simp only [ho, fv_eq] at hr
    split at hs
    · rename_i t x ix hop
      cases hc : (okConst x && okConst ix) with
      | false => simp [hc] at hs
      | true =>
        rw [hc, cond_true] at hs
        rw [Bool.and_eq_true] at hc
        subst hp
        split at hs
        · rename_i b' off' len' cap k' i' e n' hx hi hu hz
          cases hs
          rw [hu] at hz
          exact RunsQ.op o ho (OpOk.indexSl hop hc.1 hc.2 hx hi hu hz h0 h1) hr
        · rename_i b' off' k' i' len' e n' hx hi hu hz
          cases hs
          rw [hu] at hz
          exact RunsQ.op o ho (OpOk.indexArr hop hc.1 hc.2 hx hi hu hz h0 h1) hr
        · cases hs
    · cases hs
  · cases hs

theorem Q.idx {s : VS} {v : Value} (hm : P.follows .mixedOrders = true) (n' : Nat) (b off len n : Nat) (k : IntKind) (i : Int) (p : Nat) (hs : idxAt P (vadv P n' s) = some (b, off, len, n, k, i)) (h0 : 0 ≤ i) (h1 : i < len) (hp : off + i.toNat * n = p)
    (hr : RunsQ Φ P f n0 (afterOne (vadv P n' s) (.pointer (some ⟨b, p, none⟩))) v) : RunsQ Φ P f n0 s v := RunsQ.adv hm n' (RunsQ.idx b off len n k i p hs h0 h1 hp hr)

theorem RunsQ.load1 {s : VS} {v u : Value} (n b off : Nat) (c : List Value) (hs : ldAt P s = some (false, n, b, off, c)) (hu : c[off]? = some u) (hr : RunsQ Φ P f n0 (afterRd s b u) v) : RunsQ Φ P f n0 s v := by
  unfold ldAt at hs
  unfold afterRd at hr
  split at hs
  · rename_i o ho
    simp only [ho, fv_eq] at hr
    split at hs
    · rename_i t x hop
      cases hc : okConst x with
      | false => simp [hc] at hs
      | true =>
        rw [hc, cond_true] at hs
        split at hs
        · rename_i b' off' g n' hx hg hz
          split at hs
          · rename_i c' sz rw_ hb
            cases hs
            exact RunsQ.op o ho (OpOk.load1 hop hc hx hb hg hu) hr
          · cases hs
        · cases hs
    · cases hs
  · cases hs

theorem RunsQ.loadN {s : VS} {v : Value} (n b off : Nat) (c l : List Value) (hs : ldAt P s = some (true, n, b, off, c)) (hfit : off + n ≤ c.length) (hl : (c.drop off).take n = l) (hr : RunsQ Φ P f n0 (afterRd s b (.agg ⟨l⟩)) v) : RunsQ Φ P f n0 s v := by
  unfold ldAt at hs
  unfold afterRd at hr
  split at hs
  · rename_i o ho
    simp only [ho, fv_eq] at hr
    split at hs
    · rename_i t x hop
      cases hc : okConst x with
      | false => simp [hc] at hs
      | true =>
        rw [hc, cond_true] at hs
        split at hs
        · rename_i b' off' g n' hx hg hz
          split at hs
          · rename_i c' sz rw_ hb
            cases hs
            subst hl
            exact RunsQ.op o ho (OpOk.loadN hop hc hx hb hg hz hfit) hr
          · cases hs
        · cases hs
    · cases hs
  · cases hs

theorem Q.load1 {s : VS} {v : Value} (hm : P.follows .mixedOrders = true) (n' : Nat) (n b off : Nat) (c : List Value) (u : Value) (hs : ldAt P (vadv P n' s) = some (false, n, b, off, c)) (hu : c[off]? = some u) (hr : RunsQ Φ P f n0 (afterRd (vadv P n' s) b u) v) : RunsQ Φ P f n0 s v :=
  RunsQ.adv hm n' (RunsQ.load1 n b off c hs hu hr)

theorem Q.loadN {s : VS} {v : Value} (hm : P.follows .mixedOrders = true) (n' : Nat) (n b off : Nat) (c l : List Value) (hs : ldAt P (vadv P n' s) = some (true, n, b, off, c)) (hfit : off + n ≤ c.length) (hl : (c.drop off).take n = l) (hr : RunsQ Φ P f n0 (afterRd (vadv P n' s) b (.agg ⟨l⟩)) v) : RunsQ Φ P f n0 s v :=
  RunsQ.adv hm n' (RunsQ.loadN n b off c l hs hfit hl hr)

theorem RunsQ.store {s : VS} {v u : Value} (n b off : Nat) (c c2 : List Value) (sz : Nat) (hs : stAt P s = some (n, b, off, c, sz, u)) (hn : u.cells.size = n) (hone : u.cells.toList.all one = true) (hfit : off + n ≤ c.length) (hc2 : splice c off u.cells.toList = c2)
    (hr : RunsQ Φ P f n0 (afterWr s b (.cells c2 sz true)) v) : RunsQ Φ P f n0 s v := by
  unfold stAt at hs
  unfold afterWr at hr
  split at hs
  · rename_i o ho
    simp only [ho, fl_eq] at hr
    split at hs
    · rename_i t x y hop
      cases hc : (okConst x && okConst y) with
      | false => simp [hc] at hs
      | true =>
        rw [hc, cond_true] at hs
        rw [Bool.and_eq_true] at hc
        split at hs
        · rename_i b' off' n' hx hz
          split at hs
          · rename_i c' sz' hb
            cases hs
            subst hc2
            exact RunsQ.op o ho (OpOk.store hop hc.1 hc.2 hx hb rfl hz hn hone hfit) hr
          · cases hs
        · cases hs
    · cases hs
  · cases hs

theorem Q.store {s : VS} {v : Value} (hm : P.follows .mixedOrders = true) (n' : Nat) (u : Value) (n b off : Nat) (c c2 : List Value) (sz : Nat) (hs : stAt P (vadv P n' s) = some (n, b, off, c, sz, u)) (hn : u.cells.size = n) (hone : u.cells.toList.all one = true) (hfit : off + n ≤ c.length) (hc2 : splice c off u.cells.toList = c2)
    (hr : RunsQ Φ P f n0 (afterWr (vadv P n' s) b (.cells c2 sz true)) v) : RunsQ Φ P f n0 s v := RunsQ.adv hm n' (RunsQ.store n b off c c2 sz hs hn hone hfit hc2 hr)

theorem RunsQ.appGrow {s : VS} {v : Value} (b off l size bytes b2 o2 n : Nat) (c c2 cn : List Value) (hs : apAt P s = some (.slice (some ⟨b, off, none⟩) l l, size, bytes, b2, o2, n, c2)) (hb : s.mem[b]? = some (.cells c size true)) (hn : 0 < n)
    (hfit : off + l * size ≤ c.length) (hfit2 : o2 + n * size ≤ c2.length) (hone : ((c2.drop o2).take (n * size)).all one = true) (h63 : l + n ≤ 9223372036854775807) (hby : 2 * (l + n) * bytes ≤ 281474976710656) (hcn : (c.drop off).take (l * size) ++ (c2.drop o2).take (n * size) = cn)
    (hr : RunsQ Φ P f n0 (afterAp s (.slice (some ⟨s.mem.length, 0, none⟩) (l + n) (l + n)) (s.mem.set b .gone ++ [.cells cn size true]) ⟨[b, b2], [b]⟩) v) : RunsQ Φ P f n0 s v := by
  obtain ⟨o, so, x, t, tx, e, e', i, z, cap, sz, rw_, ho, hop, hc1, hc2, hse, hu, hu2, hxe, hb2, hi, hz, hzs, rfl, rfl⟩ := apAt_inv hs
  unfold afterAp at hr
  simp only [ho, fv_eq, fl_eq] at hr
  subst hcn
  exact RunsQ.op o ho (OpOk.appendGrow hop hc1 hc2 hse hb hn hfit hu (.inl ⟨e', hu2⟩) hi hz hzs h63 hby (.sl hxe hb2 hfit2 hone)) hr

theorem RunsQ.appNil {s : VS} {v : Value} (size bytes b2 o2 n : Nat) (c2 cn : List Value) (hs : apAt P s = some (.slice none 0 0, size, bytes, b2, o2, n, c2)) (hn : 0 < n)
    (hfit2 : o2 + n * size ≤ c2.length) (hone : ((c2.drop o2).take (n * size)).all one = true) (h63 : n ≤ 9223372036854775807) (hby : 2 * n * bytes ≤ 281474976710656) (hcn : (c2.drop o2).take (n * size) = cn)
    (hr : RunsQ Φ P f n0 (afterAp s (.slice (some ⟨s.mem.length, 0, none⟩) n n) (s.mem ++ [.cells cn size true]) ⟨[b2], []⟩) v) : RunsQ Φ P f n0 s v := by
  obtain ⟨o, so, x, t, tx, e, e', i, z, cap, sz, rw_, ho, hop, hc1, hc2, hse, hu, hu2, hxe, hb2, hi, hz, hzs, rfl, rfl⟩ := apAt_inv hs
  unfold afterAp at hr
  simp only [ho, fv_eq, fl_eq] at hr
  subst hcn
  exact RunsQ.op o ho (OpOk.appendNil hop hc1 hc2 hse hn hu (.inl ⟨e', hu2⟩) hi hz hzs h63 hby (.sl hxe hb2 hfit2 hone)) hr

theorem Q.appGrow {s : VS} {v : Value} (hm : P.follows .mixedOrders = true) (n' : Nat) (b off l size bytes b2 o2 n : Nat) (c c2 cn : List Value) (hs : apAt P (vadv P n' s) = some (.slice (some ⟨b, off, none⟩) l l, size, bytes, b2, o2, n, c2)) (hb : (vadv P n' s).mem[b]? = some (.cells c size true)) (hn : 0 < n)
    (hfit : off + l * size ≤ c.length) (hfit2 : o2 + n * size ≤ c2.length) (hone : ((c2.drop o2).take (n * size)).all one = true) (h63 : l + n ≤ 9223372036854775807) (hby : 2 * (l + n) * bytes ≤ 281474976710656) (hcn : (c.drop off).take (l * size) ++ (c2.drop o2).take (n * size) = cn)
    (hr : RunsQ Φ P f n0 (afterAp (vadv P n' s) (.slice (some ⟨(vadv P n' s).mem.length, 0, none⟩) (l + n) (l + n)) ((vadv P n' s).mem.set b .gone ++ [.cells cn size true]) ⟨[b, b2], [b]⟩) v) : RunsQ Φ P f n0 s v :=
  RunsQ.adv hm n' (RunsQ.appGrow b off l size bytes b2 o2 n c c2 cn hs hb hn hfit hfit2 hone h63 hby hcn hr)

theorem Q.appNil {s : VS} {v : Value} (hm : P.follows .mixedOrders = true) (n' : Nat) (size bytes b2 o2 n : Nat) (c2 cn : List Value) (hs : apAt P (vadv P n' s) = some (.slice none 0 0, size, bytes, b2, o2, n, c2)) (hn : 0 < n)
    (hfit2 : o2 + n * size ≤ c2.length) (hone : ((c2.drop o2).take (n * size)).all one = true) (h63 : n ≤ 9223372036854775807) (hby : 2 * n * bytes ≤ 281474976710656) (hcn : (c2.drop o2).take (n * size) = cn)
    (hr : RunsQ Φ P f n0 (afterAp (vadv P n' s) (.slice (some ⟨(vadv P n' s).mem.length, 0, none⟩) n n) ((vadv P n' s).mem ++ [.cells cn size true]) ⟨[b2], []⟩) v) : RunsQ Φ P f n0 s v :=
  RunsQ.adv hm n' (RunsQ.appNil size bytes b2 o2 n c2 cn hs hn hfit2 hone h63 hby hcn hr)

/-- A function that is given memory and tells what it leaves. -/
theorem ConM.makes {f : FuncId} {fn : Func} {args : List Value} {m m' : List Blk} {v : Value} (hf : P.funcs[f]? = some fn) (hn : ((fn.name == "runtime.NumGoroutine") || fn.body.isNone) = false)
    (h : RunsQ (fun x => x = m') P (.fn0 f) m.length (entry fn args m) v) : ConM P f args m v m' where
  eq := by
    obtain ⟨m1, h, rfl⟩ := h
    refine FnEq.of_runs hf ?_ h
    rw [Bool.or_eq_false_iff] at hn
    cases hb : fn.body with
    | none => rw [hb] at hn; cases hn.2
    | some c => rfl
  fn := ⟨fn, hf, hn⟩

end

end

section
open Go.RowKit
set_option linter.unusedVariables false

def rowV (n : Nat) (g : Nat → Value) : List Value := (List.range n).map g
abbrev row (n : Nat) (f : Nat → Int) : List Value := rowV n (fun i => .int .i64 (f i))
@[simp] theorem rowV_length {n : Nat} {g : Nat → Value} : (rowV n g).length = n := by simp [rowV]
theorem rowV_get {n i : Nat} {g : Nat → Value} (h : i < n) : (rowV n g)[i]? = some (g i) := by simp [rowV, h]
/-! ### Rows of flat elements -/
theorem wrap_nat {n : Nat} (h : n ≤ 9223372036854775807) : IntKind.i64.wrap (n : Int) = n := wrap_i64_of (by omega) (by omega)
theorem wrap_succ {n : Nat} (h : n < 9223372036854775807) : IntKind.i64.wrap ((n : Int) + 1) = ((n + 1 : Nat) : Int) := by
  rw [show (n : Int) + 1 = ((n + 1 : Nat) : Int) by omega]
  exact wrap_nat (by omega)

end

end Go.Dt
