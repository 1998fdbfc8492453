/- Several texts in one: Dt19, Dt21, Dt22. -/
import Derived.Test.YtdmcdijlpnbghaaGreatDoorQI9
import Derived.Deep.Slices
namespace Go.Dt

section
set_option linter.unusedVariables false
open Go.RowKit Go.WideShapes Go.ChangeShapes Go.ChangeAt

/-- A cell's kind. -/
inductive Sc where
  | int (k : IntKind)
  | bool

def ScOk : Sc → Value → Prop
  | .int k, v => ∃ n, v = .int k n ∧ (Lit.int k n).wf = true
  | .bool, v => ∃ b, v = .bool b

def FlatOk : List Sc → List Value → Prop
  | [], [] => True
  | s :: ss, v :: vs => ScOk s v ∧ FlatOk ss vs
  | _, _ => False

theorem FlatOk.length : ∀ {ss : List Sc} {vs : List Value}, FlatOk ss vs → ss.length = vs.length
  | [], [], _ => rfl
  | s :: ss, v :: vs, h => by simp [FlatOk.length h.2]
  | [], _ :: _, h => h.elim
  | _ :: _, [], h => h.elim
theorem FlatOk.append : ∀ {ss ss2 : List Sc} {vs vs2 : List Value}, FlatOk ss vs → FlatOk ss2 vs2 → FlatOk (ss ++ ss2) (vs ++ vs2)
  | [], _, [], _, _, h2 => h2
  | s :: ss, _, v :: vs, _, h, h2 => ⟨h.1, FlatOk.append h.2 h2⟩
  | [], _, _ :: _, _, h, _ => h.elim
  | _ :: _, _, [], _, h, _ => h.elim

section
variable {H : Type} {enc : TypeId × Value → H} {P : Program} {w : World} {base : Nat} {spare : Nat → Bool} {held : Bool}

/-- All arguments, read again where nothing that was there has turned. -/
theorem trodAll_stays (hl : laidOutB P = true) {W W' : World} (hb : Below W.heap.size W W') {z : Nat → Bool} : ∀ {ts : List TypeId} {vs : List Value} {ds : List (DataW H)} {ps : List MemPlace},
    ts.all (fun t => P.readableRec t && Nat.blt t P.types.size) = true → DataW.TrodAll enc P W 0 (fun _ => true) true ts vs ds ps → (∀ p ∈ ps, p.block < W.heap.size) → (∀ p ∈ ps, z p.block = true) → DataW.TrodAll enc P W' 0 z true ts vs ds ps
  | [], _, _, _, _, h, _, _ => by
    obtain ⟨rfl, rfl, rfl⟩ := trodAll_nil h
    exact trodAll_mk0
  | t :: ts, vs, ds, ps, ht, h, hlt, hz => by
    obtain ⟨v, vs', d, ds', p, q, rfl, rfl, rfl, h1, h2⟩ := trodAll_cons h
    simp only [List.all_cons, Bool.and_eq_true] at ht
    refine trodAll_cons_mk (WideElems.Trod_stays hl ht.1.1 (Nat.le_of_ble_eq_true ht.1.2) h1 (fun x hx => hb.same (hlt x (by simp [hx]))) (fun x hx => hz x (by simp [hx]))) ?_
    exact trodAll_stays hl hb ht.2 h2 (fun x hx => hlt x (by simp [hx])) (fun x hx => hz x (by simp [hx]))

end

end

section
open Go.RowKit

def putA : List (Nat × Value) → List Value → List Value
  | [], a => a
  | (i, v) :: l, a => putA l (a.set i v)

section
variable {P : Program} {f : Fr} {n0 : Nat}

theorem RunsE.forget {s : VS} {v : VQ} (ks : List Nat) (h : RunsE P f n0 (keepS ks s) v) : RunsE P f n0 s v := let ⟨m, h, q⟩ := h; ⟨m, Runs.forget ks h, q⟩

/-- As far as a state that is known, of which only some slots matter. -/
theorem R.at {s st : VS} {v : VQ} (hm : P.follows .mixedOrders = true) (n : Nat) (ks : List Nat) (e : keepS ks (vadv P n s) = st) (h : RunsE P f n0 st v) : RunsE P f n0 s v :=
  RunsE.adv hm n (RunsE.forget ks (e ▸ h))

/-- The end, with a value spelled otherwise. -/
theorem R.finIs {s : VS} {v : Value} {fn : Func} (hm : P.follows .mixedOrders = true) {g : FuncId} (hf : P.funcs[g]? = some fn) (u : Value) (h : retOf P fn (go P s) = some u) (e : u = v) (hg : f.IsF g := by exact rfl) : RunsE P f n0 s v := e ▸ R.fin hm hf h hg

/-- An equation between states, of which only numbers differ. -/
theorem R.eq {s st : VS} {v : VQ} (e : s = st) (h : RunsE P f n0 st v) : RunsE P f n0 s v := e ▸ h

/-- A byte of a string, by a number that is not known. -/
def strAt (s : VS) : Option (TypeId × ByteArray × IntKind × Int) := match opAt s with
  | some o => match o.op with
    | .index t x ix => match evalC s.slots x, evalC s.slots ix with
      | .string b, .int k i => if plainOperand s.slots x && plainOperand s.slots ix then some (t, b, k, i) else none
      | _, _ => none
    | _ => none
  | none => none

theorem RunsE.strIndex {s : VS} {v : VQ} (t : TypeId) (b : ByteArray) (k : IntKind) (i : Int) (u : UInt8) (hs : strAt s = some (t, b, k, i)) (ht : P.underlying t = some .string) (hi : 0 ≤ i) (hb : b[i.toNat]? = some u) (hr : RunsE P f n0 (afterOne s (.int .u8 u.toNat)) v) : RunsE P f n0 s v := by
  unfold strAt at hs
  split at hs
  · rename_i o ho
    split at hs
    · rename_i t' x ix hop
      split at hs
      · rename_i b' k' i' hx hix
        split at hs
        · rename_i hpl
          cases hs
          rw [Bool.and_eq_true] at hpl
          refine RunsE.plainOp o ho (u := .int .u8 u.toNat) ?_ ?_ hr
          · simp [hop, Op.operands, hpl.1, hpl.2, notSelect, plain]
          · unfold execOp
            rw [hop]
            simp only [hx, hix, Instr.index, asIntOf]
            simp [Bind.bind, Sem.bind, Pure.pure, pureEval, underlying, program, hi, hb, ht]
        · cases hs
      · cases hs
    · cases hs
  · cases hs

theorem R.strIndex {s : VS} {v : VQ} (hm : P.follows .mixedOrders = true) (n : Nat) (t : TypeId) (b : ByteArray) (k : IntKind) (i : Int) (u : UInt8) (hs : strAt (vadv P n s) = some (t, b, k, i)) (ht : P.underlying t = some .string) (hi : 0 ≤ i) (hb : b[i.toNat]? = some u) (hr : RunsE P f n0 (afterOne (vadv P n s) (.int .u8 u.toNat)) v) : RunsE P f n0 s v :=
  RunsE.adv hm n (RunsE.strIndex t b k i u hs ht hi hb hr)

end

end

section
open Go.RowKit
set_option linter.unusedVariables false

def gcS (E : List Ent) : VS → VS
  | .norm todo a m => .norm todo (downVs E a) (E.map (downB E m))
  | s => s
def isNormS : VS → Bool
  | .norm .. => true
  | _ => false
/-- The first blocks keep their places. -/
def firstE (E : List Ent) (m : List Blk) (n0 : Nat) : Bool := (List.range n0).all fun i => match E[i]? with
  | some (.own b) | some (.ownp b) => Nat.beq b i
  | some (.view b) => Nat.beq b i && (match m[b]? with | some (.cells _ _ false) => true | _ => false)
  | some (.win b d _ _) => Nat.beq b i && Nat.beq d 0 && (match m[b]? with | some (.cells _ _ false) => true | _ => false)
  | none => false

section
variable {P : Program} {f : Fr} {n0 : Nat}

theorem kap_first {E : List Ent} {m : List Blk} (h : firstE E m n0 = true) {i : Nat} (hi : i < n0) : kap E i = some (i, 0, false) ∨ (kap E i = some (i, 0, true) ∧ ∃ c sz, m[i]? = some (.cells c sz false)) := by
  have := List.all_eq_true.1 h i (by simpa using hi)
  unfold kap
  split at this
  · rename_i b he
    have := Nat.eq_of_beq_eq_true this
    subst this
    left; rw [he]; rfl
  · rename_i b he
    have := Nat.eq_of_beq_eq_true this
    subst this
    left; rw [he]; rfl
  · rename_i b he
    rw [Bool.and_eq_true] at this
    have e := Nat.eq_of_beq_eq_true this.1
    subst e
    have h2 := this.2
    split at h2
    · rename_i c sz hm
      right; rw [he]; exact ⟨rfl, c, sz, hm⟩
    · cases h2
  · rename_i b d k t he
    rw [Bool.and_eq_true, Bool.and_eq_true] at this
    have e := Nat.eq_of_beq_eq_true this.1.1
    subst e
    have e := Nat.eq_of_beq_eq_true this.1.2
    subst e
    have h2 := this.2
    split at h2
    · rename_i c sz hm
      right; rw [he]; exact ⟨rfl, c, sz, hm⟩
    · cases h2
  · cases this

theorem Runs.gc {s : VS} {v : Value} {m' : List Blk} (E : List Ent) (hE : okE E s.mem (E.map (downB E s.mem)) = true) (hview : ∀ e, e ∈ E → e.plain = true → plainAt s.mem e.blk) (hfirst : firstE E s.mem n0 = true) (hs : isNormS s = true)
    (h : Runs P f n0 (gcS E s) v m') : Runs P f n0 s v m' := by
  cases s with
  | reg => cases hs
  | norm todo a m =>
    simp only [gcS] at h
    simp only [VS.mem] at hE hview hfirst
    have D := callData_of (pl := []) hE hview (fun i hi => by cases hi)
    have get : ∀ {b : Nat} {y : Blk}, m[b]? = some y → m.getD b .gone = y := fun h => by simp [List.getD_eq_getElem?_getD, h]
    intro DD ds ι t w hr b cs hb hk hB hDn hj
    have hsim := D.frame (hr.sim.only (isIn (rdsE E)))
    have low : ∀ i, (at_ (E.map (downB E m)) i).live = true → i < (E.map (downB E m)).length := fun i h => by
      rcases Nat.lt_or_ge i (E.map (downB E m)).length with h' | h'
      · exact h'
      · simp [at_, List.getD_eq_getElem?_getD, List.getElem?_eq_none h', Blk.live] at h
    have ownUp : ∀ k, OwnR (cmp (kap E) ι) (at_ (E.map (downB E m))) k → OwnR ι (at_ m) k := fun k ⟨i, L, ho, hL, hk⟩ => by
      have hd := D.down i (low i (Blk.live_of_own ho))
      simp only [at_] at ho
      generalize (E.map (downB E m)).getD i .gone = x at ho hd
      cases hd with
      | gone => cases ho
      | window => cases ho
      | whole hk2 hb _ _ => exact ⟨_, L, by simp only [at_]; rw [get hb]; rfl, by simpa [cmp, hk2] using hL, hk⟩
      | map hk2 hb _ _ => exact ⟨_, L, by simp only [at_]; rw [get hb]; rfl, by simpa [cmp, hk2] using hL, hk⟩
    have liveUp : ∀ k, LiveR (cmp (kap E) ι) (at_ (E.map (downB E m))) k → LiveR ι (at_ m) k := fun k ⟨i, L, hl, hL, hk⟩ => by
      have hd := D.down i (low i hl)
      simp only [at_] at hl
      generalize (E.map (downB E m)).getD i .gone = x at hl hd
      cases hd with
      | gone => cases hl
      | @window c cu sz szu b d r hk2 hb _ _ =>
        simp only [cmp, hk2, Option.map_eq_some_iff] at hL
        obtain ⟨K, hK, rfl⟩ := hL
        exact ⟨b, K, by simp only [at_]; rw [get hb]; rfl, hK, hk⟩
      | whole hk2 hb _ _ => exact ⟨_, L, by simp only [at_]; rw [get hb]; rfl, by simpa [cmp, hk2] using hL, hk⟩
      | map hk2 hb _ _ => exact ⟨_, L, by simp only [at_]; rw [get hb]; rfl, by simpa [cmp, hk2] using hL, hk⟩
    have hrel : Rel (cmp (kap E) ι) (downVs E a) (E.map (downB E m)) t w := by
      refine ⟨by rw [downVs_length]; exact hr.size, fun x => ?_, hsim, fun i hi => ?_⟩
      · have := (ren_downs E a x).down D.good (x := t.getD x undef) (by
          have := hr.slots x
          simpa [List.getD_eq_getElem?_getD] using this)
        simpa [List.getD_eq_getElem?_getD] using this
      · cases hki : kap E i with
        | none => simp [cmp, hki] at hi
        | some q => exact (D.dom i q.1 q.2.1 q.2.2 hki).1
    obtain ⟨w', fr, ι', h1, h2, h5, h6, h7⟩ := h DD ds (cmp (kap E) ι) t w hrel b cs hb hk hB hDn hj
    refine ⟨w', fr, ι', h1, h2, h5, h6, ⟨fun i L hi hL => ?_, h7.size, h7.os, h7.tape, h7.output, fun k hk hno => h7.frame k hk (fun ho => hno (ownUp k ho)), fun k ho => (h7.own k ho).imp (ownUp k) id, fun k ho => (h7.live k ho).imp (liveUp k) id, h7.lef, fun r c hr => (h7.fro r c hr).imp id (Or.imp (ownUp r) id)⟩⟩
    refine h7.le i L hi ?_
    rcases kap_first hfirst hi with hkap | ⟨hkap, c, sz, hm⟩
    · simp [cmp, hkap, hL]
    · have hB := hr.sim.blk i
      rw [show at_ m i = .cells c sz false by simp only [at_]; exact get hm] at hB
      obtain ⟨L', c', te, fz, hL', _, _, _, hro, _⟩ := hB
      rw [hL] at hL'; cases hL'
      have hro := hro rfl
      simp only [cmp, hkap, hL, Option.map_some, Nat.add_zero]
      cases L
      simp_all

theorem RunsE.gc {s : VS} {v : VQ} (E : List Ent) (hE : okE E s.mem (E.map (downB E s.mem)) = true) (hview : ∀ e, e ∈ E → e.plain = true → plainAt s.mem e.blk) (hfirst : firstE E s.mem n0 = true) (hs : isNormS s = true)
    (h : RunsE P f n0 (gcS E s) v) : RunsE P f n0 s v := let ⟨m, h, q⟩ := h; ⟨m, Runs.gc E hE hview hfirst hs h, q⟩

/-! ### Calls that hang on nothing unknown -/
/-! ### Elements -/
def idxAt (P : Program) (s : VS) : Option (Nat × Nat × Nat × Nat × IntKind × Int) := match opAt s with
  | some o => match o.op with
    | .indexAddr t x ix => bif okConst x && okConst ix then (match evalC s.slots x, evalC s.slots ix, P.underlying t, szC P (match P.underlying t with | some (.slice e) => e | some (.array _ e) => e | _ => 0) with
      | .slice (some ⟨b, off, none⟩) len _, .int k i, some (.slice _), some n => some (b, off, len, n, k, i)
      | .pointer (some ⟨b, off, none⟩), .int k i, some (.array len _), some n => some (b, off, len, n, k, i)
      | _, _, _, _ => none) else none
    | _ => none
  | none => none

/-- An element's address, by a number that is not known. -/
theorem RunsE.idx {s : VS} {v : VQ} (b off len n : Nat) (k : IntKind) (i : Int) (p : Nat) (hs : idxAt P s = some (b, off, len, n, k, i)) (h0 : 0 ≤ i) (h1 : i < len) (hp : off + i.toNat * n = p) (hr : RunsE P f n0 (afterOne s (.pointer (some ⟨b, p, none⟩))) v) : RunsE P f n0 s v := by
  unfold idxAt at hs
  unfold afterOne at hr
  split at hs
  · rename_i o ho
    simp only [ho, fv_eq] at hr
    split at hs
    · rename_i t x ix hop
      cases hc : (okConst x && okConst ix) with
      | false => simp [hc] at hs
      | true =>
        rw [hc, cond_true] at hs
        rw [Bool.and_eq_true] at hc
        subst hp
        split at hs
        · rename_i b' off' len' cap k' i' e n' hx hi hu hz
          cases hs
          rw [hu] at hz
          exact RunsE.op o ho (OpOk.indexSl hop hc.1 hc.2 hx hi hu hz h0 h1) hr
        · rename_i b' off' k' i' len' e n' hx hi hu hz
          cases hs
          rw [hu] at hz
          exact RunsE.op o ho (OpOk.indexArr hop hc.1 hc.2 hx hi hu hz h0 h1) hr
        · cases hs
    · cases hs
  · cases hs

theorem R.idx {s : VS} {v : VQ} (hm : P.follows .mixedOrders = true) (n' : Nat) (b off len n : Nat) (k : IntKind) (i : Int) (p : Nat) (hs : idxAt P (vadv P n' s) = some (b, off, len, n, k, i)) (h0 : 0 ≤ i) (h1 : i < len) (hp : off + i.toNat * n = p)
    (hr : RunsE P f n0 (afterOne (vadv P n' s) (.pointer (some ⟨b, p, none⟩))) v) : RunsE P f n0 s v := RunsE.adv hm n' (RunsE.idx b off len n k i p hs h0 h1 hp hr)

/-! ### Loads -/
def ldAt (P : Program) (s : VS) : Option (Bool × Nat × Nat × Nat × List Value) := match opAt s with
  | some o => match o.op with
    | .load t x => bif okConst x then (match evalC s.slots x, isAggC P t, szC P t with
      | .pointer (some ⟨b, off, none⟩), some g, some n => (match s.mem[b]? with
        | some (.cells c _ _) => some (g, n, b, off, c)
        | _ => none)
      | _, _, _ => none) else none
    | _ => none
  | none => none
def afterRd (s : VS) (b : Nat) (u : Value) : VS := match opAt s with
  | some o => fv u fun u' => afterOp s o u' s.mem ⟨[b], []⟩
  | none => s

theorem RunsE.load1 {s : VS} {v : VQ} {u : Value} (n b off : Nat) (c : List Value) (hs : ldAt P s = some (false, n, b, off, c)) (hu : c[off]? = some u) (hr : RunsE P f n0 (afterRd s b u) v) : RunsE P f n0 s v := by
  unfold ldAt at hs
  unfold afterRd at hr
  split at hs
  · rename_i o ho
    simp only [ho, fv_eq] at hr
    split at hs
    · rename_i t x hop
      cases hc : okConst x with
      | false => simp [hc] at hs
      | true =>
        rw [hc, cond_true] at hs
        split at hs
        · rename_i b' off' g n' hx hg hz
          split at hs
          · rename_i c' sz rw_ hb
            cases hs
            exact RunsE.op o ho (OpOk.load1 hop hc hx hb hg hu) hr
          · cases hs
        · cases hs
    · cases hs
  · cases hs
theorem RunsE.loadN {s : VS} {v : VQ} (n b off : Nat) (c l : List Value) (hs : ldAt P s = some (true, n, b, off, c)) (hfit : off + n ≤ c.length) (hl : (c.drop off).take n = l) (hr : RunsE P f n0 (afterRd s b (.agg ⟨l⟩)) v) : RunsE P f n0 s v := by
  unfold ldAt at hs
  unfold afterRd at hr
  split at hs
  · rename_i o ho
    simp only [ho, fv_eq] at hr
    split at hs
    · rename_i t x hop
      cases hc : okConst x with
      | false => simp [hc] at hs
      | true =>
        rw [hc, cond_true] at hs
        split at hs
        · rename_i b' off' g n' hx hg hz
          split at hs
          · rename_i c' sz rw_ hb
            cases hs
            subst hl
            exact RunsE.op o ho (OpOk.loadN hop hc hx hb hg hz hfit) hr
          · cases hs
        · cases hs
    · cases hs
  · cases hs
theorem R.load1 {s : VS} {v : VQ} (hm : P.follows .mixedOrders = true) (n' : Nat) (n b off : Nat) (c : List Value) (u : Value) (hs : ldAt P (vadv P n' s) = some (false, n, b, off, c)) (hu : c[off]? = some u) (hr : RunsE P f n0 (afterRd (vadv P n' s) b u) v) : RunsE P f n0 s v :=
  RunsE.adv hm n' (RunsE.load1 n b off c hs hu hr)
theorem R.loadN {s : VS} {v : VQ} (hm : P.follows .mixedOrders = true) (n' : Nat) (n b off : Nat) (c l : List Value) (hs : ldAt P (vadv P n' s) = some (true, n, b, off, c)) (hfit : off + n ≤ c.length) (hl : (c.drop off).take n = l) (hr : RunsE P f n0 (afterRd (vadv P n' s) b (.agg ⟨l⟩)) v) : RunsE P f n0 s v :=
  RunsE.adv hm n' (RunsE.loadN n b off c l hs hfit hl hr)

/-! ### Stores -/
def stAt (P : Program) (s : VS) : Option (Nat × Nat × Nat × List Value × Nat × Value) := match opAt s with
  | some o => match o.op with
    | .store t x y => bif okConst x && okConst y then (match evalC s.slots x, szC P t with
      | .pointer (some ⟨b, off, none⟩), some n => (match s.mem[b]? with
        | some (.cells c sz true) => some (n, b, off, c, sz, evalC s.slots y)
        | _ => none)
      | _, _ => none) else none
    | _ => none
  | none => none
def afterWr (s : VS) (b : Nat) (x : Blk) : VS := match opAt s with
  | some o => fl (s.mem.set b x) fun m' => afterOp s o undef m' ⟨[b], [b]⟩
  | none => s

theorem RunsE.store {s : VS} {v : VQ} {u : Value} (n b off : Nat) (c c2 : List Value) (sz : Nat) (hs : stAt P s = some (n, b, off, c, sz, u)) (hn : u.cells.size = n) (hone : u.cells.toList.all one = true) (hfit : off + n ≤ c.length) (hc2 : splice c off u.cells.toList = c2)
    (hr : RunsE P f n0 (afterWr s b (.cells c2 sz true)) v) : RunsE P f n0 s v := by
  unfold stAt at hs
  unfold afterWr at hr
  split at hs
  · rename_i o ho
    simp only [ho, fl_eq] at hr
    split at hs
    · rename_i t x y hop
      cases hc : (okConst x && okConst y) with
      | false => simp [hc] at hs
      | true =>
        rw [hc, cond_true] at hs
        rw [Bool.and_eq_true] at hc
        split at hs
        · rename_i b' off' n' hx hz
          split at hs
          · rename_i c' sz' hb
            cases hs
            subst hc2
            exact RunsE.op o ho (OpOk.store hop hc.1 hc.2 hx hb rfl hz hn hone hfit) hr
          · cases hs
        · cases hs
    · cases hs
  · cases hs
theorem R.store {s : VS} {v : VQ} (hm : P.follows .mixedOrders = true) (n' : Nat) (u : Value) (n b off : Nat) (c c2 : List Value) (sz : Nat) (hs : stAt P (vadv P n' s) = some (n, b, off, c, sz, u)) (hn : u.cells.size = n) (hone : u.cells.toList.all one = true) (hfit : off + n ≤ c.length) (hc2 : splice c off u.cells.toList = c2)
    (hr : RunsE P f n0 (afterWr (vadv P n' s) b (.cells c2 sz true)) v) : RunsE P f n0 s v := RunsE.adv hm n' (RunsE.store n b off c c2 sz hs hn hone hfit hc2 hr)

/-! ### Appends -/
def apAt (P : Program) (s : VS) : Option (Value × Nat × Nat × Nat × Nat × Nat × List Value) := match opAt s with
  | some o => match o.op with
    | .call ⟨.builtin .append, xs, ts⟩ => match xs.toList, ts.toList with
      | [sv, x], [t, tx] => bif okConst sv && okConst x then (match P.underlying t, P.underlying tx, evalC s.slots x with
        | some (.slice e), some (.slice _), .slice (some ⟨b2, o2, none⟩) n _ => (match P.info? e, s.mem[b2]? with
          | some i, some (.cells c2 _ _) => (match i.zero with
            | some z => bif Nat.beq z.cells.size i.size then some (evalC s.slots sv, i.size, i.bytes, b2, o2, n, c2) else none
            | none => none)
          | _, _ => none)
        | _, _, _ => none) else none
      | _, _ => none
    | _ => none
  | none => none
def afterAp (s : VS) (v : Value) (m' : List Blk) (fp : Fp) : VS := match opAt s with
  | some o => fv v fun v' => fl m' fun m1 => afterOp s o v' m1 fp
  | none => s

theorem arr_two {α : Type} {xs : Array α} {a b : α} (h : xs.toList = [a, b]) : xs = #[a, b] := by
  apply Array.ext'
  simpa using h

theorem apAt_inv {s : VS} {sv : Value} {size bytes b2 o2 n : Nat} {c2 : List Value} (hs : apAt P s = some (sv, size, bytes, b2, o2, n, c2)) :
    ∃ o so x t tx e e' i z cap sz rw_, opAt s = some o ∧ o.op = .call { callee := .builtin .append, args := #[so, x], argTypes := #[t, tx] } ∧ okConst so = true ∧ okConst x = true ∧ evalC s.slots so = sv ∧ P.underlying t = some (.slice e) ∧ P.underlying tx = some (.slice e') ∧
      evalC s.slots x = .slice (some ⟨b2, o2, none⟩) n cap ∧ s.mem[b2]? = some (.cells c2 sz rw_) ∧ P.info? e = some i ∧ i.zero = some z ∧ z.cells.size = i.size ∧ i.size = size ∧ i.bytes = bytes := by
  unfold apAt at hs
  split at hs
  · rename_i o ho
    split at hs
    · rename_i xs ts hop
      split at hs
      · rename_i so x t tx hx ht
        cases hc : (okConst so && okConst x) with
        | false => simp [hc] at hs
        | true =>
          rw [hc, cond_true] at hs
          rw [Bool.and_eq_true] at hc
          split at hs
          · rename_i e e' b2' o2' n' cap hu hu2 hxe
            split at hs
            · rename_i i c2' sz rw_ hi hb
              split at hs
              · rename_i z hz
                cases hb2 : Nat.beq z.cells.size i.size with
                | false => simp [hb2] at hs
                | true =>
                  rw [hb2, cond_true] at hs
                  cases hs
                  have e1 := arr_two hx
                  have e2 := arr_two ht
                  subst e1 e2
                  exact ⟨o, so, x, t, tx, e, e', i, z, cap, sz, rw_, ho, hop, hc.1, hc.2, rfl, hu, hu2, hxe, hb, hi, hz, Nat.eq_of_beq_eq_true hb2, rfl, rfl⟩
              · cases hs
            · cases hs
          · cases hs
      · cases hs
    · cases hs
  · cases hs

/-- An append to a row of one's own: it moves. -/
theorem RunsE.appGrow {s : VS} {v : VQ} (b off l size bytes b2 o2 n : Nat) (c c2 cn : List Value) (hs : apAt P s = some (.slice (some ⟨b, off, none⟩) l l, size, bytes, b2, o2, n, c2)) (hb : s.mem[b]? = some (.cells c size true)) (hn : 0 < n)
    (hfit : off + l * size ≤ c.length) (hfit2 : o2 + n * size ≤ c2.length) (hone : ((c2.drop o2).take (n * size)).all one = true) (h63 : l + n ≤ 9223372036854775807) (hby : 2 * (l + n) * bytes ≤ 281474976710656) (hcn : (c.drop off).take (l * size) ++ (c2.drop o2).take (n * size) = cn)
    (hr : RunsE P f n0 (afterAp s (.slice (some ⟨s.mem.length, 0, none⟩) (l + n) (l + n)) (s.mem.set b .gone ++ [.cells cn size true]) ⟨[b, b2], [b]⟩) v) : RunsE P f n0 s v := by
  obtain ⟨o, so, x, t, tx, e, e', i, z, cap, sz, rw_, ho, hop, hc1, hc2, hse, hu, hu2, hxe, hb2, hi, hz, hzs, rfl, rfl⟩ := apAt_inv hs
  unfold afterAp at hr
  simp only [ho, fv_eq, fl_eq] at hr
  subst hcn
  exact RunsE.op o ho (OpOk.appendGrow hop hc1 hc2 hse hb hn hfit hu (.inl ⟨e', hu2⟩) hi hz hzs h63 hby (.sl hxe hb2 hfit2 hone)) hr

/-- An append to nil. -/
theorem RunsE.appNil {s : VS} {v : VQ} (size bytes b2 o2 n : Nat) (c2 cn : List Value) (hs : apAt P s = some (.slice none 0 0, size, bytes, b2, o2, n, c2)) (hn : 0 < n)
    (hfit2 : o2 + n * size ≤ c2.length) (hone : ((c2.drop o2).take (n * size)).all one = true) (h63 : n ≤ 9223372036854775807) (hby : 2 * n * bytes ≤ 281474976710656) (hcn : (c2.drop o2).take (n * size) = cn)
    (hr : RunsE P f n0 (afterAp s (.slice (some ⟨s.mem.length, 0, none⟩) n n) (s.mem ++ [.cells cn size true]) ⟨[b2], []⟩) v) : RunsE P f n0 s v := by
  obtain ⟨o, so, x, t, tx, e, e', i, z, cap, sz, rw_, ho, hop, hc1, hc2, hse, hu, hu2, hxe, hb2, hi, hz, hzs, rfl, rfl⟩ := apAt_inv hs
  unfold afterAp at hr
  simp only [ho, fv_eq, fl_eq] at hr
  subst hcn
  exact RunsE.op o ho (OpOk.appendNil hop hc1 hc2 hse hn hu (.inl ⟨e', hu2⟩) hi hz hzs h63 hby (.sl hxe hb2 hfit2 hone)) hr

theorem R.appGrow {s : VS} {v : VQ} (hm : P.follows .mixedOrders = true) (n' : Nat) (b off l size bytes b2 o2 n : Nat) (c c2 cn : List Value) (hs : apAt P (vadv P n' s) = some (.slice (some ⟨b, off, none⟩) l l, size, bytes, b2, o2, n, c2)) (hb : (vadv P n' s).mem[b]? = some (.cells c size true)) (hn : 0 < n)
    (hfit : off + l * size ≤ c.length) (hfit2 : o2 + n * size ≤ c2.length) (hone : ((c2.drop o2).take (n * size)).all one = true) (h63 : l + n ≤ 9223372036854775807) (hby : 2 * (l + n) * bytes ≤ 281474976710656) (hcn : (c.drop off).take (l * size) ++ (c2.drop o2).take (n * size) = cn)
    (hr : RunsE P f n0 (afterAp (vadv P n' s) (.slice (some ⟨(vadv P n' s).mem.length, 0, none⟩) (l + n) (l + n)) ((vadv P n' s).mem.set b .gone ++ [.cells cn size true]) ⟨[b, b2], [b]⟩) v) : RunsE P f n0 s v :=
  RunsE.adv hm n' (RunsE.appGrow b off l size bytes b2 o2 n c c2 cn hs hb hn hfit hfit2 hone h63 hby hcn hr)
theorem R.appNil {s : VS} {v : VQ} (hm : P.follows .mixedOrders = true) (n' : Nat) (size bytes b2 o2 n : Nat) (c2 cn : List Value) (hs : apAt P (vadv P n' s) = some (.slice none 0 0, size, bytes, b2, o2, n, c2)) (hn : 0 < n)
    (hfit2 : o2 + n * size ≤ c2.length) (hone : ((c2.drop o2).take (n * size)).all one = true) (h63 : n ≤ 9223372036854775807) (hby : 2 * n * bytes ≤ 281474976710656) (hcn : (c2.drop o2).take (n * size) = cn)
    (hr : RunsE P f n0 (afterAp (vadv P n' s) (.slice (some ⟨(vadv P n' s).mem.length, 0, none⟩) n n) ((vadv P n' s).mem ++ [.cells cn size true]) ⟨[b2], []⟩) v) : RunsE P f n0 s v :=
  RunsE.adv hm n' (RunsE.appNil size bytes b2 o2 n c2 cn hs hn hfit2 hone h63 hby hcn hr)

/-! ### make -/
end

end

end Go.Dt
