/- Several texts in one: Dt27, Dt28, Dt29. -/
import Derived.Test.YtefiememffgohaaQP12
import Derived.Handed
namespace Go.Dt

section
open Go.RowKit Go.WideShapes Go.ChangeShapes Go.ChangeAt
set_option linter.unusedVariables false

section
variable {H : Type} {enc : TypeId × Value → H}

/-- A row's contract, over worlds that have the program's own variables. -/
theorem returnsIn_shaped {a : Assume} {C : Checked} {os : Os} {f : FuncId} {fn : Func} {s : ChangeSpec} {conds : List PathCond} {apart fresh handsOn again : Bool}
    (own : ownKnob C.prog.godebug = none) (started : os.Started) (noInit : C.prog.inits.idxOf? f = none) (hfn : C.prog.funcs[f]? = some fn)
    (witness : ∃ (w : World) (tape : Tape) (i : Input), w.os = os ∧ (w.forCall tape i).Shaped C.prog ∧ i.vars = [] ∧ Input.okWide C.prog (w.forCall tape i) .any w.heap.size f i ∧
      s.pre6 enc C.prog fn conds apart (w.forCall tape i).memory i.args ∧ a.holds C.prog (lone (Frame.enter C.prog f i.args .normal) [] (w.forCall tape i)))
    (contract : ∀ (W : World) (base : Nat) (args : Array Value) (ds gs : List (DataW H)) (before : List MemPlace), W.ShapedOpen C.prog →
      (∀ (j : Nat) t v, fn.params[j]? = some t → args[j]? = some v → Value.okWide C.prog W .any base t v) →
      DataW.Whole enc C.prog fn.params.toList s.vars apart W args.toList ds gs before →
      Calls C.prog f args W fun e W' => ∃ v, e = .returned v ∧ s.post enc C.prog fn apart fresh handsOn again W args v W') :
    ReturnsInHanded a C os f .any (s.pre6 enc C.prog fn conds apart) (s.post enc C.prog fn apart fresh handsOn again) := by
  refine returnsInHanded_of_calls own started noInit witness ?_
  intro w tape i _ hsh _ hok hpre hholds
  obtain ⟨_, _, _, fn', hfn', _, _, _, _, hval⟩ := hok
  have e : fn' = fn := Option.some.inj (hfn'.symm.trans hfn)
  subst e
  obtain ⟨⟨ds, gs, before, hw, hc⟩, _⟩ := hpre
  have hw' := DataW.Whole.of_heap (w' := w.forCall tape i) (by rfl) hw
  refine (contract (w.forCall tape i) w.heap.size i.args ds gs before hsh hval hw').mono fun e W' ⟨v, he, hp⟩ => ?_
  subst he
  exact ChangeSpec.post_blind hp

theorem some_cells {P : Program} {W : World} (h : W.ShapedOpen P) (hg : Nat.ble 1 P.globals.size = true) (h0 : (((begin P (fun _ _ => 0) default).world.heap[0]?).bind Obj.row?).isSome = true) : ∃ (g : Nat) (c : Array Value) (tt : TypeId) (fz : Nat × Nat), W.heap[g]? = some (.cells c tt fz) := by
  cases hx : (((begin P (fun _ _ => 0) default).world.heap[0]?).bind Obj.row?) with
  | none => rw [hx] at h0; cases h0
  | some q =>
    obtain ⟨zero, t⟩ := q
    obtain ⟨cs, hh, _⟩ := h.1 0 zero t (Nat.le_of_ble_eq_true hg) hx
    exact ⟨0, cs, t, _, hh⟩
end

def toI : Value → Int
  | .int _ n => n
  | _ => 0
theorem flat_i64 : ∀ {k : Nat} {c : List Value}, FlatOk (List.replicate k (.int .i64)) c → ∀ v, v ∈ c → ∃ x, v = .int .i64 x ∧ (Lit.int .i64 x).wf = true
  | 0, c, h, v, hv => by
    have := flat_nil h
    subst this
    cases hv
  | k + 1, c, h, v, hv => by
    obtain ⟨x, vs, rfl, hw, hr⟩ := flat_int (k := .i64) (ss := List.replicate k (.int .i64)) h
    rcases List.mem_cons.1 hv with rfl | hv
    · exact ⟨x, rfl, hw⟩
    · exact flat_i64 hr v hv
theorem rows_mem {k : Nat} : ∀ {n : Nat} {c : List Value}, RowsOk (List.replicate k (.int .i64)) n c → ∀ v, v ∈ c → ∃ x, v = .int .i64 x ∧ (Lit.int .i64 x).wf = true
  | 0, c, h, v, hv => by
    have : c = [] := h
    subst this
    cases hv
  | n + 1, c, h, v, hv => by
    rw [← List.take_append_drop (List.replicate k (Sc.int .i64)).length c] at hv
    rcases List.mem_append.1 hv with hv | hv
    · exact flat_i64 h.1 v hv
    · exact rows_mem h.2 v hv
theorem rows_i64 {k n : Nat} {c : List Value} (h : RowsOk (List.replicate k (.int .i64)) n c) : ∃ f : Nat → Int, c = row (n * k) f ∧ ∀ i, i < n * k → (Lit.int .i64 (f i)).wf = true := by
  have hl := h.length
  rw [List.length_replicate] at hl
  have at_ : ∀ i, i < n * k → ∃ x, c[i]? = some (.int .i64 x) ∧ (Lit.int .i64 x).wf = true := fun i hi => by
    have hi' : i < c.length := by omega
    obtain ⟨x, hx, hw⟩ := rows_mem h c[i] (List.getElem_mem hi')
    exact ⟨x, by rw [List.getElem?_eq_getElem hi', hx], hw⟩
  refine ⟨fun i => toI (c.getD i undef), eq_rowV hl fun i hi => ?_, fun i hi => ?_⟩
  · obtain ⟨x, hx, _⟩ := at_ i hi
    show c[i]? = some (Value.int .i64 (toI (c.getD i undef)))
    rw [List.getD_eq_getElem?_getD, hx]; rfl
  · obtain ⟨x, hx, hw⟩ := at_ i hi
    simp only [List.getD_eq_getElem?_getD, hx]; exact hw

/-- A slice: nil, or at the start of a block. -/
abbrev slc (nil : Bool) (j n : Nat) : Value := bif nil then .slice none 0 0 else .slice (some ⟨j, 0, none⟩) n n

end

section
open Go.RowKit
set_option linter.unusedVariables false

section
variable {Φ : List Blk → Prop} {P : Program} {f : FuncId} {n0 : Nat}

theorem makeZ_ok {s : VS} {size : Nat} (l c : Int) (bytes : Nat) (hs : mkAt P s = some (l, c, size, bytes, List.replicate size (.int .i64 0))) (hsz : 0 < size) (h0 : 0 ≤ l) (hlc : l ≤ c) (hby : (bytes : Int) * c ≤ 281474976710656) (h63 : c ≤ 9223372036854775807) :
    ∃ o, opAt s = some o ∧ OpOk P o s.slots s.mem (.slice (some ⟨s.mem.length, 0, none⟩) l.toNat c.toNat) (s.mem ++ [.cells (row (c.toNat * size) fun _ => 0) size true]) ⟨[], []⟩ := by
  unfold mkAt at hs
  split at hs
  · rename_i o ho
    split at hs
    · rename_i t x y hop
      cases hc : (okConst x && okConst y) with
      | false => simp [hc] at hs
      | true =>
        rw [hc, cond_true] at hs
        rw [Bool.and_eq_true] at hc
        split at hs
        · rename_i e kl l' kc c' hu hx hy
          split at hs
          · rename_i i hi
            split at hs
            · rename_i zv hzv
              simp only [Option.some.injEq, Prod.mk.injEq] at hs
              obtain ⟨rfl, rfl, rfl, rfl, hzc⟩ := hs
              have hzs : zv.cells.size = i.size := by
                have := congrArg List.length hzc
                simpa using this
              refine ⟨o, ho, OpOk.makeSlice hop hc.1 hc.2 hx hy hu hi hzv h0 hlc hby h63 (by simp) ?_ (fun j hj => ?_) (by omega)⟩
              · rw [hzc]
                have : ∀ k, plains (List.replicate k (Value.int .i64 0)) = true := fun k => by
                  induction k with
                  | zero => rfl
                  | succ k ih => simp only [List.replicate_succ, plains, plain, ih]; rfl
                exact this _
              · have hj' : j < c'.toNat * i.size := by simpa using hj
                rw [List.getD_eq_getElem?_getD, rowV_get hj', Array.getD_eq_getD_getElem?, ← Array.getElem?_toList, hzc, hzs, List.getElem?_replicate, if_pos (Nat.mod_lt _ hsz)]
            · cases hs
          · cases hs
        · cases hs
    · cases hs
  · cases hs

theorem R.makeZ {s : VS} {v : Value} (hm : P.follows .mixedOrders = true) (n' : Nat) (size : Nat) (l c : Int) (bytes : Nat) (hs : mkAt P (vadv P n' s) = some (l, c, size, bytes, List.replicate size (.int .i64 0))) (hsz : 0 < size) (h0 : 0 ≤ l) (hlc : l ≤ c) (hby : (bytes : Int) * c ≤ 281474976710656) (h63 : c ≤ 9223372036854775807)
    (hr : RunsE P f n0 (afterAp (vadv P n' s) (.slice (some ⟨(vadv P n' s).mem.length, 0, none⟩) l.toNat c.toNat) ((vadv P n' s).mem ++ [.cells (row (c.toNat * size) fun _ => 0) size true]) ⟨[], []⟩) v) : RunsE P f n0 s v := by
  obtain ⟨o, ho, hok⟩ := makeZ_ok l c bytes hs hsz h0 hlc hby h63
  refine RunsE.adv hm n' (RunsE.op o ho hok ?_)
  unfold afterAp at hr
  simpa only [ho, fv_eq, fl_eq] using hr
theorem Q.makeZ {s : VS} {v : Value} (hm : P.follows .mixedOrders = true) (n' : Nat) (size : Nat) (l c : Int) (bytes : Nat) (hs : mkAt P (vadv P n' s) = some (l, c, size, bytes, List.replicate size (.int .i64 0))) (hsz : 0 < size) (h0 : 0 ≤ l) (hlc : l ≤ c) (hby : (bytes : Int) * c ≤ 281474976710656) (h63 : c ≤ 9223372036854775807)
    (hr : RunsQ Φ P f n0 (afterAp (vadv P n' s) (.slice (some ⟨(vadv P n' s).mem.length, 0, none⟩) l.toNat c.toNat) ((vadv P n' s).mem ++ [.cells (row (c.toNat * size) fun _ => 0) size true]) ⟨[], []⟩) v) : RunsQ Φ P f n0 s v := by
  obtain ⟨o, ho, hok⟩ := makeZ_ok l c bytes hs hsz h0 hlc hby h63
  refine RunsQ.adv hm n' (RunsQ.op o ho hok ?_)
  unfold afterAp at hr
  simpa only [ho, fv_eq, fl_eq] using hr
/-- As far as a state that is known, but for blocks that are left behind. -/
theorem R.atG {s st : VS} {v : Value} (hm : P.follows .mixedOrders = true) (n : Nat) (ks : List Nat) (E : List Ent) (cs : List (List Value)) (e : gcS E (keepS ks (vadv P n s)) = st)
    (hE : okE E (keepS ks (vadv P n s)).mem (E.map (downB E (keepS ks (vadv P n s)).mem)) = true) (hv : viewsB E (keepS ks (vadv P n s)).mem = cs) (hcs : plainsAll cs) (hfirst : firstE E (keepS ks (vadv P n s)).mem n0 = true) (hs : isNormS (keepS ks (vadv P n s)) = true)
    (h : RunsE P f n0 st v) : RunsE P f n0 s v :=
  RunsE.adv hm n (RunsE.forget ks (RunsE.gc E hE (views_ok hv hcs) hfirst hs (e ▸ h)))
theorem Q.atG {s st : VS} {v : Value} (hm : P.follows .mixedOrders = true) (n : Nat) (ks : List Nat) (E : List Ent) (cs : List (List Value)) (e : gcS E (keepS ks (vadv P n s)) = st)
    (hE : okE E (keepS ks (vadv P n s)).mem (E.map (downB E (keepS ks (vadv P n s)).mem)) = true) (hv : viewsB E (keepS ks (vadv P n s)).mem = cs) (hcs : plainsAll cs) (hfirst : firstE E (keepS ks (vadv P n s)).mem n0 = true) (hs : isNormS (keepS ks (vadv P n s)) = true)
    (h : RunsQ Φ P f n0 st v) : RunsQ Φ P f n0 s v :=
  RunsQ.adv hm n (RunsQ.forget ks (RunsQ.gc E hE (views_ok hv hcs) hfirst hs (e ▸ h)))

end

end

section
open Go.RowKit
set_option linter.unusedVariables false

theorem mul10_div (k : Nat) : k * 10 / 10 = k := by omega

def boundI (a : List Value) : Option Operand → Option (Option Int)
  | none => some none
  | some y => bif okConst y then (match evalC a y with | .int _ n => some (some n) | _ => none) else none
def slAt (P : Program) (s : VS) : Option (Nat × Nat × Nat × Nat × Nat × Option Int × Option Int) := match opAt s with
  | some o => match o.op with
    | .slice t x lo hi none => bif okConst x then (match evalC s.slots x, P.underlying t with
      | .slice (some ⟨b, off, none⟩) len cap, some (.slice e) => (match szC P e, boundI s.slots lo, boundI s.slots hi, s.mem[b]? with
        | some size, some l, some h, some (.cells _ sz rw_) => bif !rw_ || Nat.beq sz size then some (b, off, len, cap, size, l, h) else none
        | _, _, _, _ => none)
      | _, _ => none) else none
    | _ => none
  | none => none

section
variable {Φ : List Blk → Prop} {P : Program} {f : FuncId} {n0 : Nat}

theorem boundI_ok {a : List Value} {x : Option Operand} {r : Option Int} {l d : Nat} (h : boundI a x = some r) (e : r.getD d = l) : (x = none ∧ l = d) ∨ ∃ (y : Operand) (k : IntKind), x = some y ∧ okConst y = true ∧ evalC a y = .int k l := by
  cases x with
  | none =>
    simp only [boundI, Option.some.injEq] at h
    subst h
    simp only [Option.getD_none] at e
    exact .inl ⟨rfl, by omega⟩
  | some y =>
    simp only [boundI] at h
    cases hc : okConst y with
    | false => simp [hc] at h
    | true =>
      rw [hc, cond_true] at h
      split at h
      · rename_i k n hy
        cases h
        simp only [Option.getD_some] at e
        subst e
        exact .inr ⟨y, k, rfl, hc, hy⟩
      · cases h

theorem slice_ok {s : VS} (b off len cap size l h : Nat) (lo hi : Option Int) (hs : slAt P s = some (b, off, len, cap, size, lo, hi)) (hl : lo.getD 0 = l) (hh : hi.getD len = h) (hlh : l ≤ h) (hhc : h ≤ cap) :
    ∃ o, opAt s = some o ∧ OpOk P o s.slots s.mem (.slice (some ⟨b, off + l * size, none⟩) (h - l) (cap - l)) s.mem ⟨[b], []⟩ := by
  unfold slAt at hs
  split at hs
  · rename_i o ho
    split at hs
    · rename_i t x lo' hi' hop
      cases hc : okConst x with
      | false => simp [hc] at hs
      | true =>
        rw [hc, cond_true] at hs
        split at hs
        · rename_i b' off' len' cap' e hx hu
          split at hs
          · rename_i size' l' h' c' sz rw_ hz hlo hhi hb
            cases hq : (!rw_ || Nat.beq sz size') with
            | false => simp [hq] at hs
            | true =>
              rw [hq, cond_true] at hs
              cases hs
              have hsz : rw_ = true → sz = size := fun hr => by
                subst hr
                simpa using hq
              have h1 := boundI_ok (l := l) (d := 0) hlo hl
              have h2 := boundI_ok (l := h) (d := len) hhi hh
              have h1' : (lo' = none ∧ l = 0) ∨ ∃ (k : IntKind) (y : Operand), lo' = some y ∧ okConst y = true ∧ evalC s.slots y = .int k l := h1.imp id fun ⟨y, k, h⟩ => ⟨k, y, h⟩
              have h2' : (hi' = none ∧ h = len) ∨ ∃ (k : IntKind) (y : Operand), hi' = some y ∧ okConst y = true ∧ evalC s.slots y = .int k h := h2.imp id fun ⟨y, k, h⟩ => ⟨k, y, h⟩
              refine ⟨o, ho, ?_⟩
              rcases h1' with g1 | ⟨k1, g1⟩
              · rcases h2' with g2 | ⟨k2, g2⟩
                · exact OpOk.sliceSl (kl := .i64) (kh := .i64) hop hc hx hb hu hz hsz (.inl g1) (.inl g2) hlh hhc
                · exact OpOk.sliceSl (kl := .i64) (kh := k2) hop hc hx hb hu hz hsz (.inl g1) (.inr g2) hlh hhc
              · rcases h2' with g2 | ⟨k2, g2⟩
                · exact OpOk.sliceSl (kl := k1) (kh := .i64) hop hc hx hb hu hz hsz (.inr g1) (.inl g2) hlh hhc
                · exact OpOk.sliceSl (kl := k1) (kh := k2) hop hc hx hb hu hz hsz (.inr g1) (.inr g2) hlh hhc
          · cases hs
        · cases hs
    · cases hs
  · cases hs

/-- A slice, cut at numbers that are not known. -/
theorem R.slice {s : VS} {v : Value} (hm : P.follows .mixedOrders = true) (n' : Nat) (b off len cap size : Nat) (lo hi : Option Int) (l h : Nat) (u : Value) (hs : slAt P (vadv P n' s) = some (b, off, len, cap, size, lo, hi)) (hl : lo.getD 0 = l) (hh : hi.getD len = h) (hlh : l ≤ h) (hhc : h ≤ cap)
    (hu : Value.slice (some ⟨b, off + l * size, none⟩) (h - l) (cap - l) = u) (hr : RunsE P f n0 (afterRd (vadv P n' s) b u) v) : RunsE P f n0 s v := by
  obtain ⟨o, ho, hok⟩ := slice_ok b off len cap size l h lo hi hs hl hh hlh hhc
  subst hu
  refine RunsE.adv hm n' (RunsE.op o ho hok ?_)
  unfold afterRd at hr
  simpa only [ho, fv_eq] using hr
theorem Q.slice {s : VS} {v : Value} (hm : P.follows .mixedOrders = true) (n' : Nat) (b off len cap size : Nat) (lo hi : Option Int) (l h : Nat) (u : Value) (hs : slAt P (vadv P n' s) = some (b, off, len, cap, size, lo, hi)) (hl : lo.getD 0 = l) (hh : hi.getD len = h) (hlh : l ≤ h) (hhc : h ≤ cap)
    (hu : Value.slice (some ⟨b, off + l * size, none⟩) (h - l) (cap - l) = u) (hr : RunsQ Φ P f n0 (afterRd (vadv P n' s) b u) v) : RunsQ Φ P f n0 s v := by
  obtain ⟨o, ho, hok⟩ := slice_ok b off len cap size l h lo hi hs hl hh hlh hhc
  subst hu
  refine RunsQ.adv hm n' (RunsQ.op o ho hok ?_)
  unfold afterRd at hr
  simpa only [ho, fv_eq] using hr
end

end

end Go.Dt
