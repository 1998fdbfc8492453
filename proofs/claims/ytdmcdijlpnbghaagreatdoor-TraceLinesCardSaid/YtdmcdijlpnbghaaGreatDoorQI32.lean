/- Several texts in one: Dt53, Dt57, Dt54. -/
import Derived.Test.YtdmcdijlpnbghaaGreatDoorQI31
import Derived.Stop.IfaceNil
namespace Go.Dt

section
set_option linter.unusedVariables false
set_option linter.unusedSimpArgs false

/-- A loop's record: whose function, its slots as they are known, what a round does; the block that stands for it. -/
structure YC where
  fc : FuncId
  ac : List Value
  params : Array Tmp
  assign : Code
  body : Code
  lb : Nat

def JR (Y : YC) (st : LoopState) : Map → World → Prop := fun ι w => ∃ (L : Loc) (rec : Loop), ι Y.lb = some L ∧ w.heap[L.blk]? = some (.loop rec) ∧ rec.state = st ∧ rec.pending = none ∧ rec.fn = Y.fc ∧ rec.params = Y.params ∧ rec.assign = Y.assign ∧ rec.body = Y.body ∧
  Y.ac.length ≤ rec.tmps.size ∧ ∀ x : Nat, RV ι (Y.ac.getD x undef) (rec.tmps.getD x undef)

theorem JR.keeps (Y : YC) (st : LoopState) : Keeps (JR Y st) := fun ι C w ι' C' w' hs he ⟨L, rec, h1, h2, h3, h4, h5, h6, h7, h8, h9, h10⟩ => by
  have hlt : L.blk < w.heap.size := (Array.getElem?_eq_some_iff.1 h2).1
  have hno : ¬ OwnR ι C L.blk := fun ho => not_live hs h2 (fun _ _ _ e => by cases e) (fun _ _ e => by cases e) (own_live ho)
  exact ⟨L, rec, he.le _ _ h1, (he.frame _ hlt hno).trans h2, h3, h4, h5, h6, h7, h8, h9, fun x => (h10 x).mono he.le⟩
theorem JR.drawn (Y : YC) (st : LoopState) : Drawn (JR Y st) := fun ι w n h => h

def setP : List Nat → List Value → List Value → List Value
  | p :: ps, v :: vs, a => setP ps vs (a.set p v)
  | _, _, a => a

theorem setP_rv {ι : Map} : ∀ (ps : List Nat) (vs vs' : List Value) (a : List Value) (t : Array Value), vs.length = vs'.length → a.length ≤ t.size → (∀ i : Nat, RV ι (vs.getD i undef) (vs'.getD i undef)) → (∀ x : Nat, RV ι (a.getD x undef) (t.getD x undef)) →
    (setP ps vs a).length ≤ ((ps.zip vs').foldl (fun t (p : Nat × Value) => t.setIfInBounds p.1 p.2) t).size ∧ ∀ x : Nat, RV ι ((setP ps vs a).getD x undef) (((ps.zip vs').foldl (fun t (p : Nat × Value) => t.setIfInBounds p.1 p.2) t).getD x undef)
  | [], _, _, a, t, _, hl, _, h => by simp only [setP, List.zip_nil_left, List.foldl_nil]; exact ⟨hl, h⟩
  | p :: ps, [], [], a, t, _, hl, _, h => by simp only [setP, List.zip_nil_right, List.foldl_nil]; exact ⟨hl, h⟩
  | p :: ps, [], _ :: _, a, t, hh, _, _, _ => by simp at hh
  | p :: ps, _ :: _, [], a, t, hh, _, _, _ => by simp at hh
  | p :: ps, v :: vs, v' :: vs', a, t, hh, hl, hv, h => by
    simp only [setP, List.zip_cons_cons, List.foldl_cons]
    refine setP_rv ps vs vs' (a.set p v) (t.setIfInBounds p v') (by simpa using hh) (by simpa using hl) (fun i => by simpa using hv (i + 1)) (fun x => ?_)
    by_cases e : p = x
    · subst e
      by_cases hp : p < a.length
      · have h2 : p < t.size := by omega
        have := hv 0
        simpa [List.getD_eq_getElem?_getD, hp, h2] using this
      · rw [show (a.set p v).getD p undef = undef by simp [List.getD_eq_getElem?_getD, List.getElem?_eq_none (show (a.set p v).length ≤ p by simp; omega)]]
        exact .any _
    · have h1 : (a.set p v).getD x undef = a.getD x undef := by simp [List.getD_eq_getElem?_getD, List.getElem?_set_ne e]
      have h2 : (t.setIfInBounds p v').getD x undef = t.getD x undef := by simp [Array.getElem?_setIfInBounds_ne e]
      rw [h1, h2]; exact h x

theorem OpOkJ.yield {P : Program} {Y : YC} {ι0 : Map} {n : Nat} {o : Oper} {a a2 a3 : List Value} {m m2 m3 : List Blk} {k1 : List Item} {g : Operand} {xs : Array Operand} {ts : Array TypeId} (hn : n ≤ m.length)
    (ho : o.op = .call { callee := .value g, args := xs, argTypes := ts }) (hg : evalC a g = .chan (some Y.lb)) (hcg : okConst g = true) (hc : xs.toList.all okConst = true) (hsz : xs.size = Y.params.size)
    (hb1 : bnds m.length (setP Y.params.toList (xs.map (evalC a)).toList Y.ac) = true) (hb2 : bnds m.length Y.ac = true) (hbm : ∀ b, b < m.length → BBnd m.length (m.getD b .gone)) (hlb : Y.lb < m.length) (hlen : m.length ≤ m3.length)
    (h1 : GoF P Y.fc (JR Y .ready) [.code Y.assign, .beginRound, .code Y.body] (setP Y.params.toList (xs.map (evalC a)).toList Y.ac) m (.beginRound :: k1) a2 m2)
    (h2 : GoF P Y.fc (JR Y .busy) k1 a2 m2 [] a3 m3) :
    OpOkJ P (JN (JR Y .ready) ι0 n) o a m (.bool true) m3 ⟨List.range m.length, List.range m.length⟩ where
  len := hlen
  sub := fun b hb => hb
  rdlt := fun b hb => by simpa using hb
  same := fun b hb hn' => absurd (by simpa using hb) hn'
  run := fun ι t ds w hs hdom hsim hj r next Q hnext => by
    have hC : (at_ m).only (isIn (List.range m.length)) = at_ m := by
      funext b
      unfold Cont.only
      split
      · rfl
      · rename_i hb
        have : ¬ b < m.length := by simpa [isIn] using hb
        simp [at_, List.getD_eq_getElem?_getD, List.getElem?_eq_none (Nat.le_of_not_lt this)]
    have hC3 : (at_ m3).only (tch (List.range m.length) m.length m3.length) = at_ m3 := by
      funext b
      unfold Cont.only
      split
      · rfl
      · rename_i hb
        have : ¬ b < m3.length := fun h => hb (by unfold tch; by_cases h' : b < m.length <;> simp [h', h] <;> omega)
        simp [at_, List.getD_eq_getElem?_getD, List.getElem?_eq_none (Nat.le_of_not_lt this)]
    rw [hC] at hsim hnext
    rw [hC3] at hnext
    obtain ⟨⟨L, rec, hL, hheap, hst, hpd, hfn, hps, has, hbd, hsize, hac⟩, hnew⟩ := hj
    -- the blocks that are there
    let ιr : Map := cut m.length ι
    have hsub : ∀ {b : Nat} {K : Loc}, ιr b = some K → ι b = some K ∧ b < m.length := fun h => by
      simp only [ιr, Dt.cut] at h
      split at h
      · exact ⟨h, by assumption⟩
      · cases h
    have hin : ∀ {b : Nat} {K : Loc}, b < m.length → ι b = some K → ιr b = some K := fun hb hK => by simp [ιr, Dt.cut, hb, hK]
    have hgone : ∀ b, ¬ b < m.length → at_ m b = .gone := fun b hb => by simp [at_, List.getD_eq_getElem?_getD, List.getElem?_eq_none (Nat.le_of_not_lt hb)]
    have hsimr : Sim ιr (at_ m) w := by
      refine ⟨fun b => ?_, fun b b2 K K2 hne ho' hl hK hK2 => hsim.sep b b2 K K2 hne ho' hl (hsub hK).1 (hsub hK2).1, hsim.fro, fun b K r' c ho' hK hr => hsim.apart b K r' c ho' (hsub hK).1 hr, hsim.glo⟩
      by_cases hb : b < m.length
      · exact (hsim.blk b).cut hb (hbm b hb)
      · rw [hgone b hb]; trivial
    have hgv := rv_operand hs (x := g) (by rw [ho]; simp [Op.operands, Call.operands]) hcg
    rw [hg] at hgv
    have hev : (actD ds t).eval = (act t).eval := eval_actD t ds
    generalize hgr : (act t).eval g = gr at hgv
    cases hgv with
    | yld hL' =>
      rw [hL] at hL'; cases hL'
      let args' : Array Value := xs.map (act t).eval
      have hargs : ∀ i : Nat, RV ι ((xs.map (evalC a)).toList.getD i undef) (args'.toList.getD i undef) := fun i => by
        by_cases hi : i < xs.size
        · have := rv_operand hs (x := xs[i]) (by rw [ho]; simp [Op.operands, Call.operands]) (List.all_eq_true.1 hc _ (by simp))
          simpa [args', List.getD_eq_getElem?_getD, hi] using this
        · rw [show (xs.map (evalC a)).toList.getD i undef = undef by simp [List.getD_eq_getElem?_getD, Array.getElem?_eq_none (show xs.size ≤ i by omega)]]
          exact .any _
      obtain ⟨hs1, hs2⟩ := setP_rv Y.params.toList (xs.map (evalC a)).toList args'.toList Y.ac rec.tmps (by simp [args']) hsize hargs hac
      let tm : Array Value := (rec.params.zip args').foldl (fun tmps (t, a) => tmps.setIfInBounds t a) rec.tmps
      have htm : tm = (Y.params.toList.zip args'.toList).foldl (fun t (p : Nat × Value) => t.setIfInBounds p.1 p.2) rec.tmps := by
        simp only [tm, hps]
        rw [← Array.foldl_toList, Array.toList_zip]
      have hrel1 : Rel ιr (setP Y.params.toList (xs.map (evalC a)).toList Y.ac) m tm w := ⟨by rw [htm]; exact hs1, fun x => by rw [htm]; exact (hs2 x).cut (bnds_get hb1 x), hsimr, fun b hb => by
        cases hx : ιr b with
        | none => exact absurd hx hb
        | some K => exact (hsub hx).2⟩
      have hj1 : JR Y .ready ιr w := ⟨L, rec, hin hlb hL, hheap, hst, hpd, hfn, hps, has, hbd, hsize, fun x => (hac x).cut (bnds_get hb2 x)⟩
      have hlt0 : L.blk < w.heap.size := (Array.getElem?_eq_some_iff.1 hheap).1
      -- the operation asks for a round
      have hrun : (execOp (act t).eval o).run P w = .ok (.round L.blk rec.fn tm rec.assign rec.body) w := by
        unfold execOp; rw [ho]
        have hy := run_yield (P := P) (args := args') hheap (by rw [hps]; simp [args', hsz])
        simp only [resolve, hgr, Deferred.ofValue, pure_bind, invoke, Array.empty_append, Array.append_empty]
        exact hy
      refine ⟨fun _ _ => trivial, ?_⟩
      rw [Oper.semAt_eq _ _ _ (fun c hc' => by rw [ho] at hc'; cases hc'), hev, hrun, Oper.uponIn_round]
      refine And.intro (fun h => by simp [Fence.wide] at h) ⟨trivial, fun c cs _ => ?_⟩
      let b : Frame := { (default : Frame) with fn := rec.fn, kind := .normal, roundOf := some L.blk }
      have hb0 : Frame.round L.blk rec.fn tm rec.assign rec.body .normal = b.atR ⟨tm, []⟩ [.code Y.assign, .beginRound, .code Y.body] := by
        simp [Frame.round, Frame.atR, b, has, hbd]
      obtain ⟨t1, w1, ι1, s1, r1, j1, e1, n1, l1⟩ := h1 ιr tm w hrel1 hj1 b (c :: cs) [] hfn rfl
      have hno : ∀ {ι : Map} {C : Cont} {w : World} {rec : Loop}, Sim ι C w → w.heap[L.blk]? = some (.loop rec) → ¬ OwnR ι C L.blk := fun hs hh ho => not_live hs hh (fun _ _ _ e => by cases e) (fun _ _ e => by cases e) (own_live ho)
      have hh1 : w1.heap[L.blk]? = some (.loop rec) := (e1.frame _ hlt0 (hno hsimr hheap)).trans hheap
      have hlt1 : L.blk < w1.heap.size := (Array.getElem?_eq_some_iff.1 hh1).1
      have sb := stepR_beginRound (b := b) (a := ⟨t1, []⟩) (k := k1) (cs := c :: cs) (P := P) rfl (run_beginRound hh1 hst)
      let w1' : World := w1.putObj L.blk (.loop { rec with state := .busy })
      have hh1' : w1'.heap[L.blk]? = some (.loop { rec with state := .busy }) := World.putObj_heap_same hlt1
      have hrel2 : Rel ι1 a2 m2 t1 w1' := r1.putObj hh1 (fun _ _ _ e => by cases e) (fun _ _ e => by cases e)
      have hj2 : JR Y .busy ι1 w1' := by
        obtain ⟨L1, rec1, g1, g2, g3, g4, g5, g6, g7, g8, g9, g10⟩ := j1
        have : ι1 Y.lb = some L := e1.le _ _ (hin hlb hL)
        rw [this] at g1; cases g1
        rw [hh1] at g2; cases g2
        exact ⟨L, _, this, hh1', rfl, g4, g5, g6, g7, g8, g9, g10⟩
      obtain ⟨t2, w2, ι2, s2, r2, j2, e2, n2, l2⟩ := h2 ι1 t1 w1' hrel2 hj2 b (c :: cs) [] hfn rfl
      have hh2 : w2.heap[L.blk]? = some (.loop { rec with state := .busy }) := (e2.frame _ (by simpa [w1'] using hlt1) (hno hrel2.sim hh1')).trans hh1'
      have hlt2 : L.blk < w2.heap.size := (Array.getElem?_eq_some_iff.1 hh2).1
      have se := stepR_round_end (b := b) (a := ⟨t2, []⟩) (c := c) (cs := cs) (P := P) rfl rfl (run_endRound none hh2)
      have hrec : ({ ({ rec with state := .busy } : Loop) with state := if (none : Option Code).isNone then .ready else .done, pending := none } : Loop) = rec := by
        cases rec
        simp only at hst hpd
        subst hst; subst hpd; rfl
      rw [hrec] at se
      let w3 : World := w2.putObj L.blk (.loop rec)
      have hh3 : w3.heap[L.blk]? = some (.loop rec) := World.putObj_heap_same hlt2
      have hsim3 : Sim ι2 (at_ m3) w3 := r2.sim.putObj hh2 (fun _ _ _ e => by cases e) (fun _ _ e => by cases e)
      have e2' : Ext ι1 (at_ m2) w1 ι2 (at_ m3) w3 := by
        refine ⟨e2.le, by have := e2.size; simpa [w1', w3] using this, e2.os, e2.tape, e2.output, fun k hk hno' => ?_, fun k hk => (e2.own k hk).imp id (fun h => by simpa [w1'] using h), fun k hk => (e2.live k hk).imp id (fun h => by simpa [w1'] using h), fun r' c' hr => (e2.fro r' c' hr).imp id (Or.imp id (fun h => by simpa [w1'] using h))⟩
        by_cases hkl : k = L.blk
        · subst hkl; rw [hh3, hh1]
        · have g1 : w3.heap[k]? = w2.heap[k]? := World.putObj_heap_other hkl
          have g2 : w1'.heap[k]? = w1.heap[k]? := World.putObj_heap_other hkl
          rw [g1, e2.frame k (by simpa [w1'] using hk) hno', g2]
      have eT := e1.trans e2'
      refine ⟨.returned (.bool true), w3, ?_, ?_⟩
      · -- what the round leaves, in the greater memory
        let ι' : Map := ⟨fun b => if b < m.length then ι b else if b < m3.length then ι2 b else ι b, ι2.fro⟩
        have old : ∀ b K, b < m.length → ι2 b = some K → ι b = some K := fun b K hb hK => by
          cases hx : ιr b with
          | some K' =>
            have := eT.le _ _ hx
            rw [hK] at this; cases this
            exact (hsub hx).1
          | none =>
            exfalso
            cases hy : ι1 b with
            | none => have := n2 b hy (by rw [hK]; simp); have := l1; omega
            | some K' => have := n1 b hx (by rw [hy]; simp); omega
        have le1 : Le ι ι' := ⟨fun b K hK => by
          simp only [ι']
          by_cases hb : b < m.length
          · rw [if_pos hb]; exact hK
          · rw [if_neg hb]
            split
            · rename_i h3
              rw [hdom b (by omega) h3] at hK; cases hK
            · exact hK, fun r' c' h => eT.le.fro r' c' h⟩
        have le2 : Le ι2 ι' := ⟨fun b K hK => by
          have hb3 := r2.dom b (by rw [hK]; simp)
          simp only [ι']
          by_cases hb : b < m.length
          · rw [if_pos hb]; exact old b K hb hK
          · rw [if_neg hb, if_pos hb3]; exact hK, fun _ _ h => h⟩
        have same : ∀ b K, (at_ m3 b).live = true → ι' b = some K → ι2 b = some K := fun b K hl hK => by
          obtain ⟨K0, hK0, _⟩ := (hsim3.blk b).loc hl
          have := le2 _ _ hK0
          rw [hK] at this; cases this; exact hK0
        have ownr : ∀ k, OwnR ιr (at_ m) k → OwnR ι (at_ m) k := fun k ⟨b, K, h1, h2, h3⟩ => ⟨b, K, h1, (hsub h2).1, h3⟩
        have liver : ∀ k, LiveR ιr (at_ m) k → LiveR ι (at_ m) k := fun k ⟨b, K, h1, h2, h3⟩ => ⟨b, K, h1, (hsub h2).1, h3⟩
        refine hnext (.bool true) w3 ι' (.bool true) ⟨le1, eT.size, eT.os, eT.tape, eT.output, fun k hk hno' => eT.frame k hk (fun ho => hno' (ownr k ho)), fun k ⟨b, K, g1, g2, g3⟩ => ?_, fun k ⟨b, K, g1, g2, g3⟩ => ?_, fun r' c' hr => (eT.fro r' c' hr).imp id (Or.imp (ownr r') id)⟩ ⟨fun b => ?_, fun b b2 K K2 hne g1 g2 g3 g4 => ?_, hsim3.fro, fun b K r' c' g1 g2 g3 => ?_, hsim3.glo⟩ (fun b g1 g2 => ?_) ⟨?_, fun b hb h0 => ?_⟩
        · exact (eT.own k ⟨b, K, g1, same b K (Blk.live_of_own g1) g2, g3⟩).imp (ownr k) id
        · exact (eT.live k ⟨b, K, g1, same b K g1 g2, g3⟩).imp (liver k) id
        · exact (hsim3.blk b).keep le2 fun _ _ _ => rfl
        · exact hsim3.sep b b2 K K2 hne g1 g2 (same b K (Blk.live_of_own g1) g3) (same b2 K2 g2 g4)
        · exact hsim3.apart b K r' c' g1 (same b K (Blk.live_of_own g1) g2) g3
        · simp only [ι'] at g2
          by_cases hb : b < m.length
          · rw [if_pos hb] at g2; exact absurd g1 g2
          · rw [if_neg hb] at g2
            by_cases hb3 : b < m3.length
            · exact ⟨by omega, hb3⟩
            · rw [if_neg hb3] at g2; exact absurd g1 g2
        · refine ⟨L, rec, le1 _ _ hL, hh3, hst, hpd, hfn, hps, has, hbd, hsize, fun x => (hac x).mono le1⟩
        · simp only [ι']
          rw [if_pos (by omega)]; exact hnew b hb h0
      · rw [hb0]
        exact comesIn_wide.2 (Steps.trans (Steps.trans s1 (.one sb)) (Steps.trans s2 (.one se)))

end

section
set_option linter.unusedVariables false
set_option linter.unusedSimpArgs false

section
variable {P : Program}

/-- A call, however it comes to its function. -/
theorem OpOk.callG {o : Oper} {a : List Value} {m : List Blk} {f : FuncId} {cargs vs : List Value} {mf mf' m' : List Blk} {v u : Value} {κ : Emb} {rd wr : List Nat}
    (hrunG : ∀ (ι : Map) (t : Array Value) (w : World), (∀ x, x ∈ slotsOf o → RV ι (a.getD x undef) (t.getD x undef)) →
      ∃ args' : Array Value, args'.size = cargs.length ∧ (∀ i : Nat, RV ι (cargs.getD i undef) (args'.getD i undef)) ∧ (execOp (act t).eval o).run P w = .ok (.enter f args') w)
    (hlen : vs.length = cargs.length) (hargs : ∀ i, i < vs.length → Ren κ (vs.getD i undef) (cargs.getD i undef)) (D : CallData m mf mf' m' κ rd wr) (hv : Lift (back κ mf.length mf'.length m.length) v u) (h : FnEq P f vs mf v mf') :
    OpOk P o a m u m' ⟨rd, wr⟩ where
  len := by have := D.len'; omega
  sub := D.wrs
  rdlt := D.rdlt
  same := fun b hb hn => D.keep b hb fun i hi => hn (D.iswr i b hi)
  run := fun ι t w hs hdom hsim next Q hn => by
    obtain ⟨args', hsz, hargs', hrun⟩ := hrunG ι t w hs
    have hcall := h (cmp κ ι) args' w (by rw [hsz, hlen]) (fun i => by
        by_cases hi : i < vs.length
        · exact (hargs i hi).down D.good (hargs' i)
        · have : vs.getD i undef = undef := by simp [List.getD_eq_getElem?_getD, List.getElem?_eq_none (Nat.le_of_not_lt hi)]
          rw [this]; exact .any _)
      (D.frame hsim) (fun i hi => by
        cases hk : κ i with
        | none => simp [cmp, hk] at hi
        | some x => obtain ⟨b, d, r⟩ := x; exact (D.dom _ _ _ _ hk).1)
    unfold Oper.wp
    rw [hrun, Oper.upon_enter]
    refine hcall.mono fun e w' he => ?_
    obtain ⟨v', ι1, rfl, hv', hs1, hd1, hext⟩ := he
    obtain ⟨ι', hfro, hback, hext', hsim', hdom'⟩ := call_frame D hdom hsim hs1 hext
    exact hn v' w' ι' (hv.up hback hfro hv') hext' hsim' hdom'

theorem callOf_run {o : Oper} {a : List Value} {g : FuncId} {gn : Func} {args : List Value} (hc : callOf o a = some (g, args)) (hf : P.funcs[g]? = some gn) (hn : ((gn.name == "runtime.NumGoroutine") || gn.body.isNone) = false)
    (ι : Map) (t : Array Value) (w : World) (hs : ∀ x, x ∈ slotsOf o → RV ι (a.getD x undef) (t.getD x undef)) :
    ∃ args' : Array Value, args'.size = args.length ∧ (∀ i : Nat, RV ι (args.getD i undef) (args'.getD i undef)) ∧ (execOp (act t).eval o).run P w = .ok (.enter g args') w := by
  rw [Bool.or_eq_false_iff] at hn
  unfold callOf at hc
  split at hc
  · rename_i c hop
    split at hc
    · rename_i gop hcal
      split at hc
      · rename_i hk
        rw [Bool.and_eq_true] at hk
        split at hc
        · rename_i f' first captured hg
          cases hc
          obtain ⟨callee, xs, ts⟩ := c
          simp only at hcal hk
          subst hcal
          have hgv := rv_operand hs (x := gop) (by rw [hop]; simp [Op.operands, Call.operands]) hk.1
          rw [hg] at hgv
          generalize hgr : (act t).eval gop = gr at hgv
          cases hgv with
          | @func _ _ first' _ captured' h1 h2 h3 h4 =>
            refine ⟨first' ++ xs.map (act t).eval ++ captured', by simp [argsC]; omega, fun i => ?_, ?_⟩
            · simp only [argsC, List.getD_eq_getElem?_getD, Array.getD_eq_getD_getElem?]
              by_cases hi : i < first.size
              · rw [List.append_assoc, List.getElem?_append_left (by simpa using hi), Array.append_assoc, Array.getElem?_append_left (by omega)]
                have := h3 i
                simpa [Array.getD_eq_getD_getElem?] using this
              · by_cases hi2 : i < first.size + xs.size
                · rw [List.append_assoc, List.getElem?_append_right (by simpa using Nat.le_of_not_lt hi), List.getElem?_append_left (by simp; omega),
                    Array.append_assoc, Array.getElem?_append_right (by omega), Array.getElem?_append_left (by simp; omega)]
                  have hj : i - first.size < xs.size := by omega
                  have := rv_operand hs (x := xs[i - first.size]) (by rw [hop]; simp [Op.operands, Call.operands]) (List.all_eq_true.1 hk.2 _ (by simp))
                  have e : i - first'.size = i - first.size := by omega
                  simpa [hj, e] using this
                · rw [List.getElem?_append_right (by simp; omega), Array.getElem?_append_right (by simp; omega)]
                  have := h4 (i - (first.size + xs.size))
                  have e : i - (first' ++ xs.map (act t).eval).size = i - (first.size + xs.size) := by simp; omega
                  rw [e]
                  simpa [Array.getD_eq_getD_getElem?] using this
            · unfold execOp; rw [hop]
              simp only [resolve, hgr, Deferred.ofValue, pure_bind, invoke]
              unfold callFunc
              simp only [program, Sem.run_bind]
              show Result.andThen (.ok P w) _ = _
              simp only [Result.andThen_ok, hf, hn.1, hn.2]
              rfl
        · cases hc
      · cases hc
    · cases hc
  · cases hc

/-! ### Through an interface -/
def methOf (P : Program) (t : TypeId) (name : String) : Option FuncId := match pureEval P (typeInfo t) with
  | none => none
  | some ti => match ti.methods.find? (·.name == name) with
    | none => none
    | some r => bif r.path.isEmpty then match r.func with
        | none => none
        | some (f, p) => match pureEval P (underlying t) with
          | some (.pointer _) => bif p then some f else none
          | some _ => bif p then none else some f
          | none => none
      else none

theorem methOf_run {t : TypeId} {name : String} {f : FuncId} (h : methOf P t name = some f) (n : Nat) (v : Value) (w : World) : (method (n + 1) t v name).run P w = .ok (f, v) w := by
  unfold methOf at h
  split at h
  · cases h
  · rename_i ti hti
    split at h
    · cases h
    · rename_i r hr
      cases hp : r.path.isEmpty with
      | false => rw [hp] at h; cases h
      | true =>
        rw [hp, cond_true] at h
        have hpl : r.path.toList = [] := by simpa using hp
        split at h
        · cases h
        · rename_i g p hfn
          unfold method
          have hu : ∀ ty, pureEval P (underlying t) = some ty → (underlying t).run P w = .ok ty w := fun ty hty => run_of_pureEval hty w
          split at h
          · rename_i e hty
            cases p with
            | false => cases h
            | true =>
              cases h
              simp [Sem.run_bind, run_of_pureEval hti w, hr, hpl, follow, hfn, receiverAt, hu _ hty, Result.andThen, Place.get]
          · rename_i ty hne hty
            cases p with
            | true => cases h
            | false =>
              cases h
              cases ty <;> first | exact absurd rfl (hne _) | simp [Sem.run_bind, run_of_pureEval hti w, hr, hpl, follow, hfn, receiverAt, hu _ hty, Result.andThen, Place.get]
          · cases h

theorem RV.iface_inv {ι : Map} {t : TypeId} {v x : Value} (ht : t < frzT) (h : RV ι (.iface t v) x) : ∃ v', x = .iface t v' ∧ RV ι v v' := by
  cases h with
  | iface _ _ h => exact ⟨_, rfl, h⟩
  | _ => exact absurd ht (by decide)

def callOfI (P : Program) (o : Oper) (a : List Value) : Option (FuncId × List Value) := match o.op with
  | .call ⟨.invoke recv name, xs, _⟩ => bif okConst recv && xs.toList.all okConst then match evalC a recv with
      | .iface t v => bif Nat.blt t frzT then match methOf P t name with
          | some f => some (f, v :: (xs.map (evalC a)).toList)
          | none => none
        else none
      | _ => none
    else none
  | _ => none

theorem callOfI_run {o : Oper} {a : List Value} {g : FuncId} {gn : Func} {args : List Value} (hc : callOfI P o a = some (g, args)) (hf : P.funcs[g]? = some gn) (hn : ((gn.name == "runtime.NumGoroutine") || gn.body.isNone) = false)
    (ι : Map) (t : Array Value) (w : World) (hs : ∀ x, x ∈ slotsOf o → RV ι (a.getD x undef) (t.getD x undef)) :
    ∃ args' : Array Value, args'.size = args.length ∧ (∀ i : Nat, RV ι (args.getD i undef) (args'.getD i undef)) ∧ (execOp (act t).eval o).run P w = .ok (.enter g args') w := by
  rw [Bool.or_eq_false_iff] at hn
  unfold callOfI at hc
  split at hc
  · rename_i recv name xs ts hop
    cases hk : okConst recv && xs.toList.all okConst with
    | false => rw [hk] at hc; cases hc
    | true =>
      rw [hk, cond_true] at hc
      rw [Bool.and_eq_true] at hk
      split at hc
      · rename_i ty v hg
        cases hb : Nat.blt ty frzT with
        | false => rw [hb] at hc; cases hc
        | true =>
          rw [hb, cond_true] at hc
          have hlt : ty < frzT := Nat.lt_of_succ_le (Nat.le_of_ble_eq_true hb)
          split at hc
          · rename_i f hm
            cases hc
            have hgv := rv_operand hs (x := recv) (by rw [hop]; simp [Op.operands, Call.operands]) hk.1
            rw [hg] at hgv
            obtain ⟨v', hx, hv'⟩ := hgv.iface_inv hlt
            refine ⟨#[v'] ++ xs.map (act t).eval, by simp; omega, fun i => ?_, ?_⟩
            · cases i with
              | zero =>
                rw [Array.getD_eq_getD_getElem?, Array.getElem?_append_left (by simp)]
                simpa using hv'
              | succ i =>
                by_cases hi : i < xs.size
                · have := rv_operand hs (x := xs[i]) (by rw [hop]; simp [Op.operands, Call.operands]) (List.all_eq_true.1 hk.2 _ (by simp))
                  have h1 : (v :: (xs.map (evalC a)).toList).getD (i + 1) undef = evalC a xs[i] := by simp [List.getD_eq_getElem?_getD, hi]
                  have h2 : (#[v'] ++ xs.map (act t).eval).getD (i + 1) undef = (act t).eval xs[i] := by
                    rw [Array.getD_eq_getD_getElem?, Array.getElem?_append_right (by simp)]
                    simp [hi]
                  rw [h1, h2]; exact this
                · rw [show (v :: (xs.map (evalC a)).toList).getD (i + 1) undef = undef by simp [List.getD_eq_getElem?_getD, Array.getElem?_eq_none (show xs.size ≤ i by omega)]]
                  exact .any _
            · unfold execOp; rw [hop]
              have hd : ∃ k, P.types.size + Made.depth = k + 1 := by
                have h0 : 0 < Made.depth := by decide
                exact ⟨P.types.size + Made.depth - 1, by omega⟩
              obtain ⟨k, hk'⟩ := hd
              have h0 : (#[v'] ++ xs.map (act t).eval : Array Value) = #[v'] ++ xs.map (act t).eval := rfl
              have hex : ((#[(act t).eval recv] ++ xs.map (act t).eval : Array Value)).extract 1 (#[(act t).eval recv] ++ xs.map (act t).eval : Array Value).size = xs.map (act t).eval := by
                apply Array.ext'
                simp [List.take_of_length_le]
              simp only [resolve, pure_bind, invoke]
              have hz : (#[(act t).eval recv] ++ xs.map (act t).eval : Array Value)[0]? = some (.iface ty v') := by rw [Array.getElem?_append_left (by simp)]; simp [hx]
              simp only [hz, hex]
              unfold callMethod
              simp only [program, Sem.run_bind]
              show Result.andThen (Result.andThen (.ok P w) _) _ = _
              simp only [Result.andThen_ok, hk', methOf_run hm]
              unfold callFunc
              simp only [program, Sem.run_bind]
              show Result.andThen (.ok P w) _ = _
              simp only [Result.andThen_ok, hf, hn.1, hn.2]
              rfl
          · cases hc
      · cases hc
  · cases hc

def callOf2 (P : Program) (o : Oper) (a : List Value) : Option (FuncId × List Value) := match callOf o a with
  | some x => some x
  | none => callOfI P o a

theorem OpOk.callE2 {o : Oper} {a : List Value} {m mf' : List Blk} {g : FuncId} {gn : Func} {args : List Value} {r : Value} (E : List Ent) (hc : callOf2 P o a = some (g, args)) (hf : P.funcs[g]? = some gn)
    (hn : ((gn.name == "runtime.NumGoroutine") || gn.body.isNone) = false) (hE : okE E m mf' = true) (hpl : E.all (fun e => !e.plain) = true)
    (h : FnEq P g (downVs E args) (E.map (downB E m)) r mf') : OpOk P o a m (upV (back (kap E) E.length mf'.length m.length) r) (memE E [] m mf') ⟨rdsE E, wrsE E⟩ := by
  have D := callData_of (pl := []) hE (fun e he hp => by have := List.all_eq_true.1 hpl e he; rw [hp] at this; cases this) (fun i hi => by cases hi)
  have hlen : (E.map (downB E m)).length = E.length := by simp
  refine OpOk.callG (κ := kap E) (f := g) (cargs := args) (fun ι t w hs => ?_) (by simp only [downVs_length]) (fun i _ => by
    have := ren_downs E args i
    simpa [List.getD_eq_getElem?_getD] using this) D (by rw [hlen]; exact lift_up _ _) h
  unfold callOf2 at hc
  split at hc
  · rename_i x hx; cases hc; exact callOf_run hx hf hn ι t w hs
  · exact callOfI_run hc hf hn ι t w hs
/-! ### More operations of closed runs -/
theorem run_guard_iface {w : World} (op : BinOp) (t : TypeId) (x y : Operand) (u : TypeId) (v : Value) : (eqGuard op t x y (.iface u v) .nilIface).run P w = .ok () w := by
  cases op <;> simp [eqGuard]
def ifnn (P : Program) (t : TypeId) (v c : Value) : Bool := match v, c with
  | .iface u _, .nilIface => Nat.blt u frzT && P.isIface t
  | _, _ => false
theorem OpOk.ifnn {o : Oper} {a : List Value} {m : List Blk} {op : BinOp} {t ty : TypeId} {x : Operand} {c : Value} (ho : o.op = .binOp op t x (.const c) ty) (hc : okConst x = true) (hop : op = .eql ∨ op = .neq)
    (h : Dt.ifnn P t (evalC a x) c = true) : OpOk P o a m (.bool (decide (op = .neq))) m ⟨[], []⟩ :=
  OpOk.quiet fun ι tt w hs => by
    have hr := rv_operand hs (x := x) (by rw [ho]; simp [Op.operands]) hc
    have hn : (act tt).eval (.const c) = c := rfl
    refine ⟨_, .bool _, ?_⟩
    unfold execOp; rw [ho]
    unfold Dt.ifnn at h
    generalize evalC a x = u at hr h
    generalize hy : (act tt).eval x = y at hr
    split at h
    · rename_i u v
      rw [Bool.and_eq_true] at h
      have hlt : u < frzT := Nat.lt_of_succ_le (Nat.le_of_ble_eq_true h.1)
      obtain ⟨v', rfl, hv'⟩ := hr.iface_inv hlt
      rcases hop with rfl | rfl
      · simp only [hy, hn, Sem.run_bind, run_guard_iface, Result.andThen_ok, run_eql_iface_nil w t h.2]; simp
      · simp only [hy, hn, Sem.run_bind, run_guard_iface, Result.andThen_ok, run_neq_iface_nil w t h.2]; simp
    · cases h
def opX2 (P : Program) (o : Oper) (a : List Value) (m : List Blk) : Option Out :=
  match o.op with
  | .binOp .eql t x (.const c) _ => bif okConst x && ifnn P t (evalC a x) c then some (.bool false, m, ⟨[], []⟩) else none
  | .binOp .neq t x (.const c) _ => bif okConst x && ifnn P t (evalC a x) c then some (.bool true, m, ⟨[], []⟩) else none
  | _ => none
theorem opX2_ok {o : Oper} {a : List Value} {m : List Blk} {v : Value} {m' : List Blk} {fp : Fp} (h : opX2 P o a m = some (v, m', fp)) : OpOk P o a m v m' fp := by
  unfold opX2 at h
  split at h
  · rename_i t x c ty ho
    cases hc : okConst x && ifnn P t (evalC a x) c with
    | false => rw [hc] at h; cases h
    | true =>
      rw [hc, cond_true] at h; cases h
      rw [Bool.and_eq_true] at hc
      exact OpOk.ifnn (op := .eql) ho hc.1 (.inl rfl) hc.2
  · rename_i t x c ty ho
    cases hc : okConst x && ifnn P t (evalC a x) c with
    | false => rw [hc] at h; cases h
    | true =>
      rw [hc, cond_true] at h; cases h
      rw [Bool.and_eq_true] at hc
      exact OpOk.ifnn (op := .neq) ho hc.1 (.inr rfl) hc.2
  · cases h
end

end

section
set_option linter.unusedVariables false
set_option linter.unusedSimpArgs false

section
variable {P : Program}

/-- A call, its callee reckoned: it gets what it can come to. -/
def callE (P : Program) (E : FuncId → Func → List Value → List Blk → Option (Value × List Blk)) (o : Oper) (a : List Value) (m : List Blk) : Option Out :=
  match callOf2 P o a with
  | none => none
  | some (g, args) => match P.funcs[g]? with
    | none => none
    | some gn => bif (gn.name == "runtime.NumGoroutine") || gn.body.isNone then none else
      fnl (reach m 100000 (idsL args) []) fun ids => bif ids.all (ownOf m) then
        fbl ((ids.map Ent.own).map (downB (ids.map Ent.own) m)) fun mf => fvl (downVs (ids.map Ent.own) args) fun vs => match E g gn vs mf with
        | none => none
        | some (v, m1) => fnl (keepG ids.length v m1) fun ks => bif (ks.take ids.length == List.range ids.length) && Nat.ble ids.length ks.length && nodupB ks then
            fv (upV (keepAt ks) v) fun v => fbl (ks.map fun b => upB (keepAt ks) false (m1.getD b .gone)) fun mf' =>
            bif okE (ids.map Ent.own) m mf' then
              fv (upV (back (kap (ids.map Ent.own)) (ids.map Ent.own).length mf'.length m.length) v) fun v => fvc v fun v => fbl (memE (ids.map Ent.own) [] m mf') fun m' =>
                some (v, m', ⟨rdsE (ids.map Ent.own), wrsE (ids.map Ent.own)⟩)
            else none
          else none
      else none

theorem callE_ok {E : FuncId → Func → List Value → List Blk → Option (Value × List Blk)} (hE : ∀ g gn vs mf v m1, P.funcs[g]? = some gn → gn.body.isSome = true → E g gn vs mf = some (v, m1) → FnEq P g vs mf v m1)
    {o : Oper} {a : List Value} {m : List Blk} {v : Value} {m' : List Blk} {fp : Fp} (h : callE P E o a m = some (v, m', fp)) : OpOk P o a m v m' fp := by
  unfold callE at h
  split at h
  · cases h
  · rename_i g args hcall
    split at h
    · cases h
    · rename_i gn hg
      cases hname : ((gn.name == "runtime.NumGoroutine") || gn.body.isNone) with
      | true => rw [hname] at h; cases h
      | false =>
        rw [hname, cond_false, fnl_eq] at h
        generalize reach m 100000 (idsL args) [] = ids at h
        cases hids : ids.all (ownOf m) with
        | false => rw [hids] at h; cases h
        | true =>
          rw [hids, cond_true, fbl_eq, fvl_eq] at h
          split at h
          · cases h
          · rename_i v1 m1 hev
            rw [fnl_eq] at h
            generalize keepG ids.length v1 m1 = ks at h
            cases hks : ((ks.take ids.length == List.range ids.length) && Nat.ble ids.length ks.length && nodupB ks) with
            | false => rw [hks] at h; cases h
            | true =>
              rw [hks, cond_true, fv_eq, fbl_eq] at h
              simp only [Bool.and_eq_true] at hks
              cases hEE : okE (ids.map Ent.own) m (ks.map fun b => upB (keepAt ks) false (m1.getD b .gone)) with
              | false => rw [hEE] at h; cases h
              | true =>
                rw [hEE, cond_true, fv_eq, fvc_eq, fbl_eq] at h
                cases h
                have hbody : gn.body.isSome = true := by
                  rw [Bool.or_eq_false_iff] at hname
                  cases hbb : gn.body with
                  | none => rw [hbb] at hname; cases hname.2
                  | some c => rfl
                have hlen : ((ids.map Ent.own).map (downB (ids.map Ent.own) m)).length = ids.length := by simp
                have hfn := FnEq.gcG ks (hE g gn _ _ _ _ hg hbody hev) (by rw [hlen]; simpa using hks.1.1) (by rw [hlen]; exact hks.1.2) hks.2
                exact OpOk.callE2 (ids.map Ent.own) hcall hg hname hEE (by simp [Ent.plain]) hfn

/-- One operation that the machine leaves: what it gives. -/
def opY (P : Program) (X : Exts) (E : FuncId → Func → List Value → List Blk → Option (Value × List Blk)) (o : Oper) (a : List Value) (m : List Blk) : Option Out :=
  match opX P o a m with
  | some x => some x
  | none => match opX2 P o a m with
  | some x => some x
  | none => match extD P X o a with
    | some v => some (v, m, ⟨[], []⟩)
    | none => callE P E o a m
theorem opY_ok {X : Exts} (hX : ExtOk P X) {E : FuncId → Func → List Value → List Blk → Option (Value × List Blk)} (hE : ∀ g gn vs mf v m1, P.funcs[g]? = some gn → gn.body.isSome = true → E g gn vs mf = some (v, m1) → FnEq P g vs mf v m1)
    {o : Oper} {a : List Value} {m : List Blk} {v : Value} {m' : List Blk} {fp : Fp} (h : opY P X E o a m = some (v, m', fp)) : OpOk P o a m v m' fp := by
  unfold opY at h
  split at h
  · rename_i x hx; cases h; exact opX_ok hx
  split at h
  · rename_i x hx; cases h; exact opX2_ok hx
  · split at h
    · rename_i v1 hv; cases h; exact extD_ok hX hv
    · exact callE_ok hE h

/-! ### Rounds -/
def stopT : VS → Option (List Item × List Value × List Blk)
  | .norm [] a m => some ([], a, m)
  | .norm (.beginRound :: k) a m => some (.beginRound :: k, a, m)
  | _ => none
/-! ### Iterators -/
/-- Is yield called? with what? -/
def yldAt (lb : Nat) (np : Nat) (o : Oper) (a : List Value) : Option (List Value) := match o.op with
  | .call ⟨.value g, xs, _⟩ => match evalC a g with
    | .chan (some b) => bif Nat.beq b lb && okConst g && xs.toList.all okConst && Nat.beq xs.size np then some (xs.map (evalC a)).toList else none
    | _ => none
  | _ => none

def bbnds (n : Nat) (m : List Blk) : Bool := m.all (bbnd n)

end

end

end Go.Dt
