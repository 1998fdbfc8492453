/- Several texts in one: Dt55, Dt59. -/
import Derived.Test.YtdmcdijlpnbghaaGreatDoorQI32
import Derived.Test.YtdmcdijlpnbghaaGreatDoorQI17
namespace Go.Dt

section
set_option linter.unusedVariables false
set_option linter.unusedSimpArgs false

section
variable {P : Program} {f : FuncId} {n0 : Nat}
/-! ### Runs -/
def RunsKN (P : Program) (f : FuncId) (n0 : Nat) (todo : List Item) (a : List Value) (m : List Blk) (v : Value) (m' : List Blk) : Prop :=
  ∀ (D : List Nat), D.Nodup → ∀ (ι : Map) (t : Array Value) (w : World), Rel ι a m t w → JM D ι w → ∀ (b : Frame) (cs : List Frame), b.fn = f → b.kind = .normal → b.roundOf = none →
    ∃ v' w' fr ι', Steps P (lone (b.atR ⟨t, D.map mark⟩ todo) cs w) (lone fr cs w') ∧ fr.fn = f ∧ fr.leaving P w' (.returned v') ∧ RV ι' v v' ∧ Sim ι' (at_ m') w' ∧ (∀ x, ι' x ≠ none → x < m'.length) ∧
      DoneX D n0 ι (at_ m) w ι' (at_ m') w'
def RunsK (P : Program) (f : FuncId) (n0 : Nat) : VS → Value → List Blk → Prop
  | .norm todo a m, v, m' => RunsKN P f n0 todo a m v m'
  | .reg k id ops draw a0 m0 i a m recs, v, m' => (∀ D ι0, RegOkJ P (JN (JM D) ι0 m0.length) ops a0 m0 i a m recs) → RunsKN P f n0 (.code (.region id ops draw) :: k) a0 m0 v m'

theorem RunsKN.pre {todo todo1 : List Item} {a a1 : List Value} {m m1 m' : List Blk} {v : Value} (h : ∀ D, GoF P f (JM D) todo a m todo1 a1 m1) (k : RunsKN P f n0 todo1 a1 m1 v m') : RunsKN P f n0 todo a m v m' := by
  intro D hD ι t w hr hj b cs hb hk hro
  obtain ⟨t1, w1, ι1, s1, r1, j1, e1, n1, l1⟩ := h D ι t w hr hj b cs (D.map mark) hb hk
  obtain ⟨v', w', fr, ι', s2, hfr, hl, hv, hs, hd, hx⟩ := k D hD ι1 t1 w1 r1 j1 b cs hb hk hro
  exact ⟨v', w', fr, ι', Steps.trans s1 s2, hfr, hl, hv, hs, hd, DoneX.ahead e1 hx⟩

theorem RunsK.step {s s' : VS} {v : Value} {m' : List Blk} (hm : P.follows .mixedOrders = true) (hs : vstep P s = some s') (h : RunsK P f n0 s' v m') : RunsK P f n0 s v m' := by
  cases s with
  | norm todo a m =>
    simp only [vstep] at hs
    split at hs
    · cases hs
      exact h (fun D ι0 => RegOkJ.start a m)
    · split at hs
      · rename_i hc
        cases hs
        exact RunsKN.pre (fun D => GoF.ctl hc) h
      · cases hs
  | reg k id ops draw a0 m0 i a m recs =>
    intro hreg
    simp only [vstep] at hs
    split at hs
    · split at hs
      · rename_i hc
        cases hs
        rw [Bool.and_eq_true] at hc
        have hi : i = ops.size := Nat.eq_of_beq_eq_true hc.1
        subst hi
        refine RunsKN.pre (fun D => GoF.region hm (JM.drawn D) (hreg D) (fun hd => ?_) (GoF.refl _ _ _)) h
        have h2 := hc.2
        rw [hd, Bool.not_true, Bool.false_or, Bool.and_eq_true] at h2
        exact h2.1
      · cases hs
    · rename_i o ho
      split at hs
      · rename_i hw
        rw [fl_eq] at hs
        cases hs
        exact h (fun D ι0 => (hreg D ι0).next (.skip ho hw))
      · rename_i hw
        split at hs
        · rename_i v' m1 fp hop
          rw [fv_eq, fl_eq, fl_eq] at hs
          cases hs
          exact h (fun D ι0 => (hreg D ι0).next (.op ho hw ((opA_ok hop).toJ (JM.keeps D) ι0 _ (hreg D ι0).len)))
        · cases hs
      · cases hs

theorem RunsK.op {s : VS} {v : Value} {m' : List Blk} (o : Oper) {u : Value} {m1 : List Blk} {fp : Fp} (hs : opAt s = some o) (ho : OpOk P o s.slots s.mem u m1 fp) (hr : RunsK P f n0 (afterOp s o u m1 fp) v m') : RunsK P f n0 s v m' := by
  cases s with
  | norm todo a m => cases hs
  | reg k id ops draw a0 m0 i a m recs =>
    intro hreg
    simp only [opAt] at hs
    split at hs
    · cases hs
    · rename_i o' ho'
      split at hs
      · rename_i hw
        cases hs
        simp only [afterOp, fl_eq] at hr
        exact hr (fun D ι0 => (hreg D ι0).next (.op ho' hw (ho.toJ (JM.keeps D) ι0 _ (hreg D ι0).len)))
      · cases hs

theorem RunsK.ret {s : VS} {v : Value} {fn : Func} (hf : P.funcs[f]? = some fn) (hs : retOf P fn s = some v) : RunsK P f n0 s v s.mem := by
  cases s with
  | norm todo a m =>
    intro D hD ι t w hr hj b cs hb hk hro
    obtain ⟨v', fr, s1, h1, h2, h3, h4⟩ := ret_go hf hs hr hD hj b cs hb hk hro
    exact ⟨v', shut D w, fr, ι, s1, h1, h2, h3, h4.sim, h4.dom, shut_done D w⟩
  | reg k id ops draw a0 m0 i a m recs => simp [retOf] at hs

theorem rv_opR {ι : Map} {a : List Value} {m : List Blk} {t : Array Value} {w : World} (hr : Rel ι a m t w) {x : Operand} (hc : okConst x = true) : RV ι (evalC a x) ((act t).eval x) := by
  cases x with
  | tmp n => exact hr.slots n
  | const v => exact RV.refl ι v hc
  | global g => exact .any _
  | func f => exact .func _ rfl rfl (fun i => by simpa using RV.any undef) (fun i => by simpa using RV.any undef)

theorem rv_entry {ι : Map} {first first' captured captured' : Array Value} {c c' : Value} {n : Nat} (h1 : first.size = first'.size) (h2 : captured.size = captured'.size) (h3 : ∀ i : Nat, RV ι (first.getD i undef) (first'.getD i undef))
    (h4 : ∀ i : Nat, RV ι (captured.getD i undef) (captured'.getD i undef)) (hc : RV ι c c') (x : Nat) :
    RV ι ((first.toList ++ c :: captured.toList).getD x undef) ((first' ++ #[c'] ++ captured').getD x undef) := by
  simp only [List.getD_eq_getElem?_getD, Array.getD_eq_getD_getElem?]
  by_cases hi : x < first.size
  · rw [List.getElem?_append_left (by simpa using hi), Array.append_assoc, Array.getElem?_append_left (by omega)]
    have := h3 x
    simpa [Array.getD_eq_getD_getElem?] using this
  · rw [List.getElem?_append_right (by simpa using Nat.le_of_not_lt hi)]
    by_cases hi2 : x = first.size
    · subst hi2
      rw [Array.append_assoc, Array.getElem?_append_right (by omega), Array.getElem?_append_left (by simp; omega)]
      simpa [h1] using hc
    · rw [Array.getElem?_append_right (by simp; omega)]
      have := h4 (x - (first.size + 1))
      have e1 : x - first.toList.length = (x - (first.size + 1)) + 1 := by simp; omega
      have e2 : x - (first' ++ #[c']).size = x - (first.size + 1) := by simp; omega
      rw [e1, e2]
      simpa [Array.getD_eq_getD_getElem?] using this

/-- THE LOOP. -/
theorem RunsKN.loop {k : List Item} {g : Operand} {params : Array Tmp} {assign body : Code} {a a' : List Value} {m m1 m' : List Blk} {v u : Value} {fi : FuncId} {gn : Func} {first captured : Array Value} {todo' : List Item}
    (hg : evalC a g = .func (.func fi) first captured) (hcg : okConst g = true) (hfi : P.funcs[fi]? = some gn) (hnum : (gn.name == "runtime.NumGoroutine") = false) (hbody : gn.body.isSome = true)
    (hIt : GoV P fi (JR ⟨f, a, params, assign, body, m.length⟩ .ready) (entry gn (first.toList ++ .chan (some m.length) :: captured.toList) (m ++ [.gone])) todo' a' m1) (hret : retOf P gn (.norm todo' a' m1) = some u)
    (hk : RunsKN P f n0 k a m1 v m') : RunsKN P f n0 (.code (.rangeFunc g params assign body) :: k) a m v m' := by
  intro D hD ι t w hr hj b cs hb hkd hro
  have hgv := rv_opR hr hcg
  rw [hg] at hgv
  generalize hgr : (act t).eval g = gr at hgv
  cases hgv with
  | @func _ _ first' _ captured' h1 h2 h3 h4 =>
    cases hgb : gn.body with
    | none => rw [hgb] at hbody; cases hbody
    | some c =>
      let l := w.heap.size + 1
      let rec0 : Loop := { state := .ready, pending := none, fn := b.fn, tmps := t, params, assign, body, defers := w.heap.size }
      let w2 : World := (w.alloc (.deferred (some []))).alloc (.loop rec0)
      let args' : Array Value := first' ++ #[.func (.yield l) #[] #[]] ++ captured'
      have hw0 : ∀ k, k < w.heap.size → w2.heap[k]? = w.heap[k]? := fun k hk => by
        simp only [w2, World.alloc, Array.getElem?_push, Array.size_push]
        rw [if_neg (by omega), if_neg (by omega)]
      have hwD : w2.heap[w.heap.size]? = some (.deferred (some [])) := by
        simp only [w2, World.alloc, Array.getElem?_push, Array.size_push]
        rw [if_neg (by omega)]; simp
      have hwL : w2.heap[l]? = some (.loop rec0) := by
        show ((w.heap.push _).push _)[w.heap.size + 1]? = _
        have := Array.getElem?_push_size (xs := w.heap.push (.deferred (some []))) (x := .loop rec0)
        rw [Array.size_push] at this
        exact this
      have hw2s : w2.heap.size = w.heap.size + 2 := by
        show ((w.heap.push _).push _).size = _
        simp
      have henter := stepR_rangeFunc (P := P) (b := b) (a := ⟨t, D.map mark⟩) (k := k) (cs := cs) (w := w) (g := g) (ps := params) (assign := assign) (body := body) (w₁ := w2) (w₁' := w2) (w₂ := w2) (l := l) (mark := [mark w.heap.size])
        (d := { target := .fn (.func fi) captured', args := first' ++ #[.func (.yield l) #[] #[]] }) (f := fi) (args := args') (by rw [hro]; exact run_enterLoop_outer (P := P) (w := w) b.fn t params assign body)
        (by
          have hev : (⟨t, D.map mark⟩ : Act).eval g = .func (.func fi) first' captured' := by rw [← hgr]; exact congrFun (eval_actD t (D.map mark)) g
          simp only [resolve, hev, Deferred.ofValue, rangeCall]
          simp [Act.eval])
        (by
          simp only [invoke]
          unfold callFunc
          simp only [program, Sem.run_bind]
          show Result.andThen (.ok P w2) _ = _
          simp only [Result.andThen_ok, hfi, hnum, hgb]
          rfl)
      have hnone : ι m.length = none := by
        cases hx : ι m.length with
        | none => rfl
        | some L => have := hr.dom m.length (by rw [hx]; simp); omega
      let ι1 : Map := upd ι m.length ⟨l, 0, 0, 0, true⟩
      have hle1 : Le ι ι1 := upd_le hnone
      have hat : at_ (m ++ [.gone]) = at_ m := by
        funext x
        unfold at_
        by_cases hx : x < m.length
        · exact getD_append_old m _ hx
        · by_cases hx2 : x = m.length
          · subst hx2
            rw [getD_append_new]
            simp [List.getD_eq_getElem?_getD]
          · rw [show m.getD x .gone = .gone by simp [List.getD_eq_getElem?_getD, List.getElem?_eq_none (Nat.le_of_not_lt hx)]]
            simp [List.getD_eq_getElem?_getD, List.getElem?_eq_none (show (m ++ [Blk.gone]).length ≤ x by simp; omega)]
      have hlv : ∀ {x : Nat}, (at_ m x).live = true → x ≠ m.length := fun {x} hl e => by
        subst e
        simp [at_, List.getD_eq_getElem?_getD, Blk.live] at hl
      have heq1 : ∀ {x : Nat} {L : Loc}, (at_ m x).live = true → ι1 x = some L → ι x = some L := fun {x L} hl h => by
        rw [show ι1 x = ι x from upd_ne (hlv hl)] at h; exact h
      have hsim1 : Sim ι1 (at_ (m ++ [.gone])) w2 := by
        rw [hat]
        refine ⟨fun x => (hr.sim.blk x).keep hle1 fun hl L hL => ?_, fun x x2 L L2 hne ho hl hL hL2 => hr.sim.sep x x2 L L2 hne ho hl (heq1 (Blk.live_of_own ho) hL) (heq1 hl hL2), fun r c h => ?_, fun x L r c ho hL h => hr.sim.apart x L r c ho (heq1 (Blk.live_of_own ho) hL) h, hr.sim.glo⟩
        · obtain ⟨L', hL', hlt⟩ := (hr.sim.blk x).loc hl
          rw [hL] at hL'; cases hL'
          exact hw0 _ hlt
        · obtain ⟨ty, fz, hh⟩ := hr.sim.fro r c h
          exact ⟨ty, fz, (hw0 _ (Array.getElem?_eq_some_iff.1 hh).1).trans hh⟩
      have hext1 : Ext ι (at_ m) w ι1 (at_ (m ++ [.gone])) w2 := by
        rw [hat]
        exact ⟨hle1, by rw [hw2s]; omega, rfl, rfl, rfl, fun k hk _ => hw0 k hk, fun k ⟨x, L, g1, g2, g3⟩ => .inl ⟨x, L, g1, heq1 (Blk.live_of_own g1) g2, g3⟩, fun k ⟨x, L, g1, g2, g3⟩ => .inl ⟨x, L, g1, heq1 g1 g2, g3⟩, fun _ _ h => .inl h⟩
      -- the iterator's frame
      let b' : Frame := { (default : Frame) with fn := fi, kind := .normal, roundOf := none }
      let tm : Array Value := args' ++ Array.replicate (gn.ntmps - args'.size) undef
      have hfr : Frame.enter P fi args' .normal = b'.atR ⟨tm, []⟩ [.code c] := by
        simp [Frame.enter, Frame.atR, hfi, hgb, b', tm]
      simp only [entry, hgb, fl_eq] at hIt
      have hlen : args'.size = (first.toList ++ Value.chan (some m.length) :: captured.toList).length := by simp [args']; omega
      have hyl : RV ι1 (.chan (some m.length)) (.func (.yield l) #[] #[]) := RV.yld (L := ⟨l, 0, 0, 0, true⟩) (upd_self _ _ _)
      have hargs : ∀ x : Nat, RV ι1 ((first.toList ++ Value.chan (some m.length) :: captured.toList).getD x undef) (args'.getD x undef) :=
        fun x => rv_entry h1 h2 (fun i => (h3 i).mono hle1) (fun i => (h4 i).mono hle1) hyl (n := 0) x
      have hrelI : Rel ι1 ((first.toList ++ Value.chan (some m.length) :: captured.toList) ++ List.replicate (gn.ntmps - (first.toList ++ Value.chan (some m.length) :: captured.toList).length) undef) (m ++ [.gone]) tm w2 := by
        refine ⟨by simp only [tm, List.length_append, List.length_replicate, Array.size_append, Array.size_replicate] at hlen ⊢; omega, fun x => ?_, hsim1, fun x hx => ?_⟩
        · simp only [List.getD_eq_getElem?_getD, Array.getD_eq_getD_getElem?, tm]
          by_cases hx : x < (first.toList ++ Value.chan (some m.length) :: captured.toList).length
          · rw [List.getElem?_append_left hx, Array.getElem?_append_left (by omega)]
            have := hargs x
            simpa only [List.getD_eq_getElem?_getD, Array.getD_eq_getD_getElem?] using this
          · rw [List.getElem?_append_right (by omega)]
            have : ∀ q j : Nat, (List.replicate q undef)[j]?.getD undef = undef := fun q j => by
              rw [List.getElem?_replicate]
              split <;> rfl
            rw [this]; exact .any _
        · rw [List.length_append]
          by_cases hx2 : x = m.length
          · simp [hx2]
          · rw [show ι1 x = ι x from upd_ne hx2] at hx
            have := hr.dom x hx
            simp; omega
      have hjI : JR ⟨f, a, params, assign, body, m.length⟩ .ready ι1 w2 :=
        ⟨⟨l, 0, 0, 0, true⟩, rec0, upd_self _ _ _, hwL, rfl, rfl, hb, rfl, rfl, rfl, hr.size, fun x => (hr.slots x).mono hle1⟩
      obtain ⟨t3, w3, ι3, s3, r3, j3, e3, n3, l3⟩ := hIt ι1 tm w2 hrelI hjI b' (b.atR { (⟨t, D.map mark⟩ : Act) with defers := [mark w.heap.size] ++ D.map mark } (.inRangeFunc l :: k) :: cs) [] rfl rfl
      obtain ⟨v4, fr4, s4, h41, h42, h43, h44⟩ := ret_go (P := P) hfi hret r3 (D := []) List.nodup_nil (fun d hd => by cases hd) b' (b.atR { (⟨t, D.map mark⟩ : Act) with defers := [mark w.heap.size] ++ D.map mark } (.inRangeFunc l :: k) :: cs) rfl rfl rfl
      have s5 := step_leave_returned (P := P) (c := b.atR { (⟨t, D.map mark⟩ : Act) with defers := [mark w.heap.size] ++ D.map mark } (.inRangeFunc l :: k)) (cs := cs) h42
      rw [finish_atR_inRangeFunc] at s5
      obtain ⟨L3, rec3, g1, g2, g3, g4, g5⟩ := j3
      have hL3 : L3 = ⟨l, 0, 0, 0, true⟩ := by
        have := e3.le _ _ (upd_self ι m.length ⟨l, 0, 0, 0, true⟩)
        have g1' : ι3 m.length = some L3 := g1
        rw [this] at g1'; cases g1'; rfl
      subst hL3
      have s6 := stepR_endRangeFunc (P := P) (b := b) (a := { (⟨t, D.map mark⟩ : Act) with defers := [mark w.heap.size] ++ D.map mark }) (k := k) (cs := cs) (run_endLoop g2 (by rw [g3]; intro h; cases h))
      rw [g4] at s6
      let w4 : World := w3.putObj l (.loop { rec3 with state := .exhausted, pending := none })
      have hDfree : w.heap.size ∉ D := fun h => by have := hj.lt h; omega
      have hk3 : JM (w.heap.size :: D) ι3 w4 := fun d hd => by
        have hdl : d ≠ l := by
          rcases List.mem_cons.1 hd with e | h
          · simp only [l]; omega
          · have := hj.lt h; simp only [l]; omega
        rw [show w4.heap[d]? = w3.heap[d]? from World.putObj_heap_other hdl]
        have h2 : w2.heap[d]? = some (.deferred (some [])) := by
          rcases List.mem_cons.1 hd with e | h
          · rw [e]; exact hwD
          · exact (hw0 _ (hj.lt h)).trans (hj d h)
        exact (e3.frame _ (Array.getElem?_eq_some_iff.1 h2).1 (not_own_def hsim1 h2)).trans h2
      have hrel4 : Rel ι3 a m1 t w4 := ⟨hr.size, fun x => ((hr.slots x).mono hle1).mono e3.le, r3.sim.putObj g2 (fun _ _ _ e => by cases e) (fun _ _ e => by cases e), r3.dom⟩
      have eA := hext1.trans e3
      have e4 : Ext ι (at_ m) w ι3 (at_ m1) w4 := ⟨eA.le, by have := eA.size; simpa [w4] using this, eA.os, eA.tape, eA.output, fun k hk hno => by
          have : k ≠ l := by simp only [l]; omega
          exact (World.putObj_heap_other this).trans (eA.frame k hk hno), eA.own, eA.live, eA.fro⟩
      obtain ⟨v', w', fr, ι', s7, q1, q2, q3, q4, q5, q6⟩ := hk (w.heap.size :: D) (List.nodup_cons.2 ⟨hDfree, hD⟩) ι3 t w4 hrel4 hk3 b cs hb hkd hro
      refine ⟨v', w', fr, ι', ?_, q1, q2, q3, q4, q5, (DoneX.ahead e4 q6).less (Nat.le_refl _)⟩
      refine .head henter ?_
      rw [hfr]
      refine Steps.trans s3 (Steps.trans s4 (.head s5 (.head s6 ?_)))
      exact s7

theorem FnEq.of_runsK {fn : Func} {args : List Value} {m m' : List Blk} {v : Value} (hf : P.funcs[f]? = some fn) (hb : fn.body.isSome = true) (h : RunsK P f m.length (entry fn args m) v m') : FnEq P f args m v m' := by
  intro ι args' w hsz hargs hsim hdom cs
  cases hbody : fn.body with
  | none => simp [hbody] at hb
  | some c =>
    simp only [entry, hbody, fl_eq] at h
    let b : Frame := { (default : Frame) with fn := f, kind := .normal, roundOf := none }
    have henter : Frame.enter P f args' .normal = b.atR ⟨args' ++ Array.replicate (fn.ntmps - args'.size) undef, ([] : List Nat).map mark⟩ [.code c] := by
      simp [Frame.enter, Frame.atR, hf, hbody, b]
    obtain ⟨v', w', fr, ι', h1, h2, h3, h4, h5, h6, h7⟩ := h [] List.nodup_nil ι (args' ++ Array.replicate (fn.ntmps - args'.size) undef) w ⟨by simp; omega, fun x => by
        simp only [List.getD_eq_getElem?_getD, Array.getD_eq_getD_getElem?]
        by_cases hx : x < args.length
        · rw [List.getElem?_append_left hx, Array.getElem?_append_left (by omega)]
          have := hargs x
          simpa [List.getD_eq_getElem?_getD] using this
        · rw [List.getElem?_append_right (by omega)]
          have : (List.replicate (fn.ntmps - args.length) undef)[x - args.length]?.getD undef = undef := by
            rw [List.getElem?_replicate]
            split <;> rfl
          rw [this]; exact .any _, hsim, hdom⟩ (fun d hd => by cases hd) b cs rfl rfl rfl
    exact ⟨.returned v', w', fr, ⟨v', ι', rfl, h4, h5, h6, ⟨⟨fun b L hb => h7.le b L (hdom b (by simp [hb])) hb, h7.lef⟩, h7.size, h7.os, h7.tape, h7.output, fun k hk hn => h7.frame k hk hn (by simp), h7.own, h7.live, h7.fro⟩⟩, by rw [henter]; exact h1, h2, h3⟩

end

end

section
set_option linter.unusedVariables false
set_option linter.unusedSimpArgs false

section
variable {P : Program}

/-- Bytes to a string, where they are known. -/
def opZ (P : Program) (o : Oper) (a : List Value) (m : List Blk) : Option Out := match o.op with
  | .convert src dst x => bif okConst x then (match evalC a x, P.underlying src, P.underlying dst with
    | .slice (some ⟨b, off, none⟩) n _, some (.slice e), some .string => (match P.underlying e, m[b]? with
      | some (.int .u8), some (.cells c _ _) => bif Nat.ble (off + n) c.length && allU8 ((c.drop off).take n) then some (.string (strN (bytesC ((c.drop off).take n)) .empty), m, ⟨[b], []⟩) else none
      | _, _ => none)
    | _, _, _ => none) else none
  | _ => none
theorem opZ_ok {o : Oper} {a : List Value} {m : List Blk} {v : Value} {m' : List Blk} {fp : Fp} (h : opZ P o a m = some (v, m', fp)) : OpOk P o a m v m' fp := by
  unfold opZ at h
  split at h
  · rename_i src dst x hop
    cases hc : okConst x with
    | false => rw [hc] at h; cases h
    | true =>
      rw [hc, cond_true] at h
      split at h
      · rename_i b off n cap e hx hs1 hs2
        split at h
        · rename_i c sz rw_ hs3 hb
          cases hf : Nat.ble (off + n) c.length && allU8 ((c.drop off).take n) with
          | false => rw [hf] at h; cases h
          | true =>
            rw [hf, cond_true] at h
            rw [Bool.and_eq_true] at hf
            cases h
            exact OpOk.bytesOwn hop hc hx hb hs1 hs2 hs3 (Nat.le_of_ble_eq_true hf.1) hf.2
        · cases h
      · cases h
  · cases h
def opW (P : Program) (X : Exts) (E : FuncId → Func → List Value → List Blk → Option (Value × List Blk)) (o : Oper) (a : List Value) (m : List Blk) : Option Out := match opZ P o a m with
  | some x => some x
  | none => opY P X E o a m
theorem opW_ok {X : Exts} (hX : ExtOk P X) {E : FuncId → Func → List Value → List Blk → Option (Value × List Blk)} (hE : ∀ g gn vs mf v m1, P.funcs[g]? = some gn → gn.body.isSome = true → E g gn vs mf = some (v, m1) → FnEq P g vs mf v m1)
    {o : Oper} {a : List Value} {m : List Blk} {v : Value} {m' : List Blk} {fp : Fp} (h : opW P X E o a m = some (v, m', fp)) : OpOk P o a m v m' fp := by
  unfold opW at h
  split at h
  · rename_i x hx; cases h; exact opZ_ok hx
  · exact opY_ok hX hE h

/-- Calls of which it is known what they do. -/
abbrev Hk := FuncId → List Value → List Blk → Option (Value × List Blk)
def HkOk (P : Program) (K : Hk) : Prop := ∀ g gn vs mf v m1, P.funcs[g]? = some gn → gn.body.isSome = true → K g vs mf = some (v, m1) → FnEq P g vs mf v m1
theorem hkE {K : Hk} (hK : HkOk P K) {F : FuncId → Func → List Value → List Blk → Option (Value × List Blk)} (hF : ∀ g gn vs mf v m1, P.funcs[g]? = some gn → gn.body.isSome = true → F g gn vs mf = some (v, m1) → FnEq P g vs mf v m1) :
    ∀ g gn vs mf v m1, P.funcs[g]? = some gn → gn.body.isSome = true → (match K g vs mf with | some r => some r | none => F g gn vs mf) = some (v, m1) → FnEq P g vs mf v m1 := fun g gn vs mf v m1 hg hb h => by
  split at h
  · rename_i r hr
    cases h
    exact hK g gn vs mf v m1 hg hb hr
  · exact hF g gn vs mf v m1 hg hb h
/-- A table of such calls. -/
structure Known where
  g : FuncId
  vs : List Value
  mf : List Blk
  v : Value
  m1 : List Blk
def eqBk : Blk → Blk → Bool
  | .cells c sz rw_, .cells c' sz' rw' => eqVs c c' && Nat.beq sz sz' && (rw_ == rw')
  | b, b' => eqBlk b b'
theorem eqBk_ok : ∀ (x y : Blk), eqBk x y = true → x = y := fun x y h => by
  unfold eqBk at h
  split at h
  · simp only [Bool.and_eq_true] at h
    rw [eqVs_ok _ _ h.1.1, Nat.eq_of_beq_eq_true h.1.2, eq_of_beq h.2]
  · exact eqBlk_ok _ _ h
def eqBs : List Blk → List Blk → Bool
  | [], [] => true
  | b :: l, b' :: l' => eqBk b b' && eqBs l l'
  | _, _ => false
theorem eqBs_ok : ∀ (l l' : List Blk), eqBs l l' = true → l = l'
  | [], [], _ => rfl
  | b :: l, b' :: l', h => by
    simp only [eqBs, Bool.and_eq_true] at h
    rw [eqBk_ok b b' h.1, eqBs_ok l l' h.2]
  | [], _ :: _, h => by cases h
  | _ :: _, [], h => by cases h
def tabK : List Known → Hk
  | [], _, _, _ => none
  | k :: l, g, vs, mf => bif Nat.beq k.g g && eqVs k.vs vs && eqBs k.mf mf then some (k.v, k.m1) else tabK l g vs mf
theorem tabK_ok : ∀ {l : List Known}, (∀ k, k ∈ l → FnEq P k.g k.vs k.mf k.v k.m1) → HkOk P (tabK l)
  | [], _ => fun g gn vs mf v m1 _ _ h => by cases h
  | k :: l, hl => fun g gn vs mf v m1 hg hb h => by
    unfold tabK at h
    cases hc : Nat.beq k.g g && eqVs k.vs vs && eqBs k.mf mf with
    | true =>
      rw [hc, cond_true] at h
      simp only [Bool.and_eq_true] at hc
      cases h
      have h0 := hl k (by simp)
      rw [Nat.eq_of_beq_eq_true hc.1.1, eqVs_ok _ _ hc.1.2, eqBs_ok _ _ hc.2] at h0
      exact h0
    | false =>
      rw [hc, cond_false] at h
      exact tabK_ok (fun k hk => hl k (by simp [hk])) g gn vs mf v m1 hg hb h

def evalT2 (P : Program) (X : Exts) (E : FuncId → Func → List Value → List Blk → Option (Value × List Blk)) : Nat → VS → Option (List Item × List Value × List Blk)
  | 0, _ => none
  | n + 1, s => match stopT s with
    | some r => some r
    | none => match vstepC P s with
      | some s' => evalT2 P X E n s'
      | none => match opAt s with
        | none => none
        | some o => match opW P X E o s.slots s.mem with
          | some (v, m', fp) => fv v fun v => fvc v fun v => fbl m' fun m' => evalT2 P X E n (afterOp s o v m' fp)
          | none => none
theorem evalT2_ok {J : Map → World → Prop} (hm : P.follows .mixedOrders = true) {X : Exts} (hX : ExtOk P X) {E : FuncId → Func → List Value → List Blk → Option (Value × List Blk)} (hE : ∀ g gn vs mf v m1, P.funcs[g]? = some gn → gn.body.isSome = true → E g gn vs mf = some (v, m1) → FnEq P g vs mf v m1) (hK : Keeps J) (hD : Drawn J) : ∀ (n : Nat) {f : FuncId} {s : VS} {todo' : List Item} {a' : List Value} {m' : List Blk}, evalT2 P X E n s = some (todo', a', m') → GoV P f J s todo' a' m'
  | 0, _, _, _, _, _, h => by cases h
  | n + 1, f, s, todo', a', m', h => by
    unfold evalT2 at h
    split at h
    · rename_i r hs
      cases h
      unfold stopT at hs
      split at hs
      · cases hs; exact GoF.refl _ _ _
      · cases hs; exact GoF.refl _ _ _
      · cases hs
    · split at h
      · rename_i s' hs
        rw [vstepC_eq] at hs
        exact GoV.step hm hK hD hs (evalT2_ok hm hX hE hK hD n h)
      · split at h
        · cases h
        · rename_i o ho
          split at h
          · rename_i v1 m1 fp hy
            rw [fv_eq, fvc_eq, fbl_eq] at h
            exact GoV.op hK o ho (opW_ok hX hE hy) (evalT2_ok hm hX hE hK hD n h)
          · cases h

def evalI2 (P : Program) (X : Exts) (E : FuncId → Func → List Value → List Blk → Option (Value × List Blk)) (Y : YC) (fn : Func) : Nat → VS → Option (List Item × List Value × List Blk)
  | 0, _ => none
  | n + 1, s => match retOf P fn s with
    | some _ => match s with
      | .norm todo a m => some (todo, a, m)
      | _ => none
    | none => match vstepC P s with
      | some s' => evalI2 P X E Y fn n s'
      | none => match opAt s with
        | none => none
        | some o => match yldAt Y.lb Y.params.size o s.slots with
          | some args => fvl (setP Y.params.toList args Y.ac) fun a1 =>
            bif bnds s.mem.length a1 && bnds s.mem.length Y.ac && bbnds s.mem.length s.mem && Nat.blt Y.lb s.mem.length then
              match evalT2 P X E n (.norm [.code Y.assign, .beginRound, .code Y.body] a1 s.mem) with
              | some (.beginRound :: k1, a2, m2) => match evalT2 P X E n (.norm k1 a2 m2) with
                | some ([], a3, m3) => bif Nat.ble s.mem.length m3.length then fbl m3 fun m3 => evalI2 P X E Y fn n (afterOp s o (.bool true) m3 ⟨List.range s.mem.length, List.range s.mem.length⟩) else none
                | _ => none
              | _ => none
            else none
          | none => match opW P X E o s.slots s.mem with
            | some (v, m', fp) => fv v fun v => fvc v fun v => fbl m' fun m' => evalI2 P X E Y fn n (afterOp s o v m' fp)
            | none => none

theorem evalI2_ok (hm : P.follows .mixedOrders = true) {X : Exts} (hX : ExtOk P X) {E : FuncId → Func → List Value → List Blk → Option (Value × List Blk)} (hE : ∀ g gn vs mf v m1, P.funcs[g]? = some gn → gn.body.isSome = true → E g gn vs mf = some (v, m1) → FnEq P g vs mf v m1) (Y : YC) {fn : Func} : ∀ (n : Nat) {f : FuncId} {s : VS} {todo' : List Item} {a' : List Value} {m' : List Blk}, evalI2 P X E Y fn n s = some (todo', a', m') →
    GoV P f (JR Y .ready) s todo' a' m' ∧ ∃ v, retOf P fn (.norm todo' a' m') = some v
  | 0, _, _, _, _, _, h => by cases h
  | n + 1, f, s, todo', a', m', h => by
    unfold evalI2 at h
    split at h
    · rename_i v hret
      split at h
      · cases h; exact ⟨GoF.refl _ _ _, v, hret⟩
      · cases h
    · split at h
      · rename_i s' hs
        rw [vstepC_eq] at hs
        obtain ⟨h1, h2⟩ := evalI2_ok hm hX hE Y n (f := f) h
        exact ⟨GoV.step hm (JR.keeps _ _) (JR.drawn _ _) hs h1, h2⟩
      · split at h
        · cases h
        · rename_i o ho
          split at h
          · rename_i args hy
            rw [fvl_eq] at h
            cases hc : bnds s.mem.length (setP Y.params.toList args Y.ac) && bnds s.mem.length Y.ac && bbnds s.mem.length s.mem && Nat.blt Y.lb s.mem.length with
            | false => rw [hc] at h; cases h
            | true =>
              rw [hc, cond_true] at h
              simp only [Bool.and_eq_true] at hc
              split at h
              · rename_i k1 a2 m2 h1
                split at h
                · rename_i a3 m3 h2
                  cases hl : Nat.ble s.mem.length m3.length with
                  | false => rw [hl] at h; cases h
                  | true =>
                    rw [hl, cond_true, fbl_eq] at h
                    obtain ⟨g1, g2⟩ := evalI2_ok hm hX hE Y n (f := f) h
                    refine ⟨GoV.opJ o ho (fun ι0 q hq => ?_) g1, g2⟩
                    unfold yldAt at hy
                    split at hy
                    · rename_i g xs ts hop
                      split at hy
                      · rename_i b hgv
                        cases hcc : Nat.beq b Y.lb && okConst g && xs.toList.all okConst && Nat.beq xs.size Y.params.size with
                        | false => rw [hcc] at hy; cases hy
                        | true =>
                          rw [hcc, cond_true] at hy
                          cases hy
                          simp only [Bool.and_eq_true] at hcc
                          have hb := Nat.eq_of_beq_eq_true hcc.1.1.1
                          subst hb
                          exact OpOkJ.yield hq hop hgv hcc.1.1.2 hcc.1.2 (Nat.eq_of_beq_eq_true hcc.2) hc.1.1.1 hc.1.1.2 (fun b hb => bbnd_ok (by
                            have := List.all_eq_true.1 hc.1.2 (s.mem.getD b .gone) (by simp [List.getD_eq_getElem?_getD, hb])
                            exact this)) (Nat.lt_of_succ_le (Nat.le_of_ble_eq_true hc.2)) (Nat.le_of_ble_eq_true hl)
                            (evalT2_ok hm hX hE (JR.keeps _ _) (JR.drawn _ _) n h1) (evalT2_ok hm hX hE (JR.keeps _ _) (JR.drawn _ _) n h2)
                      · cases hy
                    · cases hy
                · cases h
              · cases h
          · split at h
            · rename_i v1 m1 fp hy
              rw [fv_eq, fvc_eq, fbl_eq] at h
              obtain ⟨g1, g2⟩ := evalI2_ok hm hX hE Y n (f := f) h
              exact ⟨GoV.op (JR.keeps _ _) o ho (opW_ok hX hE hy) g1, g2⟩
            · cases h
/-- A run with ranges over functions. -/
def evalHk (P : Program) (X : Exts) (K : Hk) : Nat → FuncId → Func → VS → Option (Value × List Blk)
  | 0, _, _, _ => none
  | n + 1, f, fn, s => match retOf P fn s with
    | some v => some (v, s.mem)
    | none => match s with
      | .norm (.code (.rangeFunc g params assign body) :: k) a m => match evalC a g with
        | .func (.func fi) first captured => match P.funcs[fi]? with
          | none => none
          | some gn => bif okConst g && !(gn.name == "runtime.NumGoroutine") && gn.body.isSome then
              match evalI2 P X (fun g gn vs mf => match K g vs mf with | some r => some r | none => evalHk P X K n g gn (entry gn vs mf)) ⟨f, a, params, assign, body, m.length⟩ gn n (entry gn (first.toList ++ .chan (some m.length) :: captured.toList) (m ++ [.gone])) with
              | some (_, _, m1) => fbl m1 fun m1 => evalHk P X K n f fn (.norm k a m1)
              | none => none
            else none
        | _ => none
      | s => match vstepC P s with
        | some s' => evalHk P X K n f fn s'
        | none => match opAt s with
          | none => none
          | some o => match opW P X (fun g gn vs mf => match K g vs mf with | some r => some r | none => evalHk P X K n g gn (entry gn vs mf)) o s.slots s.mem with
            | some (v, m', fp) => fv v fun v => fvc v fun v => fbl m' fun m' => evalHk P X K n f fn (afterOp s o v m' fp)
            | none => none

variable {f : FuncId}
theorem evalHk_ok (hm : P.follows .mixedOrders = true) {X : Exts} (hX : ExtOk P X) {K : Hk} (hK : HkOk P K) : ∀ (n : Nat) {f : FuncId} {n0 : Nat} {fn : Func} {s : VS} {v : Value} {m' : List Blk}, P.funcs[f]? = some fn → evalHk P X K n f fn s = some (v, m') → RunsK P f n0 s v m'
  | 0, _, _, _, _, _, _, _, h => by cases h
  | n + 1, f, n0, fn, s, v, m', hf, h => by
    unfold evalHk at h
    split at h
    · rename_i hret
      cases h
      exact RunsK.ret hf hret
    · split at h
      · rename_i g params assign body k a m _
        split at h
        · rename_i fi first captured hg
          split at h
          · cases h
          · rename_i gn hfi
            cases hc : (okConst g && !(gn.name == "runtime.NumGoroutine") && gn.body.isSome) with
            | false => rw [hc] at h; cases h
            | true =>
              rw [hc, cond_true] at h
              simp only [Bool.and_eq_true, Bool.not_eq_true'] at hc
              split at h
              · rename_i td a1 m1 hI
                rw [fbl_eq] at h
                obtain ⟨g1, u, g2⟩ := evalI2_ok hm hX (hkE hK fun g gn vs mf v m1 hg hb he => FnEq.of_runsK hg hb (evalHk_ok hm hX hK n hg he)) _ n (f := fi) hI
                exact RunsKN.loop hg hc.1.1 hfi hc.1.2 hc.2 g1 g2 (evalHk_ok (n0 := n0) hm hX hK n hf h)
              · cases h
        · cases h
      · split at h
        · rename_i s' hs
          rw [vstepC_eq] at hs
          exact RunsK.step hm hs (evalHk_ok hm hX hK n hf h)
        · split at h
          · cases h
          · rename_i o ho
            split at h
            · rename_i v1 m1 fp hy
              rw [fv_eq, fvc_eq, fbl_eq] at h
              exact RunsK.op o ho (opW_ok hX (hkE hK fun g gn vs mf v m1 hg hb he => FnEq.of_runsK hg hb (evalHk_ok hm hX hK n hg he)) hy) (evalHk_ok hm hX hK n hf h)
            · cases h

/-- A function's contract, by a run. -/
theorem FnEq.evalHk (hm : P.follows .mixedOrders = true) {X : Exts} (hX : ExtOk P X) {K : Hk} (hK : HkOk P K) {fn : Func} {args : List Value} {v : Value} (n : Nat) (hf : P.funcs[f]? = some fn) (hb : fn.body.isSome = true) (hv : plain v = true)
    (h : (match Dt.evalHk P X K n f fn (entry fn args []) with | some (u, _) => some u | none => none) = some v) : FnEq P f args [] v [] := by
  split at h
  · rename_i u m' he
    cases h
    exact FnEq.pure (FnEq.of_runsK hf hb (evalHk_ok hm hX hK n hf he)) hv
  · cases h
end

end

end Go.Dt
