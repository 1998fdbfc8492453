/- Operations: new variables, aggregates built, lengths. Contracts of functions; calls: the callee's small memory within the caller's. -/
import Derived.Test.YtjfodgjgpeiaaaaDt6
namespace Go.Dt
open Go.Instr

section
variable {P : Program} {o : Oper} {a : List Value} {m : List Blk}

def notTuple : Value → Bool
  | .tuple _ | .chan _ => false
  | _ => true

theorem cells_rv {ι : Map} {v v' : Value} (h : RV ι v v') (hn : notTuple v = true) : v.cells.size = v'.cells.size ∧ ∀ i : Nat, RV ι (v.cells.getD i undef) (v'.cells.getD i undef) := by
  have single : ∀ {u u' : Value}, RV ι u u' → u.cells = #[u] → u'.cells = #[u'] → u.cells.size = u'.cells.size ∧ ∀ i : Nat, RV ι (u.cells.getD i undef) (u'.cells.getD i undef) := by
    intro u u' hr h1 h2
    rw [h1, h2]
    refine ⟨rfl, fun i => ?_⟩
    cases i with
    | zero => simpa using hr
    | succ i => simpa using RV.any undef
  cases h with
  | agg hs hh => exact ⟨hs, hh⟩
  | any => simp [notTuple, undef] at hn
  | skip => simp [notTuple] at hn
  | tuple => simp [notTuple] at hn
  | bool b => exact single (.bool b) rfl rfl
  | int k n => exact single (.int k n) rfl rfl
  | float k n => exact single (.float k n) rfl rfl
  | string s => exact single (.string s) rfl rfl
  | nilp => exact single .nilp rfl rfl
  | ptr h => exact single (.ptr h) rfl rfl
  | nils l c => exact single (.nils l c) rfl rfl
  | slice h h1 h2 => exact single (.slice h h1 h2) rfl rfl
  | slice0 x y => exact single (.slice0 x y) rfl rfl
  | nilm => exact single .nilm rfl rfl
  | map h => exact single (.map h) rfl rfl
  | func fn h1 h2 h3 h4 => exact single (.func fn h1 h2 h3 h4) rfl rfl
  | nilFunc => exact single .nilFunc rfl rfl
  | iface t ht h => exact single (.iface t ht h) rfl rfl
  | frz h h1 h2 h3 h4 => exact single (.frz h h1 h2 h3 h4) rfl rfl
  | frzN => exact single .frzN rfl rfl
  | frzE x cap => exact single (.frzE x cap) rfl rfl
  | empN => exact single .empN rfl rfl
  | empE x => exact single (.empE x) rfl rfl
  | anyB b => exact single (.anyB b) rfl rfl
  | frp h h1 h2 h3 => exact single (.frp h h1 h2 h3) rfl rfl
  | nilIface => exact single .nilIface rfl rfl

theorem OpOk.box {t : TypeId} {x : Operand} (ho : o.op = .box t x) (hc : okConst x = true) (hn : notTuple (evalC a x) = true) :
    OpOk P o a m (.pointer (some ⟨m.length, 0, none⟩)) (m ++ [.cells (evalC a x).cells.toList 0 true]) ⟨[], []⟩ :=
  OpOk.makes fun ι tt w hs => by
    have h := rv_operand hs (x := x) (by rw [ho]; simp [Op.operands]) hc
    obtain ⟨h1, h2⟩ := cells_rv h hn
    refine ⟨.pointer (some ⟨w.heap.size, 0, none⟩), ((act tt).eval x).cells, t, by simp [h1], fun i _ => ?_, fun ι' hle hι => ?_, ?_⟩
    · have := h2 i
      simpa [List.getD_eq_getElem?_getD] using this
    · exact RV.ptr (o := 0) hι
    · unfold execOp; rw [ho]
      simp [Instr.box, newVar, newRow, newObj, Sem.run]

theorem OpOk.alloc {t : TypeId} {i : TypeInfo} {z : Value} (ho : o.op = .alloc t) (hi : P.info? t = some i) (hz : i.zero = some z) (hp : plains z.cells.toList = true) :
    OpOk P o a m (.pointer (some ⟨m.length, 0, none⟩)) (m ++ [.cells z.cells.toList 0 true]) ⟨[], []⟩ :=
  OpOk.makes fun ι tt w hs => by
    refine ⟨.pointer (some ⟨w.heap.size, 0, none⟩), z.cells, t, by simp, fun j hj => ?_, fun ι' hle hι => ?_, ?_⟩
    · have := RV.refl ι _ (plains_get hp hj)
      have e : z.cells.toList.getD j undef = z.cells.getD j undef := by simp [List.getD_eq_getElem?_getD]
      rw [← e]; exact this
    · exact RV.ptr (o := 0) hι
    · unfold execOp; rw [ho]
      simp [Instr.alloc, zeroValue, run_info hi, hz, newVar, newRow, newObj, Sem.run]

theorem pureEval_bind {α β : Type} (s : Sem α) (f : α → Sem β) : pureEval P (s >>= f) = (pureEval P s).bind fun x => pureEval P (f x) := by
  show pureEval P (Sem.bind s f) = _
  induction s with
  | pure a => rfl
  | program k ih => simp only [Sem.bind, pureEval]; exact ih P
  | _ => rfl

@[simp] theorem pureEval_pure {α : Type} (x : α) : pureEval P (Pure.pure x : Sem α) = some x := rfl
@[simp] theorem pureEval_pure' {α : Type} (x : α) : pureEval P (Sem.pure x) = some x := rfl

/-! ### Aggregates built -/
def Rows (ι : Map) (cs cs' : Array Value) : Prop := cs.size = cs'.size ∧ ∀ i : Nat, RV ι (cs.getD i undef) (cs'.getD i undef)

theorem Rows.set {ι : Map} {cs cs' : Array Value} {v v' : Value} (h : Rows ι cs cs') (hv : RV ι v v') (j : Nat) : Rows ι (cs.setIfInBounds j v) (cs'.setIfInBounds j v') := by
  refine ⟨by simp [h.1], fun i => ?_⟩
  have hi := h.2 i
  simp only [Array.getD_eq_getD_getElem?, Array.getElem?_setIfInBounds] at hi ⊢
  by_cases hji : j = i
  · subst hji
    simp only [if_true, h.1]
    by_cases hlt : j < cs'.size
    · simpa [hlt] using hv
    · simpa [hlt] using RV.any undef
  · simpa [hji] using hi

theorem Rows.fold {ι : Map} {off : Nat} : ∀ (l l' : List (Value × Nat)) (cs cs' : Array Value), l.length = l'.length → (∀ (i : Nat) (p p' : Value × Nat), l[i]? = some p → l'[i]? = some p' → RV ι p.1 p'.1 ∧ p.2 = p'.2) → Rows ι cs cs' →
    Rows ι (l.foldl (fun cs (c, j) => cs.setIfInBounds (off + j) c) cs) (l'.foldl (fun cs (c, j) => cs.setIfInBounds (off + j) c) cs')
  | [], [], _, _, _, _, h => h
  | [], _ :: _, _, _, hl, _, _ => by simp at hl
  | _ :: _, [], _, _, hl, _, _ => by simp at hl
  | (c, j) :: l, (c', j') :: l', cs, cs', hl, hh, h => by
    obtain ⟨h1, h2⟩ := hh 0 _ _ rfl rfl
    simp only at h1 h2
    subst h2
    simp only [List.foldl_cons]
    exact Rows.fold l l' _ _ (by simpa using hl) (fun i p p' hp hp' => hh (i + 1) p p' (by simpa using hp) (by simpa using hp')) (h.set h1 _)

theorem fill_rv {ι : Map} {place : Nat → Option (Nat × Nat)} : ∀ (l l' : List (Nat × Value)) (cs cs' r : Array Value), l.length = l'.length →
    (∀ (i : Nat) (p p' : Nat × Value), l[i]? = some p → l'[i]? = some p' → p.1 = p'.1 ∧ RV ι p.2 p'.2) → (∀ p, p ∈ l → notTuple p.2 = true) → Rows ι cs cs' → fill place cs l = some r →
    ∃ r', fill place cs' l' = some r' ∧ Rows ι r r'
  | [], [], cs, cs', r, _, _, _, h, hf => by simp only [fill] at hf; cases hf; exact ⟨cs', rfl, h⟩
  | [], _ :: _, _, _, _, hl, _, _, _, _ => by simp at hl
  | _ :: _, [], _, _, _, hl, _, _, _, _ => by simp at hl
  | (i, v) :: l, (i', v') :: l', cs, cs', r, hl, hh, hn, h, hf => by
    obtain ⟨h1, h2⟩ := hh 0 _ _ rfl rfl
    simp only at h1 h2
    subst h1
    have hnv := hn (i, v) (by simp)
    obtain ⟨hc1, hc2⟩ := cells_rv h2 hnv
    simp only [fill] at hf ⊢
    cases hp : place i with
    | none => simp [hp] at hf
    | some q =>
      obtain ⟨off, size⟩ := q
      simp only [hp] at hf ⊢
      rw [← hc1, ← h.1]
      split at hf
      · cases hf
      · rename_i hcond
        rw [if_neg hcond]
        refine fill_rv l l' _ _ r (by simpa using hl) (fun k p p' hp hp' => hh (k + 1) p p' (by simpa using hp) (by simpa using hp')) (fun p hp => hn p (by simp [hp])) ?_ hf
        have e1 := Array.foldl_toList (f := fun (cs : Array Value) (x : Value × Nat) => cs.setIfInBounds (off + x.2) x.1) (init := cs) (xs := v.cells.zipIdx)
        have e2 := Array.foldl_toList (f := fun (cs : Array Value) (x : Value × Nat) => cs.setIfInBounds (off + x.2) x.1) (init := cs') (xs := v'.cells.zipIdx)
        rw [← e1, ← e2]
        refine Rows.fold _ _ _ _ (by simp [hc1]) (fun k p p' hp hp' => ?_) h
        simp only [Array.toList_zipIdx, List.getElem?_zipIdx, Option.map_eq_some_iff] at hp hp'
        obtain ⟨u, hu, rfl⟩ := hp
        obtain ⟨u', hu', rfl⟩ := hp'
        refine ⟨?_, rfl⟩
        have := hc2 k
        simp only [Array.getElem?_toList] at hu hu'
        simpa [Array.getD_eq_getD_getElem?, hu, hu'] using this

/-- The parts' values, as far as they are known. -/
def partsC (a : List Value) (ps : Array (Nat × Operand)) : Array (Nat × Value) := ps.map fun (i, x) => (i, evalC a x)

theorem OpOk.build {t : TypeId} {ps : Array (Nat × Operand)} {cs : Array Value} (ho : o.op = .build t ps) (hc : ps.toList.all (fun p => okConst p.2) = true)
    (hn : ps.toList.all (fun p => notTuple (evalC a p.2)) = true) {i : TypeInfo} {z : Value} (hi : P.info? t = some i) (hz : i.zero = some z) (hp : plains z.cells.toList = true)
    (h : pureEval P (Instr.build t (partsC a ps)) = some (.agg cs)) : OpOk P o a m (.agg cs) m ⟨[], []⟩ :=
  OpOk.quiet fun ι tt w hs => by
    have hops : ∀ p, p ∈ ps → RV ι (evalC a p.2) ((act tt).eval p.2) := fun p hp => rv_operand hs (x := p.2) (by rw [ho]; simp only [Op.operands]; simp only [List.mem_toArray, List.mem_map]; exact ⟨p, by simpa using hp, rfl⟩) (List.all_eq_true.1 hc p (by simpa using hp))
    have hz0 : Rows ι z.cells z.cells := ⟨rfl, fun j => by
      by_cases hj : j < z.cells.toList.length
      · have := RV.refl ι _ (plains_get hp hj)
        simpa [List.getD_eq_getElem?_getD] using this
      · have : z.cells.getD j undef = undef := by
          have h2 : ¬ j < z.cells.size := by simpa using hj
          simp only [Array.getD, h2, dite_false]
        rw [this]; exact .any _⟩
    have hfill : ∀ place r, fill place z.cells (partsC a ps).toList = some r → ∃ r', fill place z.cells (ps.map fun (i, x) => (i, (act tt).eval x)).toList = some r' ∧ Rows ι r r' := fun place r hf => by
      refine fill_rv _ _ _ _ _ (by simp [partsC]) (fun k p p' hp hp' => ?_) (fun p hp => ?_) hz0 hf
      · simp only [partsC, Array.toList_map, List.getElem?_map, Option.map_eq_some_iff] at hp hp'
        obtain ⟨q, hq, rfl⟩ := hp
        obtain ⟨q', hq', rfl⟩ := hp'
        rw [hq] at hq'; cases hq'
        exact ⟨rfl, hops q (by simpa using List.mem_of_getElem? hq)⟩
      · simp only [partsC, Array.toList_map, List.mem_map] at hp
        obtain ⟨q, hq, rfl⟩ := hp
        exact List.all_eq_true.1 hn q hq
    have hzv : pureEval P (zeroValue t) = some z := by
      simp [zeroValue, pureEval_bind, typeInfo, program, pureEval, hi, hz]
    cases hu : P.underlying t with
    | none =>
      have : pureEval P (underlying t) = none := by simp [underlying, program, pureEval_bind, pureEval, hu, stuck]
      simp [Instr.build, pureEval_bind, hzv, this] at h
    | some d =>
      have hud : pureEval P (underlying t) = some d := by simp [underlying, program, pureEval_bind, pureEval, hu]
      have target : ∀ cs', pureEval P (Instr.build t (ps.map fun (i, x) => (i, (act tt).eval x))) = some (.agg cs') → Rows ι cs cs' → ∃ v', RV ι (.agg cs) v' ∧ (execOp (act tt).eval o).run P w = .ok (.value v') w := fun cs' he hr => by
        refine ⟨.agg cs', .agg hr.1 hr.2, ?_⟩
        unfold execOp; rw [ho]
        simp only [Sem.run_bind, run_of_pureEval he w, Result.andThen_ok, Sem.run_pure]
      cases d with
      | struct fields =>
        simp only [Instr.build, pureEval_bind, hzv, hud, Option.bind_some] at h target
        cases hpl : pureEval P (fields.mapM fun f => do pure (f.offset, ← sizeOf f.type)) with
        | none => rw [hpl] at h; cases h
        | some places =>
          simp only [hpl, Option.bind_some] at h target
          cases hf : fill (places[·]?) z.cells (partsC a ps).toList with
          | none => simp [hf, stuck, pureEval] at h
          | some r =>
            simp only [hf] at h
            have : r = cs := by simpa [pureEval] using h
            subst this
            obtain ⟨r', hr', hrows⟩ := hfill _ _ hf
            exact target r' (by rw [hr']; rfl) hrows
      | array len elem =>
        simp only [Instr.build, pureEval_bind, hzv, hud, Option.bind_some] at h target
        cases hpl : pureEval P (sizeOf elem) with
        | none => simp [hpl] at h
        | some size =>
          simp only [hpl, Option.bind_some] at h target
          cases hf : fill (fun i => some (i * size, size)) z.cells (partsC a ps).toList with
          | none => simp [hf, stuck, pureEval] at h
          | some r =>
            simp only [hf] at h
            have : r = cs := by simpa [pureEval] using h
            subst this
            obtain ⟨r', hr', hrows⟩ := hfill _ _ hf
            exact target r' (by rw [hr']; rfl) hrows
      | _ => simp [Instr.build, pureEval_bind, hzv, hud, stuck, pureEval] at h

/-- The length of a slice. -/
theorem OpOk.lenSl {x : Operand} {t e : TypeId} {base : Option Addr} {l c : Nat} (ho : o.op = .call { callee := .builtin .len, args := #[x], argTypes := #[t] }) (hc : okConst x = true) (hx : evalC a x = .slice base l c)
    (hu : P.underlying t = some (.slice e)) : OpOk P o a m (.int .i64 l) m ⟨[], []⟩ :=
  OpOk.quiet fun ι tt w hs => by
    have h := rv_operand hs (x := x) (by rw [ho]; simp [Op.operands, Call.operands]) hc
    rw [hx] at h
    refine ⟨_, .int _ _, ?_⟩
    unfold execOp; rw [ho]
    generalize hy : (act tt).eval x = y at h
    cases h <;> simp [resolve, invoke, builtin, Builtin.len_, hy, run_underlying hu w, goInt]

end
end Go.Dt
