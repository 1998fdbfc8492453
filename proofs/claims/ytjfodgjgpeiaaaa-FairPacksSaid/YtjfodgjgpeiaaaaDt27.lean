/- Laws over slices: some block lies in the heap at any rate; rows of numbers as functions of the place. -/
import Derived.Test.YtjfodgjgpeiaaaaDt26
import Derived.Handed
namespace Go.Dt
open Go.RowKit Go.WideShapes Go.ChangeShapes Go.ChangeAt
set_option linter.unusedVariables false

section
variable {H : Type} {enc : TypeId × Value → H}

/-- A row's contract, over worlds that have the program's own variables. -/
theorem returnsIn_shaped {a : Assume} {C : Checked} {os : Os} {f : FuncId} {fn : Func} {s : ChangeSpec} {conds : List PathCond} {apart fresh handsOn again : Bool}
    (own : ownKnob C.prog.godebug = none) (started : os.Started) (noInit : C.prog.inits.idxOf? f = none) (hfn : C.prog.funcs[f]? = some fn)
    (witness : ∃ (w : World) (tape : Tape) (i : Input), w.os = os ∧ (w.forCall tape i).Shaped C.prog ∧ i.vars = [] ∧ Input.okWide C.prog (w.forCall tape i) .any w.heap.size f i ∧
      s.pre6 enc C.prog fn conds apart (w.forCall tape i).memory i.args ∧ a.holds C.prog (lone (Frame.enter C.prog f i.args .normal) [] (w.forCall tape i)))
    (contract : ∀ (W : World) (base : Nat) (args : Array Value) (ds gs : List (DataW H)) (before : List MemPlace), W.ShapedOpen C.prog →
      (∀ (j : Nat) t v, fn.params[j]? = some t → args[j]? = some v → Value.okWide C.prog W .any base t v) →
      DataW.Whole enc C.prog fn.params.toList s.vars apart W args.toList ds gs before →
      Calls C.prog f args W fun e W' => ∃ v, e = .returned v ∧ s.post enc C.prog fn apart fresh handsOn again W args v W') :
    ReturnsInHanded a C os f .any (s.pre6 enc C.prog fn conds apart) (s.post enc C.prog fn apart fresh handsOn again) := by
  refine returnsInHanded_of_calls own started noInit witness ?_
  intro w tape i _ hsh _ hok hpre hholds
  obtain ⟨_, _, _, fn', hfn', _, _, _, _, hval⟩ := hok
  have e : fn' = fn := Option.some.inj (hfn'.symm.trans hfn)
  subst e
  obtain ⟨⟨ds, gs, before, hw, hc⟩, _⟩ := hpre
  have hw' := DataW.Whole.of_heap (w' := w.forCall tape i) (by rfl) hw
  refine (contract (w.forCall tape i) w.heap.size i.args ds gs before hsh hval hw').mono fun e W' ⟨v, he, hp⟩ => ?_
  subst he
  exact ChangeSpec.post_blind hp

theorem some_cells {P : Program} {W : World} (h : W.ShapedOpen P) (hg : Nat.ble 1 P.globals.size = true) (h0 : (((begin P (fun _ _ => 0) default).world.heap[0]?).bind Obj.row?).isSome = true) : ∃ (g : Nat) (c : Array Value) (tt : TypeId) (fz : Nat × Nat), W.heap[g]? = some (.cells c tt fz) := by
  cases hx : (((begin P (fun _ _ => 0) default).world.heap[0]?).bind Obj.row?) with
  | none => rw [hx] at h0; cases h0
  | some q =>
    obtain ⟨zero, t⟩ := q
    obtain ⟨cs, hh, _⟩ := h.1 0 zero t (Nat.le_of_ble_eq_true hg) hx
    exact ⟨0, cs, t, _, hh⟩
end

def toI : Value → Int
  | .int _ n => n
  | _ => 0
theorem flat_i64 : ∀ {k : Nat} {c : List Value}, FlatOk (List.replicate k (.int .i64)) c → ∀ v, v ∈ c → ∃ x, v = .int .i64 x ∧ (Lit.int .i64 x).wf = true
  | 0, c, h, v, hv => by
    have := flat_nil h
    subst this
    cases hv
  | k + 1, c, h, v, hv => by
    obtain ⟨x, vs, rfl, hw, hr⟩ := flat_int (k := .i64) (ss := List.replicate k (.int .i64)) h
    rcases List.mem_cons.1 hv with rfl | hv
    · exact ⟨x, rfl, hw⟩
    · exact flat_i64 hr v hv
theorem rows_mem {k : Nat} : ∀ {n : Nat} {c : List Value}, RowsOk (List.replicate k (.int .i64)) n c → ∀ v, v ∈ c → ∃ x, v = .int .i64 x ∧ (Lit.int .i64 x).wf = true
  | 0, c, h, v, hv => by
    have : c = [] := h
    subst this
    cases hv
  | n + 1, c, h, v, hv => by
    rw [← List.take_append_drop (List.replicate k (Sc.int .i64)).length c] at hv
    rcases List.mem_append.1 hv with hv | hv
    · exact flat_i64 h.1 v hv
    · exact rows_mem h.2 v hv
theorem rows_i64 {k n : Nat} {c : List Value} (h : RowsOk (List.replicate k (.int .i64)) n c) : ∃ f : Nat → Int, c = row (n * k) f ∧ ∀ i, i < n * k → (Lit.int .i64 (f i)).wf = true := by
  have hl := h.length
  rw [List.length_replicate] at hl
  have at_ : ∀ i, i < n * k → ∃ x, c[i]? = some (.int .i64 x) ∧ (Lit.int .i64 x).wf = true := fun i hi => by
    have hi' : i < c.length := by omega
    obtain ⟨x, hx, hw⟩ := rows_mem h c[i] (List.getElem_mem hi')
    exact ⟨x, by rw [List.getElem?_eq_getElem hi', hx], hw⟩
  refine ⟨fun i => toI (c.getD i undef), eq_rowV hl fun i hi => ?_, fun i hi => ?_⟩
  · obtain ⟨x, hx, _⟩ := at_ i hi
    show c[i]? = some (Value.int .i64 (toI (c.getD i undef)))
    rw [List.getD_eq_getElem?_getD, hx]; rfl
  · obtain ⟨x, hx, hw⟩ := at_ i hi
    simp only [List.getD_eq_getElem?_getD, hx]; exact hw

/-- A slice: nil, or at the start of a block. -/
abbrev slc (nil : Bool) (j n : Nat) : Value := bif nil then .slice none 0 0 else .slice (some ⟨j, 0, none⟩) n n

end Go.Dt
