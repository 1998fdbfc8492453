/- The canonical machine's states, its steps; what may be shown of them. -/
import Derived.Test.YtjfodgjgpeiaaaaDt10
namespace Go.Dt

inductive VS where
  | norm (todo : List Item) (a : List Value) (m : List Blk)
  | reg (k : List Item) (id : Nat) (ops : Array Oper) (draw : Bool) (a0 : List Value) (m0 : List Blk) (i : Nat) (a : List Value) (m : List Blk) (recs : List Rec)

def VS.slots : VS → List Value
  | .norm _ a _ => a
  | .reg _ _ _ _ _ _ _ a _ _ => a
def VS.mem : VS → List Blk
  | .norm _ _ m => m
  | .reg _ _ _ _ _ _ _ _ m _ => m

def ctl (a : List Value) : List Item → Option (List Item)
  | .code .skip :: k => some k
  | .code (.label _) :: k => some k
  | .inBlock _ :: k => some k
  | .code (.seq x y) :: k => some (.code x :: .code y :: k)
  | .code (.cond c x y) :: k => match evalC a c with
      | .bool true => some (.code x :: k)
      | .bool false => some (.code y :: k)
      | _ => none
  | .code (.block id c) :: k => some (.code c :: .inBlock id :: k)
  | .code (.loop c) :: k => some (.code c :: .inLoop c :: k)
  | .inLoop c :: k => some (.code c :: .inLoop c :: k)
  | .code (.exit id) :: k => exitTo id k
  | _ => none

def vstep (P : Program) : VS → Option VS
  | .norm todo a m => match todo with
    | .code (.region id ops draw) :: k => some (.reg k id ops draw a m 0 a m [])
    | td => match ctl a td with
      | some td' => some (.norm td' a m)
      | none => none
  | .reg k id ops draw a0 m0 i a m recs => match ops[i]? with
    | none => if Nat.beq i ops.size && (!draw || ordOk ops recs) then some (.norm k a m) else none
    | some o => match wantedC ops o a with
      | some false => fl (put a o.dst (.chan none)) fun a' => some (.reg k id ops draw a0 m0 (i + 1) a' m (⟨⟨[], []⟩, m.length, m.length⟩ :: recs))
      | some true => match opA P o a m with
        | some (v, m', fp) => fv v fun v' => fl (put a o.dst v') fun a' => fl m' fun m'' => some (.reg k id ops draw a0 m0 (i + 1) a' m'' (⟨fp, m.length, m''.length⟩ :: recs))
        | none => none
      | none => none

def vadv (P : Program) : Nat → VS → VS
  | 0, s => s
  | n + 1, s => match vstep P s with
    | some s' => vadv P n s'
    | none => s

section
variable {P : Program} {f : FuncId} {n0 : Nat}

/-- What a run has done: as 'Ext', but only the first blocks keep their places. -/
structure Done (n0 : Nat) (ι : Map) (C : Cont) (w : World) (ι' : Map) (C' : Cont) (w' : World) : Prop where
  le : ∀ b L, b < n0 → ι b = some L → ι' b = some L
  size : w.heap.size ≤ w'.heap.size
  os : w'.os = w.os
  tape : w'.tape = w.tape
  output : w'.output = w.output
  frame : ∀ k, k < w.heap.size → ¬ OwnR ι C k → w'.heap[k]? = w.heap[k]?
  own : ∀ k, OwnR ι' C' k → OwnR ι C k ∨ w.heap.size ≤ k
  live : ∀ k, LiveR ι' C' k → LiveR ι C k ∨ w.heap.size ≤ k
  lef : ∀ r c, ι.fro r = some c → ι'.fro r = some c
  fro : ∀ r c, ι'.fro r = some c → ι.fro r = some c ∨ OwnR ι C r ∨ w.heap.size ≤ r

theorem Done.refl (n0 : Nat) (ι : Map) (C : Cont) (w : World) : Done n0 ι C w ι C w := ⟨fun _ _ _ h => h, Nat.le_refl _, rfl, rfl, rfl, fun _ _ _ => rfl, fun _ h => .inl h, fun _ h => .inl h, fun _ _ h => h, fun _ _ h => .inl h⟩

theorem Done.ahead {n0 : Nat} {ι ι' ι'' : Map} {C C' C'' : Cont} {w w' w'' : World} (h : Ext ι C w ι' C' w') (k : Done n0 ι' C' w' ι'' C'' w'') : Done n0 ι C w ι'' C'' w'' where
  le := fun b L hb hL => k.le b L hb (h.le b L hL)
  size := Nat.le_trans h.size k.size
  os := k.os.trans h.os
  tape := k.tape.trans h.tape
  output := k.output.trans h.output
  frame := fun x hx hn => (k.frame x (Nat.lt_of_lt_of_le hx h.size) (fun ho => (h.own x ho).elim hn (fun hge => absurd hx (Nat.not_lt.2 hge)))).trans (h.frame x hx hn)
  own := fun x ho => (k.own x ho).elim (h.own x) (fun hge => .inr (Nat.le_trans h.size hge))
  live := fun x ho => (k.live x ho).elim (h.live x) (fun hge => .inr (Nat.le_trans h.size hge))
  lef := fun r c hr => k.lef r c (h.le.fro r c hr)
  fro := fun r c hr => by
    rcases k.fro r c hr with h1 | h1 | h1
    · exact h.fro r c h1
    · exact (h.own r h1).elim (fun h2 => .inr (.inl h2)) (fun h2 => .inr (.inr h2))
    · exact .inr (.inr (Nat.le_trans h.size h1))

def RunsN (P : Program) (f : FuncId) (n0 : Nat) (todo : List Item) (a : List Value) (m : List Blk) (v : Value) (m' : List Blk) : Prop :=
  ∀ (ι : Map) (t : Array Value) (w : World), Rel ι a m t w → ∀ (b : Frame) (cs : List Frame), b.fn = f → b.kind = .normal →
    ∃ v' w' fr ι', Steps P (lone (b.at (act t) todo) cs w) (lone fr cs w') ∧ fr.fn = f ∧ fr.leaving P w' (.returned v') ∧ RV ι' v v' ∧ Sim ι' (at_ m') w' ∧ (∀ x, ι' x ≠ none → x < m'.length) ∧
      Done n0 ι (at_ m) w ι' (at_ m') w'

def Runs (P : Program) (f : FuncId) (n0 : Nat) : VS → Value → List Blk → Prop
  | .norm todo a m, v, m' => RunsN P f n0 todo a m v m'
  | .reg k id ops draw a0 m0 i a m recs, v, m' => RegOk P ops a0 m0 i a m recs → RunsN P f n0 (.code (.region id ops draw) :: k) a0 m0 v m'

/-- One move of the real machine that turns the list of what is to be done alone. -/
theorem RunsN.move {todo todo' : List Item} {a : List Value} {m : List Blk} {v : Value} {m' : List Blk} (h : RunsN P f n0 todo' a m v m')
    (hs : ∀ (ι : Map) (t : Array Value) (w : World), Rel ι a m t w → ∀ (b : Frame) (cs : List Frame), step P (lone (b.at (act t) todo) cs w) = .next (lone (b.at (act t) todo') cs w)) : RunsN P f n0 todo a m v m' := by
  intro ι t w hr b cs hb hk
  obtain ⟨v', w', fr, ι', h1, h2⟩ := h ι t w hr b cs hb hk
  exact ⟨v', w', fr, ι', .head (hs ι t w hr b cs) h1, h2⟩

theorem evalC_bool {ι : Map} {a : List Value} {m : List Blk} {t : Array Value} {w : World} (hr : Rel ι a m t w) {c : Operand} {b : Bool} (h : evalC a c = .bool b) : (act t).eval c = .bool b := by
  cases c with
  | tmp x =>
    have := hr.slots x
    simp only [evalC] at h
    rw [h] at this
    exact this.bool_inv
  | const v => exact h
  | global g => simp [evalC, undef] at h
  | func f => simp [evalC] at h

theorem RunsN.ctl {todo todo' : List Item} {a : List Value} {m : List Blk} {v : Value} {m' : List Blk} (hc : ctl a todo = some todo') (h : RunsN P f n0 todo' a m v m') : RunsN P f n0 todo a m v m' := by
  refine h.move fun ι t w hr b cs => ?_
  unfold Dt.ctl at hc
  split at hc
  · cases hc; exact step_skip
  · cases hc; exact step_label
  · cases hc; exact step_inBlock
  · cases hc; exact step_seq
  · split at hc
    · rename_i he; cases hc; exact step_cond (t := true) (evalC_bool hr he)
    · rename_i he; cases hc; exact step_cond (t := false) (evalC_bool hr he)
    · cases hc
  · cases hc; exact step_block
  · cases hc; exact step_loop
  · cases hc; exact step_inLoop
  · exact step_exit hc
  · cases hc

theorem RunsN.region {k : List Item} {id : Nat} {ops : Array Oper} {draw : Bool} {a0 a : List Value} {m0 m : List Blk} {recs : List Rec} {v : Value} {m' : List Blk} (hm : P.follows .mixedOrders = true)
    (hreg : RegOk P ops a0 m0 ops.size a m recs) (hord : draw = true → ordOk ops recs = true) (h : RunsN P f n0 k a m v m') : RunsN P f n0 (.code (.region id ops draw) :: k) a0 m0 v m' := by
  intro ι t w hr b cs hb hk
  have := RegOk.wp (id := id) hm hreg hord hr (Q := fun e a' w' => ∃ t' ι', e = .normal ∧ a' = act t' ∧ Rel ι' a m t' w' ∧ Ext ι (at_ m0) w ι' (at_ m) w') (fun t' w' ι' h1 h2 => ⟨t', ι', rfl, rfl, h1, h2⟩)
  obtain ⟨e, a', w1, ⟨t', ι1, rfl, rfl, hr1, hext⟩, harr⟩ := this b k cs
  obtain ⟨v', w', fr, ι', h1, h2, h3, h4, h5, h6, h7⟩ := h ι1 t' w1 hr1 b cs hb hk
  exact ⟨v', w', fr, ι', Steps.trans harr h1, h2, h3, h4, h5, h6, Done.ahead hext h7⟩

theorem Runs.step {s s' : VS} {v : Value} {m' : List Blk} (hm : P.follows .mixedOrders = true) (hs : vstep P s = some s') (h : Runs P f n0 s' v m') : Runs P f n0 s v m' := by
  cases s with
  | norm todo a m =>
    simp only [vstep] at hs
    split at hs
    · cases hs
      exact h (RegOk.start a m)
    · split at hs
      · rename_i hc
        cases hs
        exact RunsN.ctl hc h
      · cases hs
  | reg k id ops draw a0 m0 i a m recs =>
    intro hreg
    simp only [vstep] at hs
    split at hs
    · split at hs
      · rename_i hc
        cases hs
        rw [Bool.and_eq_true] at hc
        have hi : i = ops.size := Nat.eq_of_beq_eq_true hc.1
        subst hi
        refine RunsN.region hm hreg (fun hd => ?_) h
        rw [hd] at hc
        simpa using hc.2
      · cases hs
    · rename_i o ho
      split at hs
      · rename_i hw
        rw [fl_eq] at hs
        cases hs
        exact h (hreg.next (.skip ho hw))
      · rename_i hw
        split at hs
        · rename_i v' m1 fp hop
          rw [fv_eq, fl_eq, fl_eq] at hs
          cases hs
          exact h (hreg.next (.op ho hw (opA_ok hop)))
        · cases hs
      · cases hs

theorem Runs.adv {v : Value} {m' : List Blk} (hm : P.follows .mixedOrders = true) : ∀ (n : Nat) {s : VS}, Runs P f n0 (vadv P n s) v m' → Runs P f n0 s v m'
  | 0, _, h => h
  | n + 1, s, h => by
    unfold vadv at h
    split at h
    · rename_i s' hs
      exact Runs.step hm hs (Runs.adv (s := s') hm n h)
    · exact h

/-! ### Branches -/
def condOf : VS → Option Bool
  | .norm (.code (.cond c _ _) :: _) a _ => match evalC a c with
    | .bool b => some b
    | _ => none
  | _ => none
def goC (s : VS) (b : Bool) : VS :=
  match s with
  | .norm (.code (.cond _ x y) :: k) a m => .norm (.code (bif b then x else y) :: k) a m
  | s => s

theorem Runs.cond {s : VS} {v : Value} {m' : List Blk} (b : Bool) (hs : condOf s = some b) (h : Runs P f n0 (goC s b) v m') : Runs P f n0 s v m' := by
  unfold condOf at hs
  split at hs
  · split at hs
    · rename_i he
      cases hs
      refine RunsN.move h fun ι t w hr fr cs => ?_
      cases b <;> exact step_cond (evalC_bool hr he)
    · cases hs
  · cases hs

theorem Runs.branch {s : VS} {v : Value} {m' : List Blk} (b : Bool) (hs : condOf s = some b) (h1 : b = true → Runs P f n0 (goC s true) v m') (h0 : b = false → Runs P f n0 (goC s false) v m') : Runs P f n0 s v m' := by
  refine Runs.cond b hs ?_
  cases b
  · exact h0 rfl
  · exact h1 rfl

end
end Go.Dt
