/- Several texts in one: Dt11, Dt12. -/
import Derived.Test.YtdmcdijlpnbghaaGreatDoorQI6
namespace Go.Dt

section


inductive VS where
  | norm (todo : List Item) (a : List Value) (m : List Blk)
  | reg (k : List Item) (id : Nat) (ops : Array Oper) (draw : Bool) (a0 : List Value) (m0 : List Blk) (i : Nat) (a : List Value) (m : List Blk) (recs : List Rec)

def VS.slots : VS → List Value
  | .norm _ a _ => a
  | .reg _ _ _ _ _ _ _ a _ _ => a
def VS.mem : VS → List Blk
  | .norm _ _ m => m
  | .reg _ _ _ _ _ _ _ _ m _ => m

def ctl (a : List Value) : List Item → Option (List Item)
  | .code .skip :: k => some k
  | .code (.label _) :: k => some k
  | .inBlock _ :: k => some k
  | .code (.seq x y) :: k => some (.code x :: .code y :: k)
  | .code (.cond c x y) :: k => match evalC a c with
      | .bool true => some (.code x :: k)
      | .bool false => some (.code y :: k)
      | _ => none
  | .code (.block id c) :: k => some (.code c :: .inBlock id :: k)
  | .code (.loop c) :: k => some (.code c :: .inLoop c :: k)
  | .inLoop c :: k => some (.code c :: .inLoop c :: k)
  | .code (.exit id) :: k => exitTo id k
  | _ => none

def vstep (P : Program) : VS → Option VS
  | .norm todo a m => match todo with
    | .code (.region id ops draw) :: k => some (.reg k id ops draw a m 0 a m [])
    | td => match ctl a td with
      | some td' => some (.norm td' a m)
      | none => none
  | .reg k id ops draw a0 m0 i a m recs => match ops[i]? with
    | none => if Nat.beq i ops.size && (!draw || (ordOk ops recs && noSoft recs)) then some (.norm k a m) else none
    | some o => match wantedC ops o a with
      | some false => fl (put a o.dst (.chan none)) fun a' => some (.reg k id ops draw a0 m0 (i + 1) a' m (rec3 ⟨[], []⟩ m.length m.length :: recs))
      | some true => match opA P o a m with
        | some (v, m', fp) => fv v fun v' => fl (put a o.dst v') fun a' => fl m' fun m'' => some (.reg k id ops draw a0 m0 (i + 1) a' m'' (rec3 fp m.length m''.length :: recs))
        | none => none
      | none => none

def vadv (P : Program) : Nat → VS → VS
  | 0, s => s
  | n + 1, s => match vstep P s with
    | some s' => vadv P n s'
    | none => s

section

theorem DoneX.refl (D : List Nat) (n0 : Nat) (ι : Map) (C : Cont) (w : World) : DoneX D n0 ι C w ι C w := ⟨fun _ _ _ h => h, Nat.le_refl _, rfl, rfl, rfl, fun _ _ _ _ => rfl, fun _ h => .inl h, fun _ h => .inl h, fun _ _ h => h, fun _ _ h => .inl h⟩

/-- Whose frame: a function's (no range over a function has been left), a function's, a round's. -/
inductive Fr where
  | fn0 (f : FuncId)
  | fn (f : FuncId)
  | rd (f : FuncId)
instance instFr (n : Nat) : OfNat Fr n := ⟨.fn0 n⟩
def Fr.f : Fr → FuncId
  | .fn0 f => f
  | .fn f => f
  | .rd f => f
/-- What of a frame is so. -/
def Fr.B : Fr → Frame → List Nat → List Deferred → Prop
  | .fn0 _, b, D, ds => b.roundOf = none ∧ D = [] ∧ ds = []
  | .fn _, b, D, ds => b.roundOf = none ∧ ds = D.map mark
  | .rd _, _, D, _ => D = []
/-- How a round ends: it goes on; it leaves the function; it leaves by a jump. -/
def outc : List Item → Option Nat
  | [] => some 0
  | .code .ret :: _ => some 1
  | .code (.exit id) :: k => match exitTo id k with
    | none => some (2 + id)
    | some _ => none
  | _ => none
def Fr.Z : Fr → Program → Frame → List Deferred → Value → Map → World → Frame → Prop
  | .fn0 f, P, _, _, v, ι, w, fr => fr.fn = f ∧ ∃ v', fr.leaving P w (.returned v') ∧ RV ι v v'
  | .fn f, P, _, _, v, ι, w, fr => fr.fn = f ∧ ∃ v', fr.leaving P w (.returned v') ∧ RV ι v v'
  | .rd _, _, b, ds, v, _, _, fr => ∃ t todo c, fr = b.atR ⟨t, ds⟩ todo ∧ outc todo = some c ∧ v = .int .i64 c
/-- Which lists of records are let in. -/
def bare (r : Rec) : Bool := match r with
  | ⟨_, _, _, none, []⟩ => true
  | _ => false
def Fr.R : Fr → List Rec → Prop
  | .fn0 _, _ => True
  | .fn _, l => l.all bare = true
  | .rd _, l => l.all bare = true
theorem Fr.R.nil (c : Fr) : c.R [] := by cases c <;> first | trivial | rfl
theorem Fr.R.next {c : Fr} {l : List Rec} (h : c.R l) (fp : Fp) (a b : Nat) : c.R (rec3 fp a b :: l) := by
  cases c with
  | fn0 _ => trivial
  | fn _ => simpa [Fr.R, bare, rec3] using h
  | rd _ => simpa [Fr.R, bare, rec3] using h

def RunsN (P : Program) (f : Fr) (n0 : Nat) (todo : List Item) (a : List Value) (m : List Blk) (v : Value) (m' : List Blk) : Prop :=
  ∀ (D : List Nat) (ds : List Deferred) (ι : Map) (t : Array Value) (w : World), Rel ι a m t w → ∀ (b : Frame) (cs : List Frame), b.fn = f.f → b.kind = .normal → f.B b D ds → D.Nodup → JM D ι w →
    ∃ w' fr ι', Steps P (lone (b.atR ⟨t, ds⟩ todo) cs w) (lone fr cs w') ∧ f.Z P b ds v ι' w' fr ∧ Sim ι' (at_ m') w' ∧ (∀ x, ι' x ≠ none → x < m'.length) ∧
      DoneX D n0 ι (at_ m) w ι' (at_ m') w'

def Runs (P : Program) (f : Fr) (n0 : Nat) : VS → Value → List Blk → Prop
  | .norm todo a m, v, m' => RunsN P f n0 todo a m v m'
  | .reg k id ops draw a0 m0 i a m recs, v, m' => RegOk P ops a0 m0 i a m recs → f.R recs → RunsN P f n0 (.code (.region id ops draw) :: k) a0 m0 v m'

variable {P : Program} {f : Fr} {n0 : Nat}
/-- One move of the real machine that turns the list of what is to be done alone. -/
theorem RunsN.move {todo todo' : List Item} {a : List Value} {m : List Blk} {v : Value} {m' : List Blk} (h : RunsN P f n0 todo' a m v m')
    (hs : ∀ (ι : Map) (t : Array Value) (ds : List Deferred) (w : World), Rel ι a m t w → ∀ (b : Frame) (cs : List Frame), step P (lone (b.atR ⟨t, ds⟩ todo) cs w) = .next (lone (b.atR ⟨t, ds⟩ todo') cs w)) : RunsN P f n0 todo a m v m' := by
  intro D ds ι t w hr b cs hb hk hB hD hj
  obtain ⟨w', fr, ι', h1, h2⟩ := h D ds ι t w hr b cs hb hk hB hD hj
  exact ⟨w', fr, ι', .head (hs ι t ds w hr b cs) h1, h2⟩

theorem evalC_bool {ι : Map} {a : List Value} {m : List Blk} {t : Array Value} {w : World} (hr : Rel ι a m t w) {c : Operand} {b : Bool} (h : evalC a c = .bool b) : (act t).eval c = .bool b := by
  cases c with
  | tmp x =>
    have := hr.slots x
    simp only [evalC] at h
    rw [h] at this
    exact this.bool_inv
  | const v => exact h
  | global g => simp [evalC, undef] at h
  | func f => simp [evalC] at h

theorem evalC_boolR {ι : Map} {a : List Value} {m : List Blk} {t : Array Value} {ds : List Deferred} {w : World} (hr : Rel ι a m t w) {c : Operand} {b : Bool} (h : evalC a c = .bool b) : (⟨t, ds⟩ : Act).eval c = .bool b := by
  have : (actD ds t).eval c = (act t).eval c := by rw [eval_actD]
  exact this.trans (evalC_bool hr h)

theorem RunsN.ctl {todo todo' : List Item} {a : List Value} {m : List Blk} {v : Value} {m' : List Blk} (hc : ctl a todo = some todo') (h : RunsN P f n0 todo' a m v m') : RunsN P f n0 todo a m v m' := by
  refine h.move fun ι t ds w hr b cs => ?_
  unfold Dt.ctl at hc
  split at hc
  · cases hc; exact stepR_skip
  · cases hc; exact stepR_label
  · cases hc; exact stepR_inBlock
  · cases hc; exact stepR_seq
  · split at hc
    · rename_i he; cases hc; exact stepR_cond (t := true) (evalC_boolR hr he)
    · rename_i he; cases hc; exact stepR_cond (t := false) (evalC_boolR hr he)
    · cases hc
  · cases hc; exact stepR_block
  · cases hc; exact stepR_loop
  · cases hc; exact stepR_inLoop
  · exact stepR_exit hc
  · cases hc

theorem bare_get {recs : List Rec} (h : recs.all bare = true) {k : Nat} {r : Rec} (hr : recs.reverse[k]? = some r) : r = rec3 r.fp r.lo r.hi := by
  have := List.all_eq_true.1 h r (List.mem_reverse.1 (List.mem_of_getElem? hr))
  obtain ⟨fp, lo, hi, sf, outs⟩ := r
  cases sf with
  | some p => cases this
  | none =>
    cases outs with
    | nil => rfl
    | cons p l => cases this
/-- What is so of a region in itself is so in whatever frame. -/
theorem RegOk.toJ {ops : Array Oper} {a0 a : List Value} {m0 m : List Blk} {i : Nat} {recs : List Rec} (h : RegOk P ops a0 m0 i a m recs) (hn : recs.all bare = true) (ι0 : Map) :
    RegOkJ P (JN (fun _ _ => True) ι0 m0.length) ops a0 m0 i a m recs := by
  obtain ⟨A, M, F, SF, h1, h2, h3, h4, h5, h6, h7⟩ := h
  have hs : ∀ k, k < i → StepAt P ops k (A k) (M k) (A (k + 1)) (M (k + 1)) (F k) := fun k hk => by
    obtain ⟨r, hr, _, _, _, hsf, _⟩ := h7 k hk
    have e : SF k = none := by rw [← hsf, bare_get hn hr]
    have key : ∀ a' m' fp sf, StepS P ops k (A k) (M k) a' m' fp sf → sf = none → StepAt P ops k (A k) (M k) a' m' fp := fun a' m' fp sf h he => by
      cases h with
      | hard h => exact h
      | soft => cases he
    exact key _ _ _ _ (h5 k hk) e
  have hlen : ∀ k, k ≤ i → (M 0).length ≤ (M k).length := by
    intro k
    induction k with
    | zero => intro _; exact Nat.le_refl _
    | succ k ih => intro hk; exact Nat.le_trans (ih (by omega)) (step_facts (h5 k (by omega))).1
  have hK : Keeps (fun (_ : Map) (_ : World) => True) := fun _ _ _ _ _ _ _ _ h => h
  refine ⟨A, M, F, h1, h2, h3, h4, fun k hk => ?_, h6, fun k hk => ?_⟩
  · have hl := hlen k (by omega)
    rw [h2] at hl
    have key : ∀ a' m' fp, StepAt P ops k (A k) (M k) a' m' fp → StepJ P (JN (fun _ _ => True) ι0 m0.length) ops k (A k) (M k) a' m' fp := fun a' m' fp h => by
      cases h with
      | skip ho hw => exact .skip ho hw
      | op ho hw hop => exact .op ho hw (hop.toJ hK ι0 _ hl)
    exact key _ _ _ (hs k hk)
  · obtain ⟨r, hr, e1, e2, e3, _⟩ := h7 k hk
    rw [hr, bare_get hn hr, e1, e2, e3]
theorem RunsN.region {k : List Item} {id : Nat} {ops : Array Oper} {draw : Bool} {a0 a : List Value} {m0 m : List Blk} {recs : List Rec} {v : Value} {m' : List Blk} (hm : P.follows .mixedOrders = true)
    (hreg : RegOk P ops a0 m0 ops.size a m recs) (hR : f.R recs) (hord : draw = true → ordOk ops recs = true ∧ SoftOk (rowsAll ops recs) 0 (rowsAll ops recs)) (h : RunsN P f n0 k a m v m') : RunsN P f n0 (.code (.region id ops draw) :: k) a0 m0 v m' := by
  intro D ds ι t w hr b cs hb hk hB hD hj
  have fin : ∀ t' w1 ι1, Rel ι1 a m t' w1 → Ext ι (at_ m0) w ι1 (at_ m) w1 → Steps P (lone (b.atR ⟨t, ds⟩ (.code (.region id ops draw) :: k)) cs w) (lone (b.atR ⟨t', ds⟩ k) cs w1) →
      ∃ w' fr ι', Steps P (lone (b.atR ⟨t, ds⟩ (.code (.region id ops draw) :: k)) cs w) (lone fr cs w') ∧ f.Z P b ds v ι' w' fr ∧ Sim ι' (at_ m') w' ∧ (∀ x, ι' x ≠ none → x < m'.length) ∧ DoneX D n0 ι (at_ m0) w ι' (at_ m') w' := fun t' w1 ι1 hr1 hext harr => by
    obtain ⟨w', fr, ι', h1, h2, h3, h4, h5⟩ := h D ds ι1 t' w1 hr1 b cs hb hk hB hD (JM.keeps D _ _ _ _ _ _ hr.sim hext hj)
    exact ⟨w', fr, ι', Steps.trans harr h1, h2, h3, h4, DoneX.ahead hext h5⟩
  cases f with
  | fn0 g =>
    obtain ⟨hro, _, rfl⟩ := hB
    have := RegOk.wp (id := id) hm hreg hord hr (Q := fun e a' w' => ∃ t' ι', e = .normal ∧ a' = act t' ∧ Rel ι' a m t' w' ∧ Ext ι (at_ m0) w ι' (at_ m) w') (fun t' w' ι' h1 h2 => ⟨t', ι', rfl, rfl, h1, h2⟩)
    obtain ⟨e, a', w1, ⟨t', ι1, rfl, rfl, hr1, hext⟩, harr⟩ := this b k cs
    refine fin t' w1 ι1 hr1 hext ?_
    rw [Frame.atR_of_none hro, Frame.atR_of_none hro]
    exact harr
  | _ =>
    have hn : recs.all bare = true := hR
    have hJ := hreg.toJ hn ι
    have := RegOkJ.wp (id := id) (r := b.roundOf) (ds := ds) hm (JN.drawn (fun _ _ _ h => h) ι m0.length) hJ (fun hd => (hord hd).1) hr ⟨trivial, fun _ _ h => h⟩
      (Q := fun e a' w' => ∃ t' ι', e = .normal ∧ a' = actD ds t' ∧ Rel ι' a m t' w' ∧ Ext ι (at_ m0) w ι' (at_ m) w') (fun t' w' ι' h1 h2 _ => ⟨t', ι', rfl, rfl, h1, h2⟩)
    obtain ⟨e, a', w1, ⟨t', ι1, rfl, rfl, hr1, hext⟩, harr⟩ := this b k cs rfl trivial (room_wide _)
    exact fin t' w1 ι1 hr1 hext (stepsIn_wide.1 harr)

theorem Runs.step {s s' : VS} {v : Value} {m' : List Blk} (hm : P.follows .mixedOrders = true) (hs : vstep P s = some s') (h : Runs P f n0 s' v m') : Runs P f n0 s v m' := by
  cases s with
  | norm todo a m =>
    simp only [vstep] at hs
    split at hs
    · cases hs
      exact h (RegOk.start a m) (Fr.R.nil f)
    · split at hs
      · rename_i hc
        cases hs
        exact RunsN.ctl hc h
      · cases hs
  | reg k id ops draw a0 m0 i a m recs =>
    intro hreg hR
    simp only [vstep] at hs
    split at hs
    · split at hs
      · rename_i hc
        cases hs
        rw [Bool.and_eq_true] at hc
        have hi : i = ops.size := Nat.eq_of_beq_eq_true hc.1
        subst hi
        refine RunsN.region hm hreg hR (fun hd => ?_) h
        have h2 := hc.2
        rw [hd, Bool.not_true, Bool.false_or, Bool.and_eq_true] at h2
        exact ⟨h2.1, noSoft_ok h2.2⟩
      · cases hs
    · rename_i o ho
      split at hs
      · rename_i hw
        rw [fl_eq] at hs
        cases hs
        exact h (hreg.next (.skip ho hw)) (hR.next _ _ _)
      · rename_i hw
        split at hs
        · rename_i v' m1 fp hop
          rw [fv_eq, fl_eq, fl_eq] at hs
          cases hs
          exact h (hreg.next (.op ho hw (opA_ok hop))) (hR.next _ _ _)
        · cases hs
      · cases hs

theorem Runs.adv {v : Value} {m' : List Blk} (hm : P.follows .mixedOrders = true) : ∀ (n : Nat) {s : VS}, Runs P f n0 (vadv P n s) v m' → Runs P f n0 s v m'
  | 0, _, h => h
  | n + 1, s, h => by
    unfold vadv at h
    split at h
    · rename_i s' hs
      exact Runs.step hm hs (Runs.adv (s := s') hm n h)
    · exact h

/-! ### Branches -/
def condOf : VS → Option Bool
  | .norm (.code (.cond c _ _) :: _) a _ => match evalC a c with
    | .bool b => some b
    | _ => none
  | _ => none
def goC (s : VS) (b : Bool) : VS :=
  match s with
  | .norm (.code (.cond _ x y) :: k) a m => .norm (.code (bif b then x else y) :: k) a m
  | s => s

theorem Runs.cond {s : VS} {v : Value} {m' : List Blk} (b : Bool) (hs : condOf s = some b) (h : Runs P f n0 (goC s b) v m') : Runs P f n0 s v m' := by
  unfold condOf at hs
  split at hs
  · split at hs
    · rename_i he
      cases hs
      refine RunsN.move h fun ι t ds w hr fr cs => ?_
      cases b <;> exact stepR_cond (evalC_boolR hr he)
    · cases hs
  · cases hs

theorem Runs.branch {s : VS} {v : Value} {m' : List Blk} (b : Bool) (hs : condOf s = some b) (h1 : b = true → Runs P f n0 (goC s true) v m') (h0 : b = false → Runs P f n0 (goC s false) v m') : Runs P f n0 s v m' := by
  refine Runs.cond b hs ?_
  cases b
  · exact h0 rfl
  · exact h1 rfl

end

end

section


section
variable {P : Program} {f : Fr} {n0 : Nat}

theorem set_self {l : List Value} {d : Nat} {v : Value} (h : l.getD d undef = v) : l.set d v = l := by
  apply List.ext_getElem?
  intro i
  rw [List.getElem?_set]
  split
  · rename_i hi
    subst hi
    split
    · rename_i hlt
      rw [← h]; simp [List.getD_eq_getElem?_getD, hlt]
    · rename_i hlt
      simp [List.getElem?_eq_none (Nat.le_of_not_lt hlt)]
  · rfl

def setV (s : VS) (d : Nat) (v : Value) : VS :=
  match s with
  | .norm todo a m => fl (a.set d v) fun a' => .norm todo a' m
  | .reg k id ops draw a0 m0 i a m recs => fl (a.set d v) fun a' => .reg k id ops draw a0 m0 i a' m recs

/-- A slot's value, spelled otherwise. -/
theorem Runs.spell {s : VS} {v : Value} {m' : List Blk} (d : Nat) (u : Value) (h : s.slots.getD d undef = u) (hr : Runs P f n0 (setV s d u) v m') : Runs P f n0 s v m' := by
  cases s with
  | norm todo a m => simp only [setV, fl_eq, VS.slots] at hr h; rwa [set_self h] at hr
  | reg k id ops draw a0 m0 i a m recs => simp only [setV, fl_eq, VS.slots] at hr h; rwa [set_self h] at hr

theorem Runs.congr {s s' : VS} {v : Value} {m' : List Blk} (h : s = s') (hr : Runs P f n0 s' v m') : Runs P f n0 s v m' := h ▸ hr

def guardOf : VS → Option (Nat × Bool)
  | .reg _ _ ops _ _ _ i a _ _ => match ops[i]? with
    | none => none
    | some o => match guardSlot ops o with
      | none => none
      | some d => match a.getD d undef with
        | .bool b => some (d, b)
        | _ => none
  | _ => none

theorem Runs.guard {s : VS} {v : Value} {m' : List Blk} (d : Nat) (b : Bool) (hs : guardOf s = some (d, b)) (h1 : b = true → Runs P f n0 (setV s d (.bool true)) v m')
    (h0 : b = false → Runs P f n0 (setV s d (.bool false)) v m') : Runs P f n0 s v m' := by
  have hg : s.slots.getD d undef = .bool b := by
    unfold guardOf at hs
    split at hs
    · split at hs
      · cases hs
      · split at hs
        · cases hs
        · split at hs
          · rename_i hb; cases hs; exact hb
          · cases hs
    · cases hs
  cases b
  · exact Runs.spell d _ hg (h0 rfl)
  · exact Runs.spell d _ hg (h1 rfl)

def opAt : VS → Option Oper
  | .reg _ _ ops _ _ _ i a _ _ => match ops[i]? with
    | none => none
    | some o => match wantedC ops o a with
      | some true => some o
      | _ => none
  | _ => none

def afterOp (s : VS) (o : Oper) (v : Value) (m1 : List Blk) (fp : Fp) : VS :=
  match s with
  | .reg k id ops draw a0 m0 i a m recs => fl (put a o.dst v) fun a' => fl m1 fun m1' => .reg k id ops draw a0 m0 (i + 1) a' m1' (rec3 fp m.length m1'.length :: recs)
  | s => s

theorem Runs.op {s : VS} {v : Value} {m' : List Blk} (o : Oper) {u : Value} {m1 : List Blk} {fp : Fp} (hs : opAt s = some o) (ho : OpOk P o s.slots s.mem u m1 fp) (hr : Runs P f n0 (afterOp s o u m1 fp) v m') : Runs P f n0 s v m' := by
  cases s with
  | norm todo a m => cases hs
  | reg k id ops draw a0 m0 i a m recs =>
    intro hreg hR
    simp only [opAt] at hs
    split at hs
    · cases hs
    · rename_i o' ho'
      split at hs
      · rename_i hw
        cases hs
        simp only [afterOp, fl_eq] at hr
        exact hr (hreg.next (.op ho' hw ho)) (hR.next _ _ _)
      · cases hs

/-! ### Returns -/
def resOne (P : Program) (a : List Value) (m : List Blk) : ResultVar → Option Value
  | .tmp t => some (a.getD t undef)
  | .cell x t => match a.getD x undef with
    | .pointer (some ⟨b, off, none⟩) => match m[b]? with
      | some (.cells c _ _) => loadC P t c off
      | _ => none
    | _ => none

def resAll (P : Program) (a : List Value) (m : List Blk) : List ResultVar → Option (List Value)
  | [] => some []
  | r :: rs => match resOne P a m r, resAll P a m rs with
    | some v, some vs => some (v :: vs)
    | _, _ => none

def tupled : List Value → Value
  | [v] => v
  | vs => .tuple vs.toArray

def retOf (P : Program) (fn : Func) : VS → Option Value
  | .norm (.code .ret :: _) a m => (resAll P a m fn.results.toList).map tupled
  | .norm [] a m => (resAll P a m fn.results.toList).map tupled
  | _ => none

theorem run_loadC {ι : Map} {w : World} {t : TypeId} {c : List Value} {off : Nat} {v : Value} {L : Loc} {c' : Array Value} {e : TypeId} {fz : Nat × Nat} (h : loadC P t c off = some v)
    (hh : w.heap[L.blk]? = some (.cells c' e fz)) (hfit : L.off + c.length ≤ c'.size) (hc : ∀ i, i < c.length → RV ι (c.getD i undef) (c'.getD (L.off + i) undef)) :
    ∃ v', RV ι v v' ∧ (loadVar t ⟨L.blk, L.off + off, none⟩).run P w = .ok v' w := by
  unfold loadC at h
  split at h
  · rename_i ht
    split at h
    · rename_i n hn
      split at h
      · rename_i hle
        cases h
        have hle := Nat.le_of_ble_eq_true hle
        refine ⟨.agg ((List.range n).map fun j => c'.getD (L.off + off + j) undef).toArray, .agg (by simp; omega) (fun i => ?_), ?_⟩
        · rw [toArr_range]
          by_cases hi : i < n
          · rw [if_pos hi]
            have h1 : ((c.drop off).take n).toArray.getD i undef = c.getD (off + i) undef := by simp [List.getD_eq_getElem?_getD, hi]
            rw [h1, Nat.add_assoc]
            exact hc (off + i) (by omega)
          · rw [if_neg hi]
            have h1 : ((c.drop off).take n).toArray.getD i undef = undef := by simp [List.getElem?_take, hi]
            rw [h1]; exact .any _
        · have hl := run_loadCells (P := P) w ⟨L.blk, L.off + off, none⟩ n (fun j => c'.getD (L.off + off + j) undef) (fun j hj => by rw [addr_add]; exact cell_of hh (by omega))
          simp [loadVar, run_isAgg ht w, run_szC hn, hl]
      · cases h
    · cases h
  · rename_i ht
    have hlt : off < c.length := (List.getElem?_eq_some_iff.1 h).1
    have hrv := hc off hlt
    rw [show c.getD off undef = v by simp [List.getD_eq_getElem?_getD, h]] at hrv
    refine ⟨_, hrv, ?_⟩
    have hcell := cell_of (L := L) hh (i := L.off + off) (by omega)
    simp [loadVar, run_isAgg ht w, hcell]
  · cases h

def resFun (t : Array Value) : ResultVar → Sem Value
  | .tmp x => pure (t.getD x undef)
  | .cell x ty => do loadVar ty (← asAddr (t.getD x undef))

theorem results_eq (fn : Func) (t : Array Value) : results fn t = (do let vs ← fn.results.mapM (resFun t); pure (if h : vs.size = 1 then vs[0] else .tuple vs)) := by
  unfold results
  congr 1

theorem run_resAll {ι : Map} {a : List Value} {m : List Blk} {t : Array Value} {w : World} (hr : Rel ι a m t w) : ∀ (rs : List ResultVar) (vs : List Value), resAll P a m rs = some vs →
    ∃ vs' : List Value, vs.length = vs'.length ∧ (∀ i : Nat, RV ι (vs.getD i undef) (vs'.getD i undef)) ∧
      (rs.mapM (resFun t)).run P w = .ok vs' w
  | [], vs, h => by simp only [resAll] at h; cases h; exact ⟨[], rfl, fun i => by simpa using RV.any undef, by simp⟩
  | r :: rs, vs, h => by
    simp only [resAll] at h
    split at h
    · rename_i v vs1 h1 h2
      cases h
      obtain ⟨vs', hl, hrv, hrun⟩ := run_resAll hr rs vs1 h2
      have one : ∃ v', RV ι v v' ∧ (resFun t r).run P w = .ok v' w := by
        cases r with
        | tmp x => simp only [resOne] at h1; cases h1; exact ⟨_, hr.slots x, rfl⟩
        | cell x ty =>
          simp only [resOne] at h1
          split at h1
          · rename_i b off hx
            split at h1
            · rename_i c sz rw_ hb
              have hs := hr.slots x
              rw [hx] at hs
              obtain ⟨L, hL, he⟩ := hs.ptr_inv
              have hB := hr.sim.blk b
              rw [show at_ m b = .cells c sz rw_ by simp [at_, List.getD_eq_getElem?_getD, hb]] at hB
              obtain ⟨L', c', e, fz, hL', hh, hfit, _, _, hcells⟩ := hB
              rw [hL] at hL'; cases hL'
              obtain ⟨v', hv', hrun⟩ := run_loadC h1 hh hfit hcells
              exact ⟨v', hv', by simp [resFun, he, asAddr, hrun]⟩
            · cases h1
          · cases h1
      obtain ⟨v', hv', hrun'⟩ := one
      refine ⟨v' :: vs', by simp [hl], fun i => ?_, ?_⟩
      · cases i with
        | zero => simpa using hv'
        | succ i => simpa using hrv i
      · rw [List.mapM_cons]
        simp only [Sem.run_bind, hrun', Result.andThen_ok, hrun, Sem.run_pure]
    · cases h

theorem ret_go {f : FuncId} {fn : Func} (hf : P.funcs[f]? = some fn) {todo : List Item} {a : List Value} {m : List Blk} {v : Value} (hs : retOf P fn (.norm todo a m) = some v) {ι : Map} {t : Array Value} {w : World} (hr : Rel ι a m t w)
    {D : List Nat} (hn : D.Nodup) (hj : JM D ι w) (b : Frame) (cs : List Frame) (hb : b.fn = f) (hk : b.kind = .normal) (hro : b.roundOf = none) :
    ∃ v' fr, Steps P (lone (b.atR ⟨t, D.map mark⟩ todo) cs w) (lone fr cs (shut D w)) ∧ fr.fn = f ∧ fr.leaving P (shut D w) (.returned v') ∧ RV ι v v' ∧ Rel ι a m t (shut D w) := by
  have hr2 := shut_rel D w hn hj hr
  have key : (todo = [] ∨ ∃ k, todo = .code .ret :: k) ∧ (resAll P a m fn.results.toList).map tupled = some v := by
    unfold retOf at hs
    split at hs
    · rename_i e; cases e; exact ⟨.inr ⟨_, rfl⟩, hs⟩
    · rename_i e; cases e; exact ⟨.inl rfl, hs⟩
    · cases hs
  obtain ⟨htodo, hres⟩ := key
  rw [Option.map_eq_some_iff] at hres
  obtain ⟨vs, hvs, rfl⟩ := hres
  obtain ⟨vs', hl, hrv, hrun⟩ := run_resAll hr2 _ _ hvs
  have hresults : ∃ v', RV ι (tupled vs) v' ∧ (results fn t).run P (shut D w) = .ok v' (shut D w) := by
    refine ⟨tupled vs', ?_, ?_⟩
    · match vs, vs', hl with
      | [], [], _ => exact .tuple rfl (fun i => by simpa using RV.any undef)
      | [x], [y], _ => simpa [tupled] using hrv 0
      | x :: x2 :: l, y :: y2 :: l', hl => exact .tuple (by simpa using hl) (fun i => by have := hrv i; simpa [List.getD_eq_getElem?_getD] using this)
    · rw [results_eq, Array.mapM_eq_mapM_toList]
      simp only [Sem.run_bind, Sem.run_map]
      rw [hrun]
      simp only [Result.andThen_ok, Sem.run_pure]
      match vs' with
      | [] => rfl
      | [y] => rfl
      | y :: y2 :: l => simp [tupled]
  obtain ⟨v', hv', hrun'⟩ := hresults
  rcases htodo with rfl | ⟨k, rfl⟩
  · exact ⟨v', _, .head (stepR_end hro) (leave_marks D w _ cs rfl rfl hn hj), hb, ⟨rfl, rfl, hk, fn, by show P.funcs[b.fn]? = _; rw [hb]; exact hf, hrun'⟩, hv', hr2⟩
  · exact ⟨v', _, .head (stepR_ret hro) (leave_marks D w _ cs rfl rfl hn hj), hb, ⟨rfl, rfl, hk, fn, by show P.funcs[b.fn]? = _; rw [hb]; exact hf, hrun'⟩, hv', hr2⟩

/-- Is it a function's frame, and the function this one? -/
def Fr.ofFn : Fr → Program → Func → Prop
  | .fn0 f, P, g => P.funcs[f]? = some g
  | .fn f, P, g => P.funcs[f]? = some g
  | .rd _, _, _ => False
def Fr.IsF : Fr → FuncId → Prop
  | .fn0 f, g => f = g
  | .fn f, g => f = g
  | .rd _, _ => False
theorem Fr.IsF.of {g : FuncId} {fn : Func} (h : f.IsF g) (hf : P.funcs[g]? = some fn) : f.ofFn P fn := by
  cases f with
  | rd _ => exact h.elim
  | _ => cases h; exact hf
theorem Runs.ret {s : VS} {v : Value} {fn : Func} (hf : f.ofFn P fn) (hs : retOf P fn s = some v) : Runs P f n0 s v s.mem := by
  cases s with
  | reg k id ops draw a0 m0 i a m recs => simp [retOf] at hs
  | norm todo a m =>
    intro D ds ι t w hr b cs hb hk hB hD hj
    cases f with
    | rd g => exact hf.elim
    | fn0 g =>
      obtain ⟨hro, rfl, rfl⟩ := hB
      obtain ⟨v', fr, s1, h1, h2, h3, h4⟩ := ret_go (f := g) hf hs hr hD hj b cs hb hk hro
      exact ⟨w, fr, ι, s1, ⟨h1, v', h2, h3⟩, h4.sim, h4.dom, DoneX.refl _ _ _ _ _⟩
    | fn g =>
      obtain ⟨hro, rfl⟩ := hB
      obtain ⟨v', fr, s1, h1, h2, h3, h4⟩ := ret_go (f := g) hf hs hr hD hj b cs hb hk hro
      exact ⟨shut D w, fr, ι, s1, ⟨h1, v', h2, h3⟩, h4.sim, h4.dom, shut_done D w⟩

/-! ### Entries -/
def entry (fn : Func) (args : List Value) (m : List Blk) : VS :=
  match fn.body with
  | some c => fl (args ++ List.replicate (fn.ntmps - args.length) undef) fun a => .norm [.code c] a m
  | none => .norm [.code .skip] args m

theorem FnEq.of_runs' {f : FuncId} {c : Fr} (hc : c = .fn0 f ∨ c = .fn f) {fn : Func} {args : List Value} {m m' : List Blk} {v : Value} (hf : P.funcs[f]? = some fn) (hb : fn.body.isSome = true) (h : Runs P c m.length (entry fn args m) v m') : FnEq P f args m v m' := by
  intro ι args' w hsz hargs hsim hdom cs
  cases hbody : fn.body with
  | none => simp [hbody] at hb
  | some code =>
    simp only [entry, hbody, fl_eq] at h
    let b : Frame := { (default : Frame) with fn := f, kind := .normal, roundOf := none }
    have henter : Frame.enter P f args' .normal = b.atR ⟨args' ++ Array.replicate (fn.ntmps - args'.size) undef, []⟩ [.code code] := by
      simp [Frame.enter, Frame.atR, hf, hbody, b]
    have hB : c.B b [] [] := by rcases hc with rfl | rfl <;> simp [Fr.B, b]
    have hbf : b.fn = c.f := by rcases hc with rfl | rfl <;> rfl
    obtain ⟨w', fr, ι', h1, hZ, h5, h6, h7⟩ := h [] [] ι (args' ++ Array.replicate (fn.ntmps - args'.size) undef) w ⟨by simp; omega, fun x => by
        simp only [List.getD_eq_getElem?_getD, Array.getD_eq_getD_getElem?]
        by_cases hx : x < args.length
        · rw [List.getElem?_append_left hx, Array.getElem?_append_left (by omega)]
          have := hargs x
          simpa [List.getD_eq_getElem?_getD] using this
        · rw [List.getElem?_append_right (by omega)]
          have : (List.replicate (fn.ntmps - args.length) undef)[x - args.length]?.getD undef = undef := by
            rw [List.getElem?_replicate]
            split <;> rfl
          rw [this]; exact .any _, hsim, hdom⟩ b cs hbf rfl hB List.nodup_nil (fun d hd => by cases hd)
    have hZ' : fr.fn = f ∧ ∃ v', fr.leaving P w' (.returned v') ∧ RV ι' v v' := by rcases hc with rfl | rfl <;> exact hZ
    obtain ⟨h2, v', h3, h4⟩ := hZ'
    exact ⟨.returned v', w', fr, ⟨v', ι', rfl, h4, h5, h6, ⟨⟨fun b L hb => h7.le b L (hdom b (by simp [hb])) hb, h7.lef⟩, h7.size, h7.os, h7.tape, h7.output, fun k hk hn => h7.frame k hk hn (fun h => by cases h), h7.own, h7.live, h7.fro⟩⟩, by rw [henter]; exact h1, h2, h3⟩
theorem FnEq.of_runs {f : FuncId} {fn : Func} {args : List Value} {m m' : List Blk} {v : Value} (hf : P.funcs[f]? = some fn) (hb : fn.body.isSome = true) (h : Runs P (.fn0 f) m.length (entry fn args m) v m') : FnEq P f args m v m' := FnEq.of_runs' (.inl rfl) hf hb h
theorem FnEq.of_runsM {f : FuncId} {fn : Func} {args : List Value} {m m' : List Blk} {v : Value} (hf : P.funcs[f]? = some fn) (hb : fn.body.isSome = true) (h : Runs P (.fn f) m.length (entry fn args m) v m') : FnEq P f args m v m' := FnEq.of_runs' (.inr rfl) hf hb h

end
section
variable {P : Program} {f : FuncId} {n0 : Nat}
/-! ### What is dropped at the end -/
def keepAt (ks : List Nat) : Nat → Option Nat := fun b => if ks.contains b then some (ks.idxOf b) else none

theorem nodup_inj {l : List Nat} (h : l.Nodup) {i j : Nat} (hi : i < l.length) (hj : j < l.length) (e : l[i] = l[j]) : i = j := by
  rcases Nat.lt_trichotomy i j with h1 | h1 | h1
  · exact absurd e (List.pairwise_iff_getElem.1 h i j hi hj h1)
  · exact h1
  · exact absurd e.symm (List.pairwise_iff_getElem.1 h j i hj hi h1)

theorem FnEq.drop {args : List Value} {m m1 m2 : List Blk} {v u : Value} (ks : List Nat) (h : FnEq P f args m v m1) (hpre : ∀ i, i < m.length → ks[i]? = some i) (hnd : ks.Nodup) (hlen : m2.length = ks.length)
    (hv : Lift (keepAt ks) v u) (hb : ∀ j b, ks[j]? = some b → BLift (keepAt ks) (m1.getD b .gone) (m2.getD j .gone)) : FnEq P f args m u m2 := by
  intro ι args' w hsz hargs hsim hdom
  refine (h ι args' w hsz hargs hsim hdom).mono fun e w' he => ?_
  obtain ⟨v', ι1, rfl, hv1, hs1, hd1, hext⟩ := he
  let ι2 : Map := ⟨fun j => (ks[j]?).bind ι1.loc, ι1.fro⟩
  have hfro : ∀ r c, ι1.fro r = some c → ι2.fro r = some c := fun _ _ h => h
  have back : ∀ i b L, keepAt ks i = some b → ι1 i = some L → ι2 b = some L := fun i b L hi hL => by
    unfold keepAt at hi
    split at hi
    · rename_i hc
      cases hi
      have hm : i ∈ ks := by simpa using hc
      have : ks[ks.idxOf i]? = some i := by
        rw [List.getElem?_eq_getElem (List.idxOf_lt_length_of_mem hm)]
        simp
      simp [ι2, this, hL]
    · cases hi
  have src : ∀ j, (at_ m2 j).live = true → ∃ b, ks[j]? = some b ∧ keepAt ks b = some j ∧ BLift (keepAt ks) (at_ m1 b) (at_ m2 j) := fun j hl => by
    have hj : j < ks.length := by
      rcases Nat.lt_or_ge j m2.length with h' | h'
      · omega
      · simp [at_, List.getD_eq_getElem?_getD, List.getElem?_eq_none h', Blk.live] at hl
    refine ⟨ks[j], by simp [hj], ?_, hb j _ (by simp [hj])⟩
    unfold keepAt
    rw [if_pos (by simp)]
    congr 1
    exact nodup_inj hnd (List.idxOf_lt_length_of_mem (by simp)) hj (by simp)
  have place : ∀ j L, (at_ m2 j).live = true → ι2 j = some L → ∃ b, ks[j]? = some b ∧ BLift (keepAt ks) (at_ m1 b) (at_ m2 j) ∧ ι1 b = some L := fun j L hl hL => by
    obtain ⟨b, h1, _, h3⟩ := src j hl
    refine ⟨b, h1, h3, ?_⟩
    simpa [ι2, h1] using hL
  refine ⟨v', ι2, rfl, hv.up back hfro hv1, ⟨fun j => ?_, fun j j2 L L2 hne ho hl hL hL2 => ?_, hs1.fro, fun j L r c ho hL hr => ?_, hs1.glo⟩, fun j hj => ?_, ⟨⟨fun b L hL => ?_, hext.le.fro⟩, hext.size, hext.os, hext.tape, hext.output, hext.frame, fun k => ?_, fun k => ?_, hext.fro⟩⟩
  · cases hl : (at_ m2 j).live with
    | false => cases hx : at_ m2 j <;> simp_all [Blk.live]; trivial
    | true =>
      obtain ⟨b, h1, h2, h3⟩ := src j hl
      exact h3.up back hfro h2 (hs1.blk b)
  · obtain ⟨b, h1, h2, h3⟩ := place j L (Blk.live_of_own ho) hL
    obtain ⟨b2, h4, h5, h6⟩ := place j2 L2 hl hL2
    refine hs1.sep b b2 L L2 (fun e => hne ?_) (h2.own ho) (h5.live hl) h3 h6
    subst e
    have hj := (List.getElem?_eq_some_iff.1 h1)
    have hj2 := (List.getElem?_eq_some_iff.1 h4)
    exact nodup_inj hnd hj.1 hj2.1 (hj.2.trans hj2.2.symm)
  · obtain ⟨b, h1, h2, h3⟩ := place j L (Blk.live_of_own ho) hL
    exact hs1.apart b L r c (h2.own ho) h3 hr
  · rw [hlen]
    rcases Nat.lt_or_ge j ks.length with h' | h'
    · exact h'
    · simp [ι2, List.getElem?_eq_none h'] at hj
  · have hlt := hdom b (by simp [hL])
    simp [ι2, hpre b hlt, hext.le b L hL]
  · rintro ⟨j, L, ho, hL, hk⟩
    obtain ⟨b, h1, h2, h3⟩ := place j L (Blk.live_of_own ho) hL
    exact hext.own k ⟨b, L, h2.own ho, h3, hk⟩
  · rintro ⟨j, L, ho, hL, hk⟩
    obtain ⟨b, h1, h2, h3⟩ := place j L ho hL
    exact hext.live k ⟨b, L, h2.live ho, h3, hk⟩

/-- A function that gives no memory but what will never be written. -/
theorem FnEq.pureR {args : List Value} {m1 : List Blk} {v : Value} (h : FnEq P f args [] v m1) (hv : pureV v = true) : FnEq P f args [] v [] :=
  FnEq.drop [] h (fun i hi => by simp at hi) List.nodup_nil rfl (.pure hv) (fun j b hj => by simp at hj)

/-- A function that neither gets nor gives memory. -/
theorem FnEq.pure {args : List Value} {m1 : List Blk} {v : Value} (h : FnEq P f args [] v m1) (hv : plain v = true) : FnEq P f args [] v [] :=
  FnEq.drop [] h (fun i hi => by simp at hi) List.nodup_nil rfl (.plain hv) (fun j b hj => by simp at hj)

end

end

end Go.Dt
