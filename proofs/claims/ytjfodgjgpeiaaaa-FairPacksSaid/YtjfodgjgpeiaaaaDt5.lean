/- Operations over canonical memories, one by one. -/
import Derived.Test.YtjfodgjgpeiaaaaDt4
import Derived.Laws.CopyRow
import Derived.Laws.Cells
namespace Go.Dt
open Go.Instr

/-! ### Values without addresses -/
mutual
def plain : Value → Bool
  | .bool _ | .int _ _ | .float _ _ | .string _ | .nilFunc | .nilIface => true
  | .pointer none | .slice none _ _ | .map none => true
  | .iface t v => Nat.blt t frzT && plain v
  | .agg ⟨l⟩ => plains l
  | .tuple ⟨l⟩ => !l.isEmpty && plains l
  | _ => false
def plains : List Value → Bool
  | [] => true
  | v :: l => plain v && plains l
end

theorem plains_get : ∀ {l : List Value} {i : Nat}, plains l = true → i < l.length → plain (l.getD i undef) = true
  | v :: l, 0, h, _ => by simp only [plains, Bool.and_eq_true] at h; simpa [List.getD_eq_getElem?_getD] using h.1
  | v :: l, i + 1, h, hi => by
    simp only [plains, Bool.and_eq_true] at h
    simpa [List.getD_eq_getElem?_getD] using plains_get (i := i) h.2 (by simpa using hi)

mutual
theorem RV.refl (ι : Map) : ∀ v : Value, plain v = true → RV ι v v
  | .bool b, _ => .bool b
  | .int k n, _ => .int k n
  | .float k n, _ => .float k n
  | .string s, _ => .string s
  | .nilFunc, _ => .nilFunc
  | .nilIface, _ => .nilIface
  | .pointer none, _ => .nilp
  | .slice none l c, _ => .nils l c
  | .map none, _ => .nilm
  | .iface t v, h => .iface t (by simp only [plain, Bool.and_eq_true] at h; exact Nat.lt_of_succ_le (Nat.le_of_ble_eq_true h.1)) (RV.refl ι v (by simp only [plain, Bool.and_eq_true] at h; exact h.2))
  | .agg ⟨l⟩, h => .agg rfl (by simpa using RV.refls ι l (by simpa [plain] using h))
  | .tuple ⟨l⟩, h => .tuple rfl (by simpa using RV.refls ι l (by simp only [plain, Bool.and_eq_true] at h; exact h.2))
  | .complex _ _ _, h => by simp [plain] at h
  | .pointer (some _), h => by simp [plain] at h
  | .slice (some _) _ _, h => by simp [plain] at h
  | .map (some _), h => by simp [plain] at h
  | .chan _, h => by simp [plain] at h
  | .func _ _ _, h => by simp [plain] at h
theorem RV.refls (ι : Map) : ∀ l : List Value, plains l = true → ∀ i : Nat, RV ι (l[i]?.getD undef) (l[i]?.getD undef)
  | [], _, i => by simpa using RV.any undef
  | v :: l, h, 0 => by simp only [plains, Bool.and_eq_true] at h; simpa using RV.refl ι v h.1
  | v :: l, h, i + 1 => by simp only [plains, Bool.and_eq_true] at h; simpa using RV.refls ι l h.2 i
end

theorem arr_ext {cs cs' : Array Value} (hs : cs.size = cs'.size) (h : ∀ i : Nat, i < cs.size → cs.getD i undef = cs'.getD i undef) : cs = cs' := by
  apply Array.ext hs
  intro i h1 h2
  have := h i h1
  simpa [h1, h2] using this

theorem RV.eq_of_plain {ι : Map} {v v' : Value} (h : RV ι v v') (hp : plain v = true) : v = v' := by
  induction h with
  | any v => simp [plain, undef] at hp
  | skip => simp [plain] at hp
  | agg hs h ih =>
    rename_i cs cs'
    have : cs = cs' := arr_ext hs fun i hi => ih i (by
      obtain ⟨l⟩ := cs
      simp only [plain] at hp
      have := plains_get (i := i) hp (by simpa using hi)
      simpa [List.getD_eq_getElem?_getD] using this)
    rw [this]
  | tuple hs h ih =>
    rename_i cs cs'
    have : cs = cs' := arr_ext hs fun i hi => ih i (by
      obtain ⟨l⟩ := cs
      simp only [plain, Bool.and_eq_true] at hp
      have := plains_get (i := i) hp.2 (by simpa using hi)
      simpa [List.getD_eq_getElem?_getD] using this)
    rw [this]
  | iface t ht h ih => rw [ih (by simp only [plain, Bool.and_eq_true] at hp; exact hp.2)]
  | frz => exact absurd ((Bool.and_eq_true _ _).mp hp).1 (by decide)
  | frzN => exact absurd ((Bool.and_eq_true _ _).mp hp).1 (by decide)
  | frzE => exact absurd ((Bool.and_eq_true _ _).mp hp).1 (by decide)
  | empN => exact absurd ((Bool.and_eq_true _ _).mp hp).1 (by decide)
  | empE => exact absurd ((Bool.and_eq_true _ _).mp hp).1 (by decide)
  | anyB => exact absurd ((Bool.and_eq_true _ _).mp hp).1 (by decide)
  | frp => exact absurd ((Bool.and_eq_true _ _).mp hp).1 (by decide)
  | ptr h => simp [plain] at hp
  | slice h hc hr => simp [plain] at hp
  | slice0 x y => simp [plain] at hp
  | map h => simp [plain] at hp
  | func fn hx hy h h' => simp [plain] at hp
  | _ => rfl

theorem pures_get : ∀ {l : List Value} {i : Nat}, pures l = true → i < l.length → pureV (l.getD i undef) = true
  | v :: l, 0, h, _ => by simp only [pures, Bool.and_eq_true] at h; simpa [List.getD_eq_getElem?_getD] using h.1
  | v :: l, i + 1, h, hi => by
    simp only [pures, Bool.and_eq_true] at h
    simpa [List.getD_eq_getElem?_getD] using pures_get (i := i) h.2 (by simpa using hi)

mutual
theorem pure_of_plain : ∀ v : Value, plain v = true → pureV v = true
  | .bool _, _ => rfl
  | .int _ _, _ => rfl
  | .float _ _, _ => rfl
  | .string _, _ => rfl
  | .nilFunc, _ => rfl
  | .nilIface, _ => rfl
  | .pointer none, _ => rfl
  | .slice none _ _, _ => rfl
  | .map none, _ => rfl
  | .iface t v, h => by
    simp only [plain, Bool.and_eq_true] at h
    simp only [pureV, pure_of_plain v h.2, h.1, cond_true]
  | .agg ⟨l⟩, h => by simpa [pureV] using pures_of_plains l (by simpa [plain] using h)
  | .tuple ⟨l⟩, h => by simp only [plain, Bool.and_eq_true] at h; simp only [pureV, h.1, pures_of_plains l h.2, Bool.and_self]
  | .complex _ _ _, h => by simp [plain] at h
  | .pointer (some _), h => by simp [plain] at h
  | .slice (some _) _ _, h => by simp [plain] at h
  | .map (some _), h => by simp [plain] at h
  | .chan _, h => by simp [plain] at h
  | .func _ _ _, h => by simp [plain] at h
theorem pures_of_plains : ∀ l : List Value, plains l = true → pures l = true
  | [], _ => rfl
  | v :: l, h => by simp only [plains, Bool.and_eq_true] at h; simp only [pures, pure_of_plain v h.1, pures_of_plains l h.2, Bool.and_self]
end

theorem RV.pure_move {ι ι2 : Map} (hf : ∀ r c, ι.fro r = some c → ι2.fro r = some c) {v x : Value} (h : RV ι v x) (hp : pureV v = true) : RV ι2 v x := by
  induction h with
  | any v => exact .any v
  | skip => exact .skip
  | bool b => exact .bool b
  | int k n => exact .int k n
  | float k n => exact .float k n
  | string s => exact .string s
  | nilp => exact .nilp
  | ptr h => simp [pureV] at hp
  | nils l c => exact .nils l c
  | slice h hc hr => simp [pureV] at hp
  | slice0 x y => exact .slice0 x y
  | nilm => exact .nilm
  | map h => simp [pureV] at hp
  | func fn hx hy _ _ i1 i2 =>
    rename_i xs xs' ys ys' _ _
    obtain ⟨l⟩ := xs
    obtain ⟨k⟩ := ys
    simp only [pureV, Bool.and_eq_true] at hp
    refine .func fn hx hy (fun i => ?_) (fun i => ?_)
    · by_cases hi : i < l.length
      · exact i1 i (by have := pures_get (i := i) hp.1 hi; simpa [List.getD_eq_getElem?_getD] using this)
      · have e : (⟨l⟩ : Array Value).getD i undef = undef := by simp [Array.getD_eq_getD_getElem?, List.getElem?_eq_none (Nat.le_of_not_lt hi)]
        rw [e]; exact .any _
    · by_cases hi : i < k.length
      · exact i2 i (by have := pures_get (i := i) hp.2 hi; simpa [List.getD_eq_getElem?_getD] using this)
      · have e : (⟨k⟩ : Array Value).getD i undef = undef := by simp [Array.getD_eq_getD_getElem?, List.getElem?_eq_none (Nat.le_of_not_lt hi)]
        rw [e]; exact .any _
  | nilFunc => exact .nilFunc
  | iface t ht _ ih =>
    simp only [pureV, Nat.blt, Nat.ble_eq_true_of_le (Nat.succ_le_of_lt ht), cond_true] at hp
    exact .iface t ht (ih hp)
  | frz h hn hp' hfit _ ih => exact .frz (hf _ _ h) hn hp' hfit fun i hi => ih i hi (pures_get hp' hi)
  | frzN => exact .frzN
  | frzE x cap => exact .frzE x cap
  | empN => exact .empN
  | empE x => exact .empE x
  | anyB b => exact .anyB b
  | frp h hp' hfit _ ih => exact .frp (hf _ _ h) hp' hfit fun i hi => ih i hi (pures_get hp' hi)
  | nilIface => exact .nilIface
  | agg hs _ ih =>
    rename_i cs cs' _
    obtain ⟨l⟩ := cs
    have hp : pures l = true := by simpa [pureV] using hp
    refine .agg hs fun i => ?_
    by_cases hi : i < l.length
    · exact ih i (by have := pures_get (i := i) hp hi; simpa [List.getD_eq_getElem?_getD] using this)
    · have e : (⟨l⟩ : Array Value).getD i undef = undef := by simp [Array.getD_eq_getD_getElem?, List.getElem?_eq_none (Nat.le_of_not_lt hi)]
      rw [e]; exact .any _
  | tuple hs _ ih =>
    rename_i cs cs' _
    obtain ⟨l⟩ := cs
    have hp : pures l = true := by simp only [pureV, Bool.and_eq_true] at hp; exact hp.2
    refine .tuple hs fun i => ?_
    by_cases hi : i < l.length
    · exact ih i (by have := pures_get (i := i) hp hi; simpa [List.getD_eq_getElem?_getD] using this)
    · have e : (⟨l⟩ : Array Value).getD i undef = undef := by simp [Array.getD_eq_getD_getElem?, List.getElem?_eq_none (Nat.le_of_not_lt hi)]
      rw [e]; exact .any _

/-! ### Operands -/
def evalC (a : List Value) : Operand → Value
  | .tmp t => a.getD t undef
  | .const v => v
  | .global _ => undef
  | .func f => .func (.func f) #[] #[]

def okConst : Operand → Bool
  | .const v => plain v
  | _ => true

theorem mem_slots {o : Oper} {t : Nat} (h : Operand.tmp t ∈ o.op.operands) : t ∈ slotsOf o := by
  unfold slotsOf
  rw [List.mem_filterMap]
  exact ⟨.tmp t, by simpa using h, rfl⟩

theorem rv_operand {ι : Map} {a : List Value} {t : Array Value} {o : Oper} (hs : ∀ x, x ∈ slotsOf o → RV ι (a.getD x undef) (t.getD x undef)) {x : Operand} (hx : x ∈ o.op.operands) (hc : okConst x = true) :
    RV ι (evalC a x) ((act t).eval x) := by
  cases x with
  | tmp n => exact hs n (mem_slots hx)
  | const v => exact RV.refl ι v hc
  | global g => exact .any _
  | func f => exact .func _ rfl rfl (fun i => by simpa using RV.any undef) (fun i => by simpa using RV.any undef)

/-! ### Operations that look at nothing but plain values -/
def pureEval (P : Program) {α : Type} : Sem α → Option α
  | .pure a => some a
  | .program k => pureEval P (k P)
  | _ => none

theorem run_of_pureEval {P : Program} {α : Type} {s : Sem α} {x : α} (h : pureEval P s = some x) (w : World) : s.run P w = .ok x w := by
  induction s with
  | pure a => simp only [pureEval] at h; cases h; rfl
  | program k ih => simp only [pureEval] at h; exact ih P h
  | _ => simp [pureEval] at h

def notSelect (o : Oper) : Bool := match o.op with | .select .. => false | _ => true
def plainOperand (a : List Value) : Operand → Bool
  | .tmp t => plain (a.getD t undef)
  | .const _ => true
  | .global _ => false
  | .func _ => true

theorem OpOk.plainOp {P : Program} {o : Oper} {a : List Value} {m : List Blk} {v : Value} (hops : o.op.operands.toList.all (plainOperand a) = true) (hn : notSelect o = true) (hv : plain v = true)
    (h : pureEval P (execOp (evalC a) o) = some (.value v)) : OpOk P o a m v m ⟨[], []⟩ :=
  OpOk.quiet fun ι t w hs => by
    refine ⟨v, RV.refl ι v hv, ?_⟩
    have hcongr : execOp (act t).eval o = execOp (evalC a) o := by
      refine execOp_congr o (fun cs b hsel => by simp [notSelect, hsel] at hn) fun x hx => ?_
      have hp := List.all_eq_true.1 hops x (by simpa using hx)
      cases x with
      | tmp n => exact ((hs n (mem_slots hx)).eq_of_plain (by simpa [plainOperand] using hp)).symm
      | const v => rfl
      | global g => simp [plainOperand] at hp
      | func f => rfl
    rw [hcongr]
    exact run_of_pureEval h w

/-! ### Values that are handed on -/
section
variable {P : Program} {o : Oper} {a : List Value} {m : List Blk}

theorem OpOk.move {x : Operand} (ho : o.op = .move x ∨ o.op = .assign x) (hc : okConst x = true) : OpOk P o a m (evalC a x) m ⟨[], []⟩ :=
  OpOk.quiet fun ι t w hs => by
    have hx : x ∈ o.op.operands := by rcases ho with ho | ho <;> rw [ho] <;> simp [Op.operands]
    refine ⟨_, rv_operand hs hx hc, ?_⟩
    rcases ho with ho | ho <;> · unfold execOp; rw [ho]; rfl

theorem OpOk.extract {x : Operand} {i : Nat} {vs : Array Value} {v : Value} (ho : o.op = .extract x i) (hx : evalC a x = .tuple vs) (hc : okConst x = true) (hv : vs[i]? = some v) : OpOk P o a m v m ⟨[], []⟩ :=
  OpOk.quiet fun ι t w hs => by
    have h := rv_operand hs (x := x) (by rw [ho]; simp [Op.operands]) hc
    rw [hx] at h
    have hlt : i < vs.size := (Array.getElem?_eq_some_iff.1 hv).1
    generalize hy : (act t).eval x = y at h
    cases h with
    | any => simp at hlt
    | tuple hsz hh =>
      rename_i vs'
      refine ⟨vs'[i]'(by omega), ?_, ?_⟩
      · have := hh i
        have h1 : vs.getD i undef = v := by simp [Array.getD_eq_getD_getElem?, hv]
        have h2 : vs'.getD i undef = vs'[i]'(by omega) := by simp [show i < vs'.size by omega]
        rwa [h1, h2] at this
      · unfold execOp; rw [ho]
        simp only [hy, Instr.extract]
        simp [show i < vs'.size by omega]

def asAggC : Value → Option (Array Value)
  | .agg cs => some cs
  | _ => none

def isAggC (P : Program) (t : TypeId) : Option Bool :=
  match P.underlying t with
  | some (.struct _) | some (.array _ _) => some true
  | some _ => some false
  | none => none

theorem run_isAgg {t : TypeId} {b : Bool} (h : isAggC P t = some b) (w : World) : (isAgg t).run P w = .ok b w := by
  unfold isAggC at h
  unfold isAgg
  cases hu : P.underlying t with
  | none => simp [hu] at h
  | some d => cases d <;> simp_all [run_underlying hu w]

def szC (P : Program) (t : TypeId) : Option Nat := (P.info? t).map (·.size)

theorem run_info {t : TypeId} {i : TypeInfo} (h : P.info? t = some i) (w : World) : (typeInfo t).run P w = .ok i w := by
  unfold typeInfo program
  rw [Sem.run_bind]
  show Result.andThen (.ok P w) _ = _
  simp [h]

theorem run_szC {t : TypeId} {n : Nat} (h : szC P t = some n) (w : World) : (sizeOf t).run P w = .ok n w := by
  unfold szC at h
  cases hi : P.info? t with
  | none => simp [hi] at h
  | some i =>
    simp only [hi, Option.map_some, Option.some.injEq] at h
    subst h
    simp [sizeOf, run_info hi]

theorem getD_extract {cs : Array Value} {off n i : Nat} (h : i < n) : (cs.extract off (off + n)).getD i undef = cs.getD (off + i) undef := by
  simp only [Array.getD_eq_getD_getElem?, Array.getElem?_extract]
  by_cases hb : off + i < cs.size
  · rw [if_pos (by omega)]
  · rw [if_neg (by omega)]
    simp [Array.getElem?_eq_none (Nat.le_of_not_lt hb)]

/-- A part of an aggregate: a struct's field, an array's element. -/
def partC (P : Program) (t : TypeId) (cs : Array Value) (off : Nat) : Option Value :=
  match isAggC P t with
  | some true => (szC P t).map fun n => .agg (cs.extract off (off + n))
  | some false => cs[off]?
  | none => none

theorem run_part {ι : Map} {t : TypeId} {cs cs' : Array Value} {off : Nat} {v : Value} (h : partC P t cs off = some v) (hs : cs.size = cs'.size) (hr : ∀ i : Nat, RV ι (cs.getD i undef) (cs'.getD i undef)) (w : World) :
    ∃ v', RV ι v v' ∧ (part t cs' off).run P w = .ok v' w := by
  unfold partC at h
  cases hagg : isAggC P t with
  | none => simp [hagg] at h
  | some b =>
    have hra := run_isAgg hagg w
    cases b with
    | true =>
      simp only [hagg] at h
      cases hz : szC P t with
      | none => simp [hz] at h
      | some n =>
        simp only [hz, Option.map_some, Option.some.injEq] at h
        subst h
        refine ⟨.agg (cs'.extract off (off + n)), .agg (by simp [hs]) (fun i => ?_), ?_⟩
        · by_cases hi : i < n
          · rw [getD_extract hi, getD_extract hi]; exact hr _
          · have : (cs.extract off (off + n)).getD i undef = undef := by
              have h2 : ¬ i < (cs.extract off (off + n)).size := by simp; omega
              simp only [Array.getD, h2, dite_false]
            rw [this]; exact .any _
        · unfold part
          simp [hra, run_szC hz w]
    | false =>
      simp only [hagg] at h
      have hlt : off < cs.size := (Array.getElem?_eq_some_iff.1 h).1
      have hlt' : off < cs'.size := by omega
      refine ⟨cs'[off], ?_, ?_⟩
      · have := hr off
        simp only [Array.getD_eq_getD_getElem?, h] at this
        simpa [hlt'] using this
      · unfold part
        simp [hra, hlt']

theorem RV.agg_inv {ι : Map} {cs : Array Value} {v : Value} (h : RV ι (.agg cs) v) : ∃ cs', v = .agg cs' ∧ cs.size = cs'.size ∧ ∀ i : Nat, RV ι (cs.getD i undef) (cs'.getD i undef) := by
  cases h with
  | agg hs hh => exact ⟨_, rfl, hs, hh⟩

theorem OpOk.field {t : TypeId} {x : Operand} {f : Nat} {fs : Array Field} {fd : Field} {cs : Array Value} {v : Value} (ho : o.op = .field t x f) (hc : okConst x = true) (hx : evalC a x = .agg cs)
    (hu : P.underlying t = some (.struct fs)) (hf : fs[f]? = some fd) (hv : partC P fd.type cs fd.offset = some v) : OpOk P o a m v m ⟨[], []⟩ :=
  OpOk.quiet fun ι tt w hs => by
    have h := rv_operand hs (x := x) (by rw [ho]; simp [Op.operands]) hc
    rw [hx] at h
    obtain ⟨cs', he, hsz, hh⟩ := h.agg_inv
    obtain ⟨v', hv', hr⟩ := run_part hv hsz hh w
    refine ⟨v', hv', ?_⟩
    unfold execOp; rw [ho]
    simp [Instr.field, he, run_underlying hu w, hf, asAgg, hr]

end
end Go.Dt
