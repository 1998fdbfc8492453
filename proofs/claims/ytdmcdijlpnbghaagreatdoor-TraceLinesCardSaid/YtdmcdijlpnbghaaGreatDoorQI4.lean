/- Several texts in one: Dt9, DtA, DtB. -/
import Derived.Test.YtdmcdijlpnbghaaGreatDoorQI3
import Derived.Laws.StructEq
import Derived.Laws.Externs
import Derived.ChangeKeysEq
import Derived.Deep.AppendSrc
import Derived.Deep.Upon
import Derived.Laws.MakeOwn
namespace Go.Dt

section


/-! ### Spines laid bare (for the kernel's sake) -/
def nf {β : Type} (n : Nat) (k : Nat → β) : β :=
  match n with
  | 0 => k 0
  | m + 1 => k (m + 1)
theorem nf_eq {β : Type} (n : Nat) (k : Nat → β) : nf n k = k n := by cases n <;> rfl

def fl {α β : Type} : List α → (List α → β) → β
  | [], k => k []
  | x :: xs, k => fl xs fun ys => k (x :: ys)
theorem fl_eq {α β : Type} : ∀ (l : List α) (k : List α → β), fl l k = k l
  | [], _ => rfl
  | x :: xs, k => by simp only [fl]; rw [fl_eq xs]

def fv0 {β : Type} (v : Value) (k : Value → β) : β :=
  match v with
  | .bool b => k (.bool b)
  | .int kd n => k (.int kd n)
  | .string s => k (.string s)
  | .pointer (some ⟨b, o, none⟩) => nf b fun b' => k (.pointer (some ⟨b', o, none⟩))
  | .slice (some ⟨b, o, none⟩) l c => nf b fun b' => k (.slice (some ⟨b', o, none⟩) l c)
  | .slice x l c => k (.slice x l c)
  | .pointer x => k (.pointer x)
  | .map r => k (.map r)
  | v => k v
theorem fv0_eq {β : Type} (v : Value) (k : Value → β) : fv0 v k = k v := by
  unfold fv0
  split <;> first | rfl | (rw [nf_eq])

def fvl {β : Type} : List Value → (List Value → β) → β
  | [], k => k []
  | x :: xs, k => fv0 x fun x' => fvl xs fun ys => k (x' :: ys)
theorem fvl_eq {β : Type} : ∀ (l : List Value) (k : List Value → β), fvl l k = k l
  | [], _ => rfl
  | x :: xs, k => by simp only [fvl]; rw [fv0_eq, fvl_eq xs]

def fv {β : Type} (v : Value) (k : Value → β) : β :=
  match v with
  | .agg ⟨cs⟩ => fvl cs fun cs' => k (.agg ⟨cs'⟩)
  | .tuple ⟨vs⟩ => fvl vs fun vs' => k (.tuple ⟨vs'⟩)
  | .func fn ⟨xs⟩ ⟨ys⟩ => fvl xs fun xs' => fvl ys fun ys' => k (.func fn ⟨xs'⟩ ⟨ys'⟩)
  | v => fv0 v k
theorem fv_eq {β : Type} (v : Value) (k : Value → β) : fv v k = k v := by
  unfold fv
  split <;> first | (rw [fvl_eq, fvl_eq]) | (rw [fvl_eq]) | (rw [fv0_eq])

/-! ### One operation, reckoned -/
def loadC (P : Program) (t : TypeId) (c : List Value) (off : Nat) : Option Value :=
  match isAggC P t with
  | some true => match szC P t with
    | some n => if Nat.ble (off + n) c.length then some (.agg ((c.drop off).take n).toArray) else none
    | none => none
  | some false => c[off]?
  | none => none

def concrete (P : Program) (t : TypeId) : Bool := match P.underlying t with | some (.interface _) => false | some _ => true | none => false

def cellsZero (P : Program) (t : TypeId) : Option (List Value) :=
  match P.info? t with
  | some i => match i.zero with
    | some z => if plains z.cells.toList then some z.cells.toList else none
    | none => none
  | none => none

abbrev Out := Value × List Blk × Fp

def plainD (P : Program) (o : Oper) (a : List Value) (m : List Blk) : Option Out :=
  if o.op.operands.toList.all (plainOperand a) && notSelect o then
    match pureEval P (execOp (evalC a) o) with
    | some (.value v) => if plain v then some (v, m, ⟨[], []⟩) else none
    | _ => none
  else none

def opD (P : Program) (o : Oper) (a : List Value) (m : List Blk) : Option Out :=
  match o.op with
  | .move x => if okConst x then some (evalC a x, m, ⟨[], []⟩) else none
  | .assign x => if okConst x then some (evalC a x, m, ⟨[], []⟩) else none
  | .pick c x y => if okConst c && okConst x && okConst y then match pickC (evalC a c) (evalC a x) (evalC a y) with
      | some v => some (v, m, ⟨[], []⟩)
      | none => none
    else none
  | .extract x i => if okConst x then match evalC a x with
      | .tuple vs => match vs[i]? with
        | some v => some (v, m, ⟨[], []⟩)
        | none => none
      | _ => none
    else none
  | .field t x f => if okConst x then match evalC a x with
      | .agg cs => match P.underlying t with
        | some (.struct fs) => match fs[f]? with
          | some fd => match partC P fd.type cs fd.offset with
            | some v => some (v, m, ⟨[], []⟩)
            | none => none
          | none => none
        | _ => none
      | _ => none
    else none
  | .build t ps => if ps.toList.all (fun p => okConst p.2) && ps.toList.all (fun p => notTuple (evalC a p.2)) && (cellsZero P t).isSome then
      match pureEval P (Instr.build t (partsC a ps)) with
      | some (.agg cs) => some (.agg cs, m, ⟨[], []⟩)
      | _ => none
    else none
  | .nilCheck x => if okConst x then match evalC a x with
      | .pointer (some ⟨b, off, none⟩) => some (.pointer (some ⟨b, off, none⟩), m, ⟨[], []⟩)
      | _ => none
    else none
  | .makeInterface t x => if okConst x && concrete P t && Nat.blt t frzT then some (.iface t (evalC a x), m, ⟨[], []⟩) else none
  | .makeFunc fn xs ys => if (xs ++ ys).all okConst then some (.func fn (xs.map (evalC a)) (ys.map (evalC a)), m, ⟨[], []⟩) else none
  | .fieldAddr t x f => if okConst x then match evalC a x with
      | .pointer (some ⟨b, off, none⟩) => match P.underlying t with
        | some (.struct fs) => match fs[f]? with
          | some fd => match szC P fd.type with
            | some (_ + 1) => nf fd.offset fun d => some (.pointer (some ⟨b, off + d, none⟩), m, ⟨[], []⟩)
            | _ => none
          | none => none
        | _ => none
      | _ => none
    else none
  | .indexAddr t x ix => if okConst x && okConst ix then match evalC a x, evalC a ix with
      | .pointer (some ⟨b, off, none⟩), .int _ i => match P.underlying t with
        | some (.array len e) => match szC P e with
          | some n => if (decide (0 ≤ i) && decide (i < len)) = true then some (.pointer (some ⟨b, off + i.toNat * n, none⟩), m, ⟨[], []⟩) else none
          | none => none
        | _ => none
      | .slice (some ⟨b, off, none⟩) len _, .int _ i => match P.underlying t with
        | some (.slice e) => match szC P e with
          | some n => if (decide (0 ≤ i) && decide (i < len)) = true then some (.pointer (some ⟨b, off + i.toNat * n, none⟩), m, ⟨[], []⟩) else none
          | none => none
        | _ => none
      | _, _ => none
    else none
  | .load t x => if okConst x then match evalC a x with
      | .pointer (some ⟨b, off, none⟩) => match m[b]? with
        | some (.cells c _ _) => match loadC P t c off with
          | some v => some (v, m, ⟨[b], []⟩)
          | none => none
        | _ => none
      | _ => none
    else none
  | .store t x y => if okConst x && okConst y then match evalC a x with
      | .pointer (some ⟨b, off, none⟩) => match m[b]? with
        | some (.cells c sz true) => match szC P t with
          | some n => if Nat.beq (evalC a y).cells.size n && (evalC a y).cells.toList.all one && Nat.ble (off + n) c.length then
              fvl (evalC a y).cells.toList (fun vs => match sz with
                | 0 => fl (splice c off vs) (fun c' => some (undef, m.set b (.cells c' sz true), ⟨[b], [b]⟩))
                | _ + 1 => some (undef, m.set b (.cells (splice c off vs) sz true), ⟨[b], [b]⟩)) else none
          | none => none
        | _ => none
      | _ => none
    else none
  | .box _ x => if okConst x && notTuple (evalC a x) then fvl (evalC a x).cells.toList fun c => some (.pointer (some ⟨m.length, 0, none⟩), m ++ [.cells c 0 true], ⟨[], []⟩) else none
  | .alloc t => match cellsZero P t with
      | some c => fvl c fun c => some (.pointer (some ⟨m.length, 0, none⟩), m ++ [.cells c 0 true], ⟨[], []⟩)
      | none => none
  | .call c => match c.callee with
      | .builtin .len => match c.args.toList, c.argTypes.toList with
        | [x], [t] => if okConst x then match evalC a x with
            | .slice _ l _ => match P.underlying t with
              | some (.slice _) => some (.int .i64 l, m, ⟨[], []⟩)
              | _ => none
            | _ => plainD P o a m
          else none
        | _, _ => none
      | .builtin _ => plainD P o a m
      | _ => none
  | .binOp .. | .unOp .. | .convert .. | .index .. | .slice .. => plainD P o a m
  | _ => none

section
variable {P : Program} {o : Oper} {a : List Value} {m : List Blk}

theorem plainD_ok {v : Value} {m' : List Blk} {fp : Fp} (h : plainD P o a m = some (v, m', fp)) : OpOk P o a m v m' fp := by
  unfold plainD at h
  split at h
  · rename_i hc
    rw [Bool.and_eq_true] at hc
    split at h
    · rename_i hp
      split at h
      · rename_i hv
        cases h
        exact OpOk.plainOp hc.1 hc.2 hv hp
      · cases h
    · cases h
  · cases h

theorem cellsZero_ok {t : TypeId} {c : List Value} (h : cellsZero P t = some c) : ∃ i z, P.info? t = some i ∧ i.zero = some z ∧ plains z.cells.toList = true ∧ c = z.cells.toList := by
  unfold cellsZero at h
  split at h
  · rename_i i hi
    split at h
    · rename_i z hz
      split at h
      · rename_i hp
        cases h
        exact ⟨i, z, hi, hz, hp, rfl⟩
      · cases h
    · cases h
  · cases h

theorem opD_ok {v : Value} {m' : List Blk} {fp : Fp} (h : opD P o a m = some (v, m', fp)) : OpOk P o a m v m' fp := by
  unfold opD at h
  split at h
  · rename_i x ho
    split at h
    · rename_i hc; cases h; exact OpOk.move (.inl ho) hc
    · cases h
  · rename_i x ho
    split at h
    · rename_i hc; cases h; exact OpOk.move (.inr ho) hc
    · cases h
  · rename_i c x y ho
    split at h
    · rename_i hc
      simp only [Bool.and_eq_true] at hc
      split at h
      · rename_i v' hv; cases h; exact OpOk.pick ho hc.1.1 hc.1.2 hc.2 hv
      · cases h
    · cases h
  · rename_i x i ho
    split at h
    · rename_i hc
      split at h
      · rename_i vs hx
        split at h
        · rename_i v' hv; cases h; exact OpOk.extract ho hx hc hv
        · cases h
      · cases h
    · cases h
  · rename_i t x f ho
    split at h
    · rename_i hc
      split at h
      · rename_i cs hx
        split at h
        · rename_i fs hu
          split at h
          · rename_i fd hf
            split at h
            · rename_i v' hv; cases h; exact OpOk.field ho hc hx hu hf hv
            · cases h
          · cases h
        · cases h
      · cases h
    · cases h
  · rename_i t ps ho
    split at h
    · rename_i hc
      simp only [Bool.and_eq_true] at hc
      cases hz : cellsZero P t with
      | none => simp [hz] at hc
      | some c0 =>
        obtain ⟨i, z, hi, hz', hp, _⟩ := cellsZero_ok hz
        split at h
        · rename_i cs hb; cases h; exact OpOk.build ho hc.1.1 hc.1.2 hi hz' hp hb
        · cases h
    · cases h
  · rename_i x ho
    split at h
    · rename_i hc
      split at h
      · rename_i b off hx; cases h; exact OpOk.nilCheck ho hx hc
      · cases h
    · cases h
  · rename_i t x ho
    split at h
    · rename_i hc
      simp only [Bool.and_eq_true] at hc
      cases h; exact OpOk.makeInterface ho hc.1.1 hc.2 hc.1.2
    · cases h
  · rename_i fn xs ys ho
    split at h
    · rename_i hc; cases h; exact OpOk.makeFunc ho hc
    · cases h
  · rename_i t x f ho
    split at h
    · rename_i hc
      split at h
      · rename_i b off hx
        split at h
        · rename_i fs hu
          split at h
          · rename_i fd hf
            split at h
            · rename_i n hz; rw [nf_eq] at h; cases h; exact OpOk.fieldAddr ho hc hx hu hf hz
            · cases h
          · cases h
        · cases h
      · cases h
    · cases h
  · rename_i t x ix ho
    split at h
    · rename_i hc
      simp only [Bool.and_eq_true] at hc
      split at h
      · rename_i b off k i hx hi
        split at h
        · rename_i len e hu
          split at h
          · rename_i n hz
            split at h
            · rename_i hb
              simp only [Bool.and_eq_true, decide_eq_true_eq] at hb
              cases h; exact OpOk.indexArr ho hc.1 hc.2 hx hi hu hz hb.1 hb.2
            · cases h
          · cases h
        · cases h
      · rename_i b off len cap k i hx hi
        split at h
        · rename_i e hu
          split at h
          · rename_i n hz
            split at h
            · rename_i hb
              simp only [Bool.and_eq_true, decide_eq_true_eq] at hb
              cases h; exact OpOk.indexSl ho hc.1 hc.2 hx hi hu hz hb.1 hb.2
            · cases h
          · cases h
        · cases h
      · cases h
    · cases h
  · rename_i t x ho
    split at h
    · rename_i hc
      split at h
      · rename_i b off hx
        split at h
        · rename_i c sz rw_ hb
          split at h
          · rename_i v' hl
            cases h
            unfold loadC at hl
            split at hl
            · rename_i ht
              split at hl
              · rename_i n hn
                split at hl
                · rename_i hle
                  cases hl
                  exact OpOk.loadN ho hc hx hb ht hn (Nat.le_of_ble_eq_true hle)
                · cases hl
              · cases hl
            · rename_i ht; exact OpOk.load1 ho hc hx hb ht hl
            · cases hl
          · cases h
        · cases h
      · cases h
    · cases h
  · rename_i t x y ho
    split at h
    · rename_i hc
      simp only [Bool.and_eq_true] at hc
      split at h
      · rename_i b off hx
        split at h
        · rename_i c sz hb
          split at h
          · rename_i n hn
            split at h
            · rename_i hcond
              simp only [Bool.and_eq_true] at hcond
              have h' : (undef, m.set b (.cells (splice c off (evalC a y).cells.toList) sz true), (⟨[b], [b]⟩ : Fp)) = (v, m', fp) := by
                rw [fvl_eq] at h
                split at h
                · rw [fl_eq] at h; exact Option.some.inj h
                · exact Option.some.inj h
              cases h'
              exact OpOk.store ho hc.1 hc.2 hx hb rfl hn (Nat.eq_of_beq_eq_true hcond.1.1) hcond.1.2 (Nat.le_of_ble_eq_true hcond.2)
            · cases h
          · cases h
        · cases h
      · cases h
    · cases h
  · rename_i t x ho
    split at h
    · rename_i hc
      simp only [Bool.and_eq_true] at hc
      rw [fvl_eq] at h
      cases h; exact OpOk.box ho hc.1 hc.2
    · cases h
  · rename_i t ho
    split at h
    · rename_i c hz
      obtain ⟨i, z, hi, hz', hp, rfl⟩ := cellsZero_ok hz
      rw [fvl_eq] at h
      cases h; exact OpOk.alloc ho hi hz' hp
    · cases h
  · rename_i c ho
    split at h
    · rename_i hcal
      split at h
      · rename_i x t hxs hts
        have hc' : c = { callee := .builtin .len, args := #[x], argTypes := #[t] } := by
          obtain ⟨callee, args, argTypes⟩ := c
          simp only at hcal hxs hts
          subst hcal
          have e1 : args = #[x] := by rw [← Array.toArray_toList (xs := args), hxs]
          have e2 : argTypes = #[t] := by rw [← Array.toArray_toList (xs := argTypes), hts]
          rw [e1, e2]
        split at h
        · rename_i hc
          split at h
          · rename_i base l cap hx
            split at h
            · rename_i e hu; cases h; exact OpOk.lenSl (by rw [ho, hc']) hc hx hu
            · cases h
          · exact plainD_ok h
        · cases h
      · cases h
    · exact plainD_ok h
    · cases h
  · exact plainD_ok h
  · exact plainD_ok h
  · exact plainD_ok h
  · exact plainD_ok h
  · exact plainD_ok h
  · cases h

end

end

section
open Go.Instr

section
variable {P : Program} {o : Oper} {a : List Value} {m : List Blk}

/-! ### Aggregates held against each other -/
def eqC (P : Program) : Nat → TypeId → Value → Value → Option Bool
  | 0, _, _, _ => none
  | d + 1, t, x, y => match P.underlying t with
    | some .bool => match x, y with
      | .bool a, .bool b => some (a == b)
      | _, _ => none
    | some (.int _) => match x, y with
      | .int k a, .int k' b => if k = k' then some (a == b) else none
      | _, _ => none
    | some .string => match x, y with
      | .string a, .string b => some (a == b)
      | _, _ => none
    | some (.struct fs) => match x, y with
      | .agg xs, .agg ys => if P.stoodInHeld t then none else
          fs.toList.foldr (fun f acc => if f.name = "_" then acc else match partC P f.type xs f.offset, partC P f.type ys f.offset with
            | some u, some v => match eqC P d f.type u v, acc with
              | some r, some s => some (r && s)
              | _, _ => none
            | _, _ => none) (some true)
      | _, _ => none
    | some (.array n e) => match x, y with
      | .agg xs, .agg ys => match szC P e with
        | some sz => (List.range n).foldr (fun i acc => match partC P e xs (i * sz), partC P e ys (i * sz) with
            | some u, some v => match eqC P d e u v, acc with
              | some r, some s => some (r && s)
              | _, _ => none
            | _, _ => none) (some true)
        | none => none
      | _, _ => none
    | _ => none

theorem partC_run {t : TypeId} {cs : Array Value} {off : Nat} {v : Value} (h : partC P t cs off = some v) (w : World) : (part t cs off).run P w = .ok v w := by
  unfold partC at h
  cases hagg : isAggC P t with
  | none => simp [hagg] at h
  | some b =>
    have hra := run_isAgg hagg w
    cases b with
    | true =>
      simp only [hagg] at h
      cases hz : szC P t with
      | none => simp [hz] at h
      | some n =>
        simp only [hz, Option.map_some, Option.some.injEq] at h
        subst h
        unfold part
        simp [hra, run_szC hz w]
    | false =>
      simp only [hagg] at h
      unfold part
      simp [hra, h]

theorem run_eqC : ∀ (d : Nat) (t : TypeId) (x y : Value) (r : Bool), eqC P d t x y = some r → ∀ w, (Op.equalIn d t x y).run P w = .ok r w
  | 0, _, _, _, _, h, _ => by cases h
  | d + 1, t, x, y, r, h, w => by
    unfold eqC at h
    split at h
    · rename_i hu
      split at h
      · cases h; exact run_equalIn_bool' w d t _ _ hu
      · cases h
    · rename_i q hu
      split at h
      · split at h
        · rename_i hk
          subst hk
          cases h
          exact run_equalIn_int w d t _ _ _ _ hu
        · cases h
      · cases h
    · rename_i hu
      split at h
      · cases h
        rw [run_equalIn_string w d t _ _ hu, beq_toListBytes]
      · cases h
    · rename_i fs hu
      split at h
      · rename_i xs ys
        split at h
        · cases h
        · rename_i hst
          have hf : P.fieldsOf t = fs := by simp [Program.fieldsOf, hu]
          rw [run_equalIn_struct w d t xs ys (by rw [hf]; exact hu) (by simpa using hst), hf]
          clear hu hf
          generalize fs.toList = l at h
          induction l generalizing r with
          | nil => simp only [List.foldr_nil, Option.some.injEq] at h; subst h; simp [Op.eqFields]
          | cons f l ih =>
            simp only [List.foldr_cons] at h
            split at h
            · rename_i hn
              rw [Op.eqFields, if_neg (by simp [hn])]
              exact ih r h
            · rename_i hn
              split at h
              · rename_i u v hpu hpv
                split at h
                · rename_i r1 s hr1 hs
                  cases h
                  rw [Op.eqFields, if_pos hn]
                  simp only [Sem.run_bind, partC_run hpu, partC_run hpv, run_eqC d f.type u v r1 hr1, Result.andThen_ok]
                  cases r1
                  · simp
                  · simpa using ih s hs
                · cases h
              · cases h
      · cases h
    · rename_i n e hu
      split at h
      · rename_i xs ys
        split at h
        · rename_i sz hz
          unfold szC at hz
          cases hi : P.info? e with
          | none => simp [hi] at hz
          | some i =>
            have hcell : P.cellsOf e = sz := by simp [Program.cellsOf, hz]
            rw [run_equalIn_array w d xs ys hu hi, hcell]
            generalize List.range n = l at h
            induction l generalizing r with
            | nil => simp only [List.foldr_nil, Option.some.injEq] at h; subst h; simp [Op.eqItems]
            | cons j l ih =>
              simp only [List.foldr_cons] at h
              split at h
              · rename_i u v hpu hpv
                split at h
                · rename_i r1 s hr1 hs
                  cases h
                  rw [Op.eqItems]
                  simp only [Sem.run_bind, partC_run hpu, partC_run hpv, run_eqC d e u v r1 hr1, Result.andThen_ok]
                  cases r1
                  · simp
                  · simpa using ih s hs
                · cases h
              · cases h
        · cases h
      · cases h
    · cases h

theorem plain_operand {ι : Map} {t : Array Value} (hs : ∀ x, x ∈ slotsOf o → RV ι (a.getD x undef) (t.getD x undef)) {x : Operand} (hx : x ∈ o.op.operands) (hp : plainOperand a x = true) : (act t).eval x = evalC a x := by
  cases x with
  | tmp n => exact ((hs n (mem_slots hx)).eq_of_plain (by simpa [plainOperand] using hp)).symm
  | const v => rfl
  | global g => simp [plainOperand] at hp
  | func f => rfl

theorem OpOk.eqAgg {op : BinOp} {t ty : TypeId} {x y : Operand} {xs ys : Array Value} {r : Bool} (ho : o.op = .binOp op t x y ty) (hop : op = .eql ∨ op = .neq) (hx : evalC a x = .agg xs) (hy : evalC a y = .agg ys)
    (hpx : plainOperand a x = true) (hpy : plainOperand a y = true) (hg : P.eqGuardType P.depth t = false) (h : eqC P 10000 t (.agg xs) (.agg ys) = some r) : OpOk P o a m (.bool (if op = .eql then r else !r)) m ⟨[], []⟩ :=
  OpOk.quiet fun ι tt w hs => by
    have ex := plain_operand hs (x := x) (by rw [ho]; simp [Op.operands]) hpx
    have ey := plain_operand hs (x := y) (by rw [ho]; simp [Op.operands]) hpy
    rw [hx] at ex
    rw [hy] at ey
    refine ⟨_, .bool _, ?_⟩
    unfold execOp; rw [ho]
    have hr := run_eqC 10000 t _ _ r h w
    rcases hop with rfl | rfl
    · simp only [ex, ey, Sem.run_bind, run_eqGuard_agg w .eql t x y xs ys hg, Result.andThen_ok, run_eql_struct, hr]
      simp
    · simp only [ex, ey, Sem.run_bind, run_eqGuard_agg w .neq t x y xs ys hg, Result.andThen_ok, run_neq_struct, hr]
      simp

/-! ### Functions without a Go body -/
def externOf (P : Program) (f : FuncId) : Option (Array Value → Sem Value) :=
  match P.funcs[f]? with
  | some fn => if fn.body.isNone && !(fn.name == "runtime.NumGoroutine") && (Extern.findNext fn).isNone then Extern.find fn else none
  | none => none

theorem OpOk.extern {g : Operand} {xs : Array Operand} {ts : Array TypeId} {f : FuncId} {e : Array Value → Sem Value} {v : Value} (ho : o.op = .call { callee := .value g, args := xs, argTypes := ts }) (hg : g = .func f)
    (hops : xs.toList.all (plainOperand a) = true) (he : externOf P f = some e) (hp : plain v = true) (hv : ∀ w, (e (xs.map (evalC a))).run P w = .ok v w) : OpOk P o a m v m ⟨[], []⟩ :=
  OpOk.quiet fun ι tt w hs => by
    refine ⟨v, RV.refl ι v hp, ?_⟩
    have hargs : xs.map (act tt).eval = xs.map (evalC a) := Array.map_congr_left fun x hx =>
      plain_operand hs (x := x) (by rw [ho]; simp [Op.operands, Call.operands, hx]) (List.all_eq_true.1 hops x (by simpa using hx))
    unfold externOf at he
    split at he
    · rename_i fn hf
      split at he
      · rename_i hc
        simp only [Bool.and_eq_true, Bool.not_eq_true'] at hc
        unfold execOp; rw [ho]
        subst hg
        have hn : Extern.findNext fn = none := by simpa using hc.2
        have hev : (act tt).eval (.func f) = .func (.func f) #[] #[] := rfl
        simp only [resolve, hev, Deferred.ofValue, pure_bind, invoke]
        rw [run_callFunc_extern hf hc.1.2 hc.1.1 hn he]
        simp [hargs, hv w]
      · cases he
    · cases he

/-! ### A slice written out -/
def bsCells (P : Program) (t : TypeId) (len : Nat) (ps : Array (Nat × Value)) : Option (Nat × Array Value) :=
  match P.underlying t with
  | some (.slice e) => match szC P e, P.info? e with
    | some size, some i => match i.zero with
      | some z => if Nat.ble (len * size) 16777216 && plains z.cells.toList && Nat.blt 0 (len * size) then
          (fill (fun i => some (i * size, size)) ((Array.range (len * size)).map (z.cells[· % z.cells.size]!)) ps.toList).map fun cs => (size, cs)
        else none
      | none => none
    | _, _ => none
  | _ => none

theorem rows_zero {ι : Map} {z : Array Value} (hz : plains z.toList = true) (n : Nat) : Rows ι ((Array.range n).map (z[· % z.size]!)) ((Array.range n).map (z[· % z.size]!)) := by
  refine ⟨rfl, fun j => ?_⟩
  by_cases hj : j < n
  · by_cases h0 : z.size = 0
    · have : ((Array.range n).map (z[· % z.size]!)).getD j undef = (default : Value) := by
        simp [hj, h0]
      rw [this]; exact RV.bool _
    · have hlt : j % z.size < z.size := Nat.mod_lt _ (by omega)
      have : ((Array.range n).map (z[· % z.size]!)).getD j undef = z.toList.getD (j % z.size) undef := by
        simp [hj, List.getD_eq_getElem?_getD, hlt]
      rw [this]
      exact RV.refl _ _ (plains_get hz (by simpa using hlt))
  · have : ((Array.range n).map (z[· % z.size]!)).getD j undef = undef := by simp [hj]
    rw [this]; exact .any _

theorem OpOk.buildSlice {t : TypeId} {len size : Nat} {ps : Array (Nat × Operand)} {cs : Array Value} (ho : o.op = .buildSlice t len ps) (hc : ps.toList.all (fun p => okConst p.2) = true)
    (hn : ps.toList.all (fun p => notTuple (evalC a p.2)) = true) (h : bsCells P t len (partsC a ps) = some (size, cs)) :
    OpOk P o a m (.slice (some ⟨m.length, 0, none⟩) len len) (m ++ [.cells cs.toList size true]) ⟨[], []⟩ :=
  OpOk.makes fun ι tt w hs => by
    have hops : ∀ p, p ∈ ps → RV ι (evalC a p.2) ((act tt).eval p.2) := fun p hp => rv_operand hs (x := p.2) (by rw [ho]; simp only [Op.operands]; simp only [List.mem_toArray, List.mem_map]; exact ⟨p, by simpa using hp, rfl⟩) (List.all_eq_true.1 hc p (by simpa using hp))
    unfold bsCells at h
    split at h
    · rename_i e hu
      split at h
      · rename_i sz i hz hi
        split at h
        · rename_i z hzero
          split at h
          · rename_i hcond
            simp only [Bool.and_eq_true] at hcond
            rw [Option.map_eq_some_iff] at h
            obtain ⟨r, hf, hr⟩ := h
            cases hr
            obtain ⟨r', hr', hrows⟩ := fill_rv (ι := ι) _ (ps.map fun (i, x) => (i, (act tt).eval x)).toList _ _ _ (by simp [partsC]) (fun k p p' hp hp' => by
              simp only [partsC, Array.toList_map, List.getElem?_map, Option.map_eq_some_iff] at hp hp'
              obtain ⟨q, hq, rfl⟩ := hp
              obtain ⟨q', hq', rfl⟩ := hp'
              rw [hq] at hq'; cases hq'
              exact ⟨rfl, hops q (by simpa using List.mem_of_getElem? hq)⟩) (fun p hp => by
              simp only [partsC, Array.toList_map, List.mem_map] at hp
              obtain ⟨q, hq, rfl⟩ := hp
              exact List.all_eq_true.1 hn q hq) (rows_zero hcond.1.2 _) hf
            refine ⟨.slice (some ⟨w.heap.size, 0, none⟩) len len, r', e, by simp [hrows.1], fun j hj => ?_, fun ι' hle hι => ?_, ?_⟩
            · have := hrows.2 j
              simpa [List.getD_eq_getElem?_getD, Array.getD_eq_getD_getElem?] using this
            · have := RV.slice (o := 0) (l := len) hι (Nat.le_refl len) (by simp)
              simpa using this
            · unfold execOp; rw [ho]
              have h24 : ¬ len * size > 2 ^ 24 := by have := Nat.le_of_ble_eq_true hcond.1.1; omega
              have h0 : ¬ len * size = 0 := by have := Nat.le_of_ble_eq_true hcond.2; omega
              have h24' : ¬ (16777216 < len * size) := by omega
              have h0' : ¬ (len = 0 ∨ size = 0) := by
                intro hh
                rcases hh with hh | hh <;> simp [hh] at h0
              have hzv : (zeroValue e).run P w = .ok z w := by simp [zeroValue, run_info hi, hzero]
              simp only [Instr.buildSlice, Sem.run_bind, run_underlying hu w, Result.andThen_ok, run_szC hz w, h24, h0, if_false, hzv, Sem.run_pure, hr', newRow, newObj]
              simp [Sem.run]
          · cases h
        · cases h
      · cases h
    · cases h

/-! ### Slices cut -/
theorem OpOk.sliceSl {t e : TypeId} {x : Operand} {lo hi : Option Operand} {b off len cap size l h sz : Nat} {c : List Value} {rw_ : Bool} {kl kh : IntKind} (ho : o.op = .slice t x lo hi none) (hc : okConst x = true)
    (hx : evalC a x = .slice (some ⟨b, off, none⟩) len cap) (hb : m[b]? = some (.cells c sz rw_)) (hu : P.underlying t = some (.slice e)) (hz : szC P e = some size) (hsz : rw_ = true → sz = size)
    (hlo : (lo = none ∧ l = 0) ∨ ∃ y, lo = some y ∧ okConst y = true ∧ evalC a y = .int kl l) (hhi : (hi = none ∧ h = len) ∨ ∃ y, hi = some y ∧ okConst y = true ∧ evalC a y = .int kh h) (hlh : l ≤ h) (hhc : h ≤ cap) :
    OpOk P o a m (.slice (some ⟨b, off + l * size, none⟩) (h - l) (cap - l)) m ⟨[b], []⟩ := by
  have hblt : b < m.length := (List.getElem?_eq_some_iff.1 hb).1
  refine OpOk.reads (by simpa using hblt) fun ι tt w hs hbl => ?_
  have hrx := rv_operand hs (x := x) (by rw [ho]; simp [Op.operands]) hc
  rw [hx] at hrx
  have hbo := hbl b (by simp)
  rw [show m.getD b .gone = .cells c sz rw_ by simp [List.getD_eq_getElem?_getD, hb]] at hbo
  obtain ⟨L', c', te, fz, hL', hh', hfit, hrw, hro, hcells⟩ := hbo
  have bounds : ∀ cap', h ≤ cap' → (sliceBounds true len cap' (lo.map (act tt).eval) (hi.map (act tt).eval) none).run P w = .ok (l, h, cap') w := fun cap' hcap' => by
    have hhv : hi.map (act tt).eval = hi.map (fun _ => Value.int kh h) := by
      rcases hhi with ⟨rfl, _⟩ | ⟨y, rfl, hy1, hy2⟩
      · rfl
      · have := rv_operand hs (x := y) (by rw [ho]; simp [Op.operands]) hy1
        rw [hy2] at this
        simp [this.int_inv]
    have hlv : lo.map (act tt).eval = lo.map (fun _ => Value.int kl l) := by
      rcases hlo with ⟨rfl, _⟩ | ⟨y, rfl, hy1, hy2⟩
      · rfl
      · have := rv_operand hs (x := y) (by rw [ho]; simp [Op.operands]) hy1
        rw [hy2] at this
        simp [this.int_inv]
    rw [hhv, hlv]
    rcases hhi with ⟨rfl, rfl⟩ | ⟨y, rfl, _, _⟩ <;> rcases hlo with ⟨rfl, rfl⟩ | ⟨z, rfl, _, _⟩ <;>
      simp [sliceBounds, sliceBound, asIntOf, *]
  generalize hy : (act tt).eval x = y at hrx
  cases hrx with
  | slice0 p q =>
    have : h = 0 := by omega
    have : l = 0 := by omega
    subst this; subst h
    refine ⟨.slice (some q) 0 0, ?_, ?_⟩
    · simpa using RV.slice0 _ q
    · unfold execOp; rw [ho]
      have hbnd := bounds 0 (by omega)
      simp [Instr.sliceAt, run_underlying hu w, hy, Instr.slice, hbnd, run_szC hz w]
  | @slice _ _ _ _ cap' L hL hcc hr =>
    have hLL : L = L' := by rw [hL] at hL'; exact Option.some.inj hL'
    subst hLL
    refine ⟨.slice (if cap' = l then some ⟨L.blk, L.off + off, none⟩ else some ⟨L.blk, L.off + (off + l * size), none⟩) (h - l) (cap' - l), ?_, ?_⟩
    · by_cases hcl : cap' = l
      · rw [if_pos hcl]
        have e1 : h - l = 0 := by omega
        have e2 : cap - l = 0 := by omega
        have e3 : cap' - l = 0 := by omega
        rw [e1, e2, e3]
        exact .slice0 _ _
      · rw [if_neg hcl]
        refine .slice hL (by omega) fun hr0 hne => ?_
        have hne' : cap ≠ cap' := by omega
        have h1 := hr hr0 hne'
        have hsz' : L.sz = size := by
          cases hrw_ : rw_ with
          | true => rw [(hrw hrw_).2.2.1]; exact hsz hrw_
          | false => rw [hro hrw_] at hr0; cases hr0
        rw [hsz'] at h1 ⊢
        have : l * size + (cap' - l) * size = cap' * size := by
          rw [← Nat.add_mul]
          congr 1; omega
        omega
    · unfold execOp; rw [ho]
      have hbnd := bounds cap' (by omega)
      simp only [Instr.sliceAt, Sem.run_bind, run_underlying hu w, Result.andThen_ok, hy, Instr.slice, hbnd, run_szC hz w, Sem.run_pure, Option.map_none]
      by_cases hcl : cap' = l <;> simp [hcl, addr_add, Nat.add_assoc]

/-- An array at an address, cut. -/
theorem OpOk.sliceArr {t e : TypeId} {x : Operand} {lo hi : Option Operand} {b off n size l h : Nat} {kl kh : IntKind} (ho : o.op = .slice t x lo hi none) (hc : okConst x = true)
    (hx : evalC a x = .pointer (some ⟨b, off, none⟩)) (hu : P.underlying t = some (.array n e)) (hz : szC P e = some size)
    (hlo : (lo = none ∧ l = 0) ∨ ∃ y, lo = some y ∧ okConst y = true ∧ evalC a y = .int kl l) (hhi : (hi = none ∧ h = n) ∨ ∃ y, hi = some y ∧ okConst y = true ∧ evalC a y = .int kh h) (hlh : l ≤ h) (hhc : h ≤ n) (hln : l < n) :
    OpOk P o a m (.slice (some ⟨b, off + l * size, none⟩) (h - l) (n - l)) m ⟨[], []⟩ :=
  OpOk.quiet fun ι tt w hs => by
    have hrx := rv_operand hs (x := x) (by rw [ho]; simp [Op.operands]) hc
    rw [hx] at hrx
    obtain ⟨L, hL, he⟩ := hrx.ptr_inv
    refine ⟨.slice (some ⟨L.blk, L.off + (off + l * size), none⟩) (h - l) (n - l), .slice hL (Nat.le_refl _) (by simp), ?_⟩
    have hhv : hi.map (act tt).eval = hi.map (fun _ => Value.int kh h) := by
      rcases hhi with ⟨rfl, _⟩ | ⟨y, rfl, hy1, hy2⟩
      · rfl
      · have := rv_operand hs (x := y) (by rw [ho]; simp [Op.operands]) hy1
        rw [hy2] at this
        simp [this.int_inv]
    have hlv : lo.map (act tt).eval = lo.map (fun _ => Value.int kl l) := by
      rcases hlo with ⟨rfl, _⟩ | ⟨y, rfl, hy1, hy2⟩
      · rfl
      · have := rv_operand hs (x := y) (by rw [ho]; simp [Op.operands]) hy1
        rw [hy2] at this
        simp [this.int_inv]
    have hbnd : (sliceBounds false n n (lo.map (act tt).eval) (hi.map (act tt).eval) none).run P w = .ok (l, h, n) w := by
      rw [hhv, hlv]
      rcases hhi with ⟨rfl, rfl⟩ | ⟨y, rfl, _, _⟩ <;> rcases hlo with ⟨rfl, rfl⟩ | ⟨z, rfl, _, _⟩ <;>
        simp [sliceBounds, sliceBound, asIntOf, *]
    have hne : ¬ n = l := by omega
    unfold execOp; rw [ho]
    simp [Instr.sliceAt, run_underlying hu w, he, sureAddr, hbnd, run_szC hz w, hne, addr_add, Nat.add_assoc]

end

end

section
open Go.Instr

section
variable {P : Program} {o : Oper} {a : List Value} {m : List Blk}

/-- Writes a block that it owns, and reads others. -/
theorem OpOk.writesR {b : Nat} {c c2 : List Value} {sz : Nat} {v : Value} {rd : List Nat} (hb : m.getD b .gone = .cells c sz true) (hblt : b < m.length) (hbrd : b ∈ rd) (hrd : ∀ x, x ∈ rd → x < m.length)
    (h : ∀ (ι : Map) (t : Array Value) (w : World) (L : Loc) (c' : Array Value) (e : TypeId), (∀ x, x ∈ slotsOf o → RV ι (a.getD x undef) (t.getD x undef)) → (∀ x, x ∈ rd → BlkOk ι w x (m.getD x .gone)) → FroOk ι w → ι b = some L →
      w.heap[L.blk]? = some (.cells c' e (0, 0)) → c'.size = L.off + L.room → L.sz = sz → L.off + c.length ≤ c'.size → (∀ i, i < c.length → RV ι (c.getD i undef) (c'.getD (L.off + i) undef)) →
      ∃ c2' : Array Value, c2'.size = c'.size ∧ L.off + c2.length ≤ c'.size ∧ (∀ i, i < c2.length → RV ι (c2.getD i undef) (c2'.getD (L.off + i) undef)) ∧
        ∃ v', (execOp (act t).eval o).run P w = .ok (.value v') { w with heap := w.heap.setIfInBounds L.blk (.cells c2' e (0, 0)) } ∧ RV ι v v') :
    OpOk P o a m v (m.set b (.cells c2 sz true)) ⟨rd, [b]⟩ where
  len := by simp
  sub := by simpa using hbrd
  rdlt := hrd
  same := fun x _ hn => by
    have hne : b ≠ x := fun e => hn (by simp [e])
    simp [List.getD_eq_getElem?_getD, List.getElem?_set_ne hne]
  run := fun ι t w hs _ hsim next Q hn => by
    have only : ∀ x, x ∈ rd → (at_ m).only (isIn rd) x = m.getD x .gone := fun x hx => by simp [Cont.only, isIn, hx, at_]
    have hall : ∀ x, x ∈ rd → BlkOk ι w x (m.getD x .gone) := fun x hx => by have := hsim.blk x; rwa [only x hx] at this
    have hB := hall b hbrd
    rw [hb] at hB
    obtain ⟨L, c', e, fz, hL, hh, hfit, hrw, _, hcells⟩ := hB
    obtain ⟨rfl, hroom, hsz, hro⟩ := hrw rfl
    obtain ⟨c2', h1, h2, h3, v', hr, hv⟩ := h ι t w L c' e hs hall hsim.fro hL hh hroom hsz hfit hcells
    have hsub : ((at_ m).only (isIn rd)).only (isIn [b]) = (at_ m).only (isIn [b]) := by
      funext x
      by_cases hx : x = b
      · subst hx; simp [Cont.only, isIn, hbrd]
      · simp [Cont.only, isIn, hx]
    obtain ⟨k1, k2⟩ := put_cells (by rw [← hsub]; exact hsim.only _) hb hblt hL hh hroom hsz hro h1 (by omega) h3
    have := Sim.frame (C := (at_ m).only (isIn rd)) (C' := at_ (m.set b (.cells c2 sz true))) (D := (at_ (m.set b (.cells c2 sz true))).only (tch rd m.length (m.set b (.cells c2 sz true)).length)) (R := isIn [b])
      (T := tch [b] m.length (m.set b (.cells c2 sz true)).length) hsim (fun x hx => by simp only [isIn] at hx; unfold tch; rw [hx]; rfl) (by rw [hsub]; exact k1) k2 (fun x => by
        simp only [List.length_set, tch_self]
        by_cases hx : x = b
        · subst hx; simp [Cont.only, isIn, hbrd]
        · have e1 : at_ (m.set b (.cells c2 sz true)) x = at_ m x := by
            have hne : b ≠ x := fun e => hx e.symm
            simp [at_, List.getD_eq_getElem?_getD, List.getElem?_set_ne hne]
          simp [Cont.only, isIn, hx, e1])
    exact wp_of_value hr (hn v' _ _ hv this.2 this.1 (fun _ h1 h2 => absurd h1 h2))

/-! ### Appends -/
/-- What the second argument of an append yields, as far as is known. -/
inductive SrcC (P : Program) (a : List Value) (m : List Blk) (size : Nat) (x : Operand) : Nat → List Value → List Nat → Prop
  | sl {b off n cap sz : Nat} {c : List Value} {rw_ : Bool} (hx : evalC a x = .slice (some ⟨b, off, none⟩) n cap) (hb : m[b]? = some (.cells c sz rw_)) (hfit : off + n * size ≤ c.length)
      (hone : ((c.drop off).take (n * size)).all one = true) : SrcC P a m size x n ((c.drop off).take (n * size)) [b]
  | frz {n : Nat} {c : List Value} (hx : evalC a x = frz n c) (hlen : c.length = n * size) (hone : c.all one = true) : SrcC P a m size x n c []
  | nil {cap : Nat} (hx : evalC a x = .slice none 0 cap) : SrcC P a m size x 0 [] []
  | str {s : ByteArray} (hx : evalC a x = .string s) (h1 : size = 1) : SrcC P a m size x s.size (byteCells s) []

theorem byteCells_plain (s : ByteArray) : ∀ i, i < (byteCells s).length → plain ((byteCells s).getD i undef) = true := fun i hi => by
  unfold byteCells at hi ⊢
  have hi' : i < s.data.toList.length := by simpa using hi
  simp only [List.getD_eq_getElem?_getD, List.getElem?_map, List.getElem?_eq_getElem hi', Option.map_some, Option.getD_some]
  rfl

theorem SrcC.real2 {x : Operand} {size n : Nat} {vs : List Value} {rd : List Nat} {tx : TypeId} (h : SrcC P a m size x n vs rd) (hc : okConst x = true) (hx : x ∈ o.op.operands)
    (hk : (∃ e', P.underlying tx = some (.slice e')) ∨ P.underlying tx = some .string) {ι : Map} {t : Array Value} {w : World} (hs : ∀ x, x ∈ slotsOf o → RV ι (a.getD x undef) (t.getD x undef))
    (hbl : ∀ b, b ∈ rd → BlkOk ι w b (m.getD b .gone)) (hfro : FroOk ι w) : ∃ news, Src P size tx ((act t).eval x) n news w ∧ vs.length = news.length ∧ (∀ i, i < vs.length → RV ι (vs.getD i undef) (news.getD i undef)) ∧
      ((∀ s, evalC a x ≠ .string s) → ∀ k, k ≤ n → (Builtin.firstCells size k ((act t).eval x)).run P w = .ok (news.take (k * size)).toArray w) := by
  have hrx := rv_operand hs hx hc
  cases h with
  | @sl b off n cap sz c rw_ hxe hb hfit hone =>
    rw [hxe] at hrx
    have hbo := hbl b (by simp)
    rw [show m.getD b .gone = .cells c sz rw_ by simp [List.getD_eq_getElem?_getD, hb]] at hbo
    obtain ⟨L', c', te, fz, hL', hh', hfit', hrw, hro, hcells⟩ := hbo
    generalize (act t).eval x = y at hrx
    have lenv : ((c.drop off).take (n * size)).length = n * size := by simp; omega
    cases hrx with
    | slice0 p q =>
      refine ⟨[], ⟨hk, fun _ => rfl, ?_, ?_, by simp, by simp⟩, by simp, fun i hi => by simp at hi, fun _ k hk => ?_⟩
      · simp [Builtin.firstCells, loadCells, loadCellsFrom]
      · simp [Builtin.firstCells, loadCells, loadCellsFrom]
      · have : k = 0 := by omega
        subst this; simp [Builtin.firstCells, loadCells, loadCellsFrom]
    | @slice _ _ _ _ cap' L hL hcc hr =>
      have hLL : L = L' := by rw [hL] at hL'; exact Option.some.inj hL'
      subst hLL
      let news : List Value := (List.range (n * size)).map fun j => c'.getD (L.off + off + j) undef
      have getn : ∀ j, j < n * size → news.getD j undef = c'.getD (L.off + off + j) undef := fun j hj => by simp [news, List.getD_eq_getElem?_getD, hj]
      have getv : ∀ j, j < n * size → ((c.drop off).take (n * size)).getD j undef = c.getD (off + j) undef := fun j hj => by simp [List.getD_eq_getElem?_getD, hj]
      have hrv : ∀ j, j < n * size → RV ι (((c.drop off).take (n * size)).getD j undef) (news.getD j undef) := fun j hj => by
        rw [getn j hj, getv j hj, Nat.add_assoc]
        exact hcells (off + j) (by omega)
      have hnl : news.length = n * size := by simp [news]
      refine ⟨news, ?_, by rw [hnl, lenv], fun i hi => hrv i (by omega), fun _ k hkn => ?_⟩
      rotate_left
      · refine run_firstCells_some w size k _ n cap' (news.take (k * size)) (by have := Nat.mul_le_mul_right size hkn; simp; omega) (fun j u hu => ?_)
        rw [List.getElem?_take] at hu
        split at hu
        · rename_i hjk
          have hj : j < n * size := by rw [← hnl]; exact (List.getElem?_eq_some_iff.1 hu).1
          rw [addr_add, cell_of hh' (by omega), ← getn j hj]
          simp [List.getD_eq_getElem?_getD, hu]
        · cases hu
      have hcell : ∀ j u, news[j]? = some u → w.cell? ((⟨L.blk, L.off + off, none⟩ : Addr).add j) = some u := fun j u hu => by
        have hj : j < n * size := by rw [← hnl]; exact (List.getElem?_eq_some_iff.1 hu).1
        rw [addr_add, cell_of hh' (by omega), ← getn j hj]
        simp [List.getD_eq_getElem?_getD, hu]
      refine ⟨hk, fun _ => rfl, ?_, ?_, hnl, fun u hu => ?_⟩
      · exact run_firstCells_some w size n _ n cap' news hnl hcell
      · exact run_firstCells_some w.drew size n _ n cap' news hnl (by simpa using hcell)
      · obtain ⟨j, hj, rfl⟩ := List.getElem_of_mem hu
        have hj' : j < n * size := by rw [← hnl]; exact hj
        have h1 := hrv j hj'
        have h2 : one (((c.drop off).take (n * size)).getD j undef) = true := by
          refine List.all_eq_true.1 hone _ ?_
          have : j < ((c.drop off).take (n * size)).length := by omega
          simp only [List.getD_eq_getElem?_getD, List.getElem?_eq_getElem this, Option.getD_some]
          exact List.getElem_mem _
        have h3 : news.getD j undef = news[j] := by simp [List.getD_eq_getElem?_getD, hj]
        rw [← h3]
        exact h1.one h2
  | frz hxe hlen hone =>
    rw [hxe] at hrx
    generalize (act t).eval x = y at hrx
    have none_ : n = 0 → vs = [] → ∀ (ad : Option Addr) (cp : Nat), ∃ news, Src P size tx (.slice ad 0 cp) n news w ∧ vs.length = news.length ∧ (∀ i, i < vs.length → RV ι (vs.getD i undef) (news.getD i undef)) ∧
        ((∀ s, evalC a x ≠ .string s) → ∀ k, k ≤ n → (Builtin.firstCells size k (.slice ad 0 cp)).run P w = .ok (news.take (k * size)).toArray w) := fun hn hc ad cp => by
      subst hn; subst hc
      refine ⟨[], ⟨hk, fun _ => rfl, ?_, ?_, by simp, by simp⟩, by simp, fun i hi => by simp at hi, fun _ k hk => ?_⟩
      · cases ad <;> simp [Builtin.firstCells, loadCells, loadCellsFrom]
      · cases ad <;> simp [Builtin.firstCells, loadCells, loadCellsFrom]
      · have : k = 0 := by omega
        subst this; cases ad <;> simp [Builtin.firstCells, loadCells, loadCellsFrom]
    cases hrx with
    | iface _ ht => exact absurd ht (by decide)
    | frzN => exact none_ rfl rfl none 0
    | frzE y cap => exact none_ rfl rfl (some y) cap
    | @frz _ _ r o cap cr hr hcap hp hfit hc =>
      obtain ⟨te, fz, hh'⟩ := hfro r cr hr
      let L : Loc := ⟨r, o, 0, 0, true⟩
      let news : List Value := (List.range (n * size)).map fun j => cr.getD (o + j) undef
      have getn : ∀ j, j < n * size → news.getD j undef = cr.getD (o + j) undef := fun j hj => by simp [news, List.getD_eq_getElem?_getD, hj]
      have hrv : ∀ j, j < n * size → RV ι (vs.getD j undef) (news.getD j undef) := fun j hj => by
        rw [getn j hj]
        exact hc j (by omega)
      have hnl : news.length = n * size := by simp [news]
      refine ⟨news, ?_, by rw [hnl, hlen], fun i hi => hrv i (by omega), fun _ k hkn => ?_⟩
      rotate_left
      · refine run_firstCells_some w size k _ n cap (news.take (k * size)) (by have := Nat.mul_le_mul_right size hkn; simp; omega) (fun j u hu => ?_)
        rw [List.getElem?_take] at hu
        split at hu
        · rename_i hjk
          have hj : j < n * size := by rw [← hnl]; exact (List.getElem?_eq_some_iff.1 hu).1
          rw [addr_add, cell_of (L := L) hh' (by omega), ← getn j hj]
          simp [List.getD_eq_getElem?_getD, hu]
        · cases hu
      have hcell : ∀ j u, news[j]? = some u → w.cell? ((⟨r, o, none⟩ : Addr).add j) = some u := fun j u hu => by
        have hj : j < n * size := by rw [← hnl]; exact (List.getElem?_eq_some_iff.1 hu).1
        rw [addr_add, cell_of (L := L) hh' (by omega), ← getn j hj]
        simp [List.getD_eq_getElem?_getD, hu]
      refine ⟨hk, fun _ => rfl, ?_, ?_, hnl, fun u hu => ?_⟩
      · exact run_firstCells_some w size n _ n cap news hnl hcell
      · exact run_firstCells_some w.drew size n _ n cap news hnl (by simpa using hcell)
      · obtain ⟨j, hj, rfl⟩ := List.getElem_of_mem hu
        have hj' : j < n * size := by rw [← hnl]; exact hj
        have h1 := hrv j hj'
        have h2 : one (vs.getD j undef) = true := by
          refine List.all_eq_true.1 hone _ ?_
          have : j < vs.length := by omega
          simp only [List.getD_eq_getElem?_getD, List.getElem?_eq_getElem this, Option.getD_some]
          exact List.getElem_mem _
        have h3 : news.getD j undef = news[j] := by simp [List.getD_eq_getElem?_getD, hj]
        rw [← h3]
        exact h1.one h2
  | nil hxe =>
    rw [hxe] at hrx
    generalize (act t).eval x = y at hrx
    cases hrx
    refine ⟨[], ⟨hk, fun _ => rfl, ?_, ?_, by simp, by simp⟩, rfl, fun i hi => by simp at hi, fun _ k hk => ?_⟩ <;> simp [Builtin.firstCells]
  | str hxe h1 =>
    rename_i s
    rw [hxe] at hrx
    generalize (act t).eval x = y at hrx
    subst h1
    cases hrx
    exact ⟨byteCells s, ⟨hk, fun _ => rfl, firstCells_string s w, firstCells_string s w.drew, by rw [byteCells_length, Nat.mul_one], fun u hu => by
      obtain ⟨_, _, rfl⟩ := List.mem_map.1 hu
      rfl⟩, rfl, fun i hi => .refl _ _ (byteCells_plain s i hi), fun hns => absurd hxe (hns s)⟩

theorem SrcC.real {x : Operand} {size n : Nat} {vs : List Value} {rd : List Nat} {tx : TypeId} (h : SrcC P a m size x n vs rd) (hc : okConst x = true) (hx : x ∈ o.op.operands)
    (hk : (∃ e', P.underlying tx = some (.slice e')) ∨ P.underlying tx = some .string) {ι : Map} {t : Array Value} {w : World} (hs : ∀ x, x ∈ slotsOf o → RV ι (a.getD x undef) (t.getD x undef))
    (hbl : ∀ b, b ∈ rd → BlkOk ι w b (m.getD b .gone)) (hfro : FroOk ι w) : ∃ news, Src P size tx ((act t).eval x) n news w ∧ vs.length = news.length ∧ ∀ i, i < vs.length → RV ι (vs.getD i undef) (news.getD i undef) :=
  let ⟨news, h1, h2, h3, _⟩ := h.real2 hc hx hk hs hbl hfro
  ⟨news, h1, h2, h3⟩

theorem SrcC.rdlt {x : Operand} {size n : Nat} {vs : List Value} {rd : List Nat} (h : SrcC P a m size x n vs rd) : ∀ b, b ∈ rd → b < m.length := by
  cases h with
  | sl _ hb _ _ => intro b' h'; simp at h'; subst h'; exact (List.getElem?_eq_some_iff.1 hb).1
  | frz => simp
  | nil => simp
  | str => simp

theorem SrcC.len {x : Operand} {size n : Nat} {vs : List Value} {rd : List Nat} (h : SrcC P a m size x n vs rd) : vs.length = n * size := by
  cases h with
  | sl _ _ hfit _ => simp; omega
  | nil => simp
  | frz _ hlen _ => exact hlen
  | str _ h1 => rw [byteCells_length, h1, Nat.mul_one]

theorem run_append_call {t tx : TypeId} {s x : Operand} (ho : o.op = .call { callee := .builtin .append, args := #[s, x], argTypes := #[t, tx] }) {tt : Array Value} {w w' : World} {v : Value}
    (h : (Builtin.append_ #[t, tx] o.type #[(act tt).eval s, (act tt).eval x]).run P w = .ok v w') : (execOp (act tt).eval o).run P w = .ok (.value v) w' := by
  unfold execOp; rw [ho]
  simp [resolve, invoke, builtin, h]

/-- Nothing is appended. -/
theorem OpOk.append0 {t tx e : TypeId} {s x : Operand} {i : TypeInfo} {base : Option Addr} {l cap : Nat} {rd : List Nat} (ho : o.op = .call { callee := .builtin .append, args := #[s, x], argTypes := #[t, tx] }) (hcs : okConst s = true) (hcx : okConst x = true)
    (hs : evalC a s = .slice base l cap) (hle : l ≤ cap) (hu : P.underlying t = some (.slice e)) (hk : (∃ e', P.underlying tx = some (.slice e')) ∨ P.underlying tx = some .string) (hi : P.info? e = some i)
    (hx : SrcC P a m i.size x 0 [] rd) : OpOk P o a m (.slice base l cap) m ⟨rd, []⟩ :=
  OpOk.readsF hx.rdlt fun ι tt w hsl hbl hfro => by
    have hrs := rv_operand hsl (x := s) (by rw [ho]; simp [Op.operands, Call.operands]) hcs
    rw [hs] at hrs
    obtain ⟨news, hsrc, hlen, _⟩ := hx.real (tx := tx) hcx (by rw [ho]; simp [Op.operands, Call.operands]) hk hsl hbl hfro
    have hn : news = [] := List.eq_nil_of_length_eq_zero (by simpa using hlen.symm)
    subst hn
    refine ⟨_, hrs, run_append_call ho ?_⟩
    generalize (act tt).eval s = y at hrs
    cases hrs with
    | nils => exact run_append_nothing w t tx o.type e i hu hi _ l cap hle _ hsrc
    | slice _ hcc _ => exact run_append_nothing w t tx o.type e i hu hi _ l _ (Nat.le_trans hle hcc) _ hsrc
    | slice0 => exact run_append_nothing w t tx o.type e i hu hi _ 0 0 (Nat.le_refl _) _ hsrc

/-- There is room. -/
theorem OpOk.appendRoom {t tx e : TypeId} {s x : Operand} {i : TypeInfo} {b off l cap n sz : Nat} {c vs : List Value} {rd : List Nat} (ho : o.op = .call { callee := .builtin .append, args := #[s, x], argTypes := #[t, tx] }) (hcs : okConst s = true) (hcx : okConst x = true)
    (hs : evalC a s = .slice (some ⟨b, off, none⟩) l cap) (hb : m[b]? = some (.cells c sz true)) (hroom : l + n ≤ cap) (hn : 0 < n) (hfit : off + (l + n) * i.size ≤ c.length) (hu : P.underlying t = some (.slice e)) (hk : (∃ e', P.underlying tx = some (.slice e')) ∨ P.underlying tx = some .string)
    (hi : P.info? e = some i) (hx : SrcC P a m i.size x n vs rd) : OpOk P o a m (.slice (some ⟨b, off, none⟩) (l + n) cap) (m.set b (.cells (splice c (off + l * i.size) vs) sz true)) ⟨b :: rd, [b]⟩ := by
  have hblt : b < m.length := (List.getElem?_eq_some_iff.1 hb).1
  refine OpOk.writesR (c := c) (by simp [List.getD_eq_getElem?_getD, hb]) hblt (by simp) (fun y hy => ?_) fun ι tt w L c' te hsl hbl hfro hL hh hroom' hsz hfit' hcells => ?_
  · simp at hy
    rcases hy with rfl | hy
    · exact hblt
    · exact hx.rdlt y hy
  · have hrs := rv_operand hsl (x := s) (by rw [ho]; simp [Op.operands, Call.operands]) hcs
    rw [hs] at hrs
    obtain ⟨news, hsrc, hlen, hrv⟩ := hx.real (tx := tx) hcx (by rw [ho]; simp [Op.operands, Call.operands]) hk hsl (fun y hy => hbl y (by simp [hy])) hfro
    have hvl := hx.len
    have e1 : (l + n) * i.size = l * i.size + n * i.size := Nat.add_mul _ _ _
    generalize hy : (act tt).eval s = y at hrs
    cases hrs with
    | slice0 => omega
    | @slice _ _ _ _ cap' L2 hL2 hcc hr =>
      rw [hL] at hL2; cases hL2
      have hf1 : off + l * i.size + vs.length ≤ c.length := by omega
      have hf2 : L.off + (off + l * i.size) + news.length ≤ c'.toList.length := by simp; omega
      refine ⟨(splice c'.toList (L.off + (off + l * i.size)) news).toArray, by simpa using splice_length hf2, by rw [splice_length hf1]; exact hfit', fun j hj => ?_, _, run_append_call ho ?_, .slice hL hcc hr⟩
      · rw [splice_length hf1] at hj
        have g1 := splice_get hf1 j undef
        have g2 := splice_get hf2 (L.off + j) undef
        have g3 : (splice c'.toList (L.off + (off + l * i.size)) news).toArray.getD (L.off + j) undef = (splice c'.toList (L.off + (off + l * i.size)) news).getD (L.off + j) undef := by simp [List.getD_eq_getElem?_getD]
        rw [g1, g3, g2]
        by_cases hin : off + l * i.size ≤ j ∧ j < off + l * i.size + vs.length
        · rw [if_pos hin, if_pos (by omega)]
          have := hrv (j - (off + l * i.size)) (by omega)
          rwa [show L.off + j - (L.off + (off + l * i.size)) = j - (off + l * i.size) by omega]
        · rw [if_neg hin, if_neg (by omega)]
          have := hcells j hj
          simpa [List.getD_eq_getElem?_getD] using this
      · have hst := run_storeCells (P := P) (w := w) (g := L.blk) (off := L.off + (off + l * i.size)) (vs := news) hh (by simpa using hf2) (fun u hu => hsrc.one u hu)
        have hr' : l + n ≤ cap' := by omega
        rw [hy]
        rcases hk with ⟨e', hk⟩ | hk <;>
          simp [Builtin.append_, run_underlying hu, run_underlying hk, sizeOf, run_info hi, hsrc.len, hr', hsrc.cells, addr_add, Nat.add_assoc, hst]

/-- A block that is given up, and a new one in its place (or elsewhere). -/
theorem consume {b : Nat} {rd : List Nat} {cN : List Value} {sz : Nat} {ι : Map} {w w' : World} {L LN : Loc} (hbrd : b ∈ rd) (hblt : b < m.length) (hown : (m.getD b .gone).own = true) (hL : ι b = some L) (hι : ι m.length = none)
    (hsim : Sim ι ((at_ m).only (isIn rd)) w) (hN : BlkOk (upd ι m.length LN) w' m.length (.cells cN sz true)) (hsize : w.heap.size ≤ w'.heap.size) (hos : w'.os = w.os) (htape : w'.tape = w.tape) (hout : w'.output = w.output)
    (hframe : ∀ k, k < w.heap.size → k ≠ L.blk → w'.heap[k]? = w.heap[k]?) (hplace : LN.blk = L.blk ∨ w.heap.size ≤ LN.blk) :
    let m' := m.set b .gone ++ [Blk.cells cN sz true]
    Ext ι ((at_ m).only (isIn rd)) w (upd ι m.length LN) ((at_ m').only (tch rd m.length m'.length)) w' ∧ Sim (upd ι m.length LN) ((at_ m').only (tch rd m.length m'.length)) w' ∧
      (∀ x, ι x = none → upd ι m.length LN x ≠ none → m.length ≤ x ∧ x < m'.length) := by
  intro m'
  have hlen : m'.length = m.length + 1 := by simp [m']
  have gN : m'.getD m.length .gone = .cells cN sz true := by simp [m', List.getD_eq_getElem?_getD]
  have gb : m'.getD b .gone = .gone := by
    have : b < (m.set b .gone).length := by simpa using hblt
    simp [m', List.getD_eq_getElem?_getD, List.getElem?_append_left this, hblt]
  have go : ∀ x, x < m.length → x ≠ b → m'.getD x .gone = m.getD x .gone := fun x hx hne => by
    have : x < (m.set b .gone).length := by simpa using hx
    simp [m', List.getD_eq_getElem?_getD, List.getElem?_append_left this, List.getElem?_set_ne (Ne.symm hne)]
  have hC1 : ∀ x, ((at_ m).only (isIn rd)).only (isIn [b]) x = if x = b then m.getD b .gone else .gone := fun x => by
    by_cases hx : x = b
    · subst hx; simp [Cont.only, isIn, hbrd, at_]
    · simp [Cont.only, isIn, hx]
  have hC2 : ∀ x, (at_ m').only (tch [b] m.length m'.length) x = if x = m.length then .cells cN sz true else .gone := fun x => by
    by_cases hx : x = m.length
    · subst hx
      have : tch [b] m.length m'.length m.length = true := by simp [tch, hlen]
      simp only [Cont.only, this, if_true, at_, gN]
    · rw [if_neg hx]
      unfold Cont.only
      split
      · rename_i ht
        simp only [tch, hlen, Bool.or_eq_true, Bool.and_eq_true, decide_eq_true_eq, List.contains_eq_mem, List.mem_singleton] at ht
        have hxb : x = b := by omega
        subst hxb
        exact gb
      · rfl
  have hownb : (((at_ m).only (isIn rd)) b).own = true := by simpa [Cont.only, isIn, hbrd, at_] using hown
  have hS2 : Sim (upd ι m.length LN) ((at_ m').only (tch [b] m.length m'.length)) w' := by
    refine ⟨fun x => ?_, fun x y K K2 hne ho hl hK hK2 => ?_, fun r cc hr => ?_, fun x K r cc ho hK hr => ?_, hsim.glo⟩
    · rw [hC2]
      split
      · rename_i hx; subst hx; exact hN
      · trivial
    · rw [hC2] at ho hl
      split at ho
      · split at hl
        · rename_i h1 h2; exact absurd (h1.trans h2.symm) hne
        · cases hl
      · cases ho
    · obtain ⟨t, fz, h⟩ := hsim.fro r cc hr
      exact ⟨t, fz, by rw [hframe r (Array.getElem?_eq_some_iff.1 h).1 (Ne.symm (hsim.apart b L r cc hownb hL hr))]; exact h⟩
    · rw [hC2] at ho
      split at ho
      · rename_i hx
        subst hx
        rw [upd_self] at hK; cases hK
        rcases hplace with h | h
        · rw [h]; exact hsim.apart b L r cc hownb hL hr
        · obtain ⟨t, fz, h2⟩ := hsim.fro r cc hr
          have := (Array.getElem?_eq_some_iff.1 h2).1
          omega
      · cases ho
  have inR : OwnR ι (((at_ m).only (isIn rd)).only (isIn [b])) L.blk := ⟨b, L, by rw [hC1, if_pos rfl]; exact hown, hL, rfl⟩
  have hE : Ext ι (((at_ m).only (isIn rd)).only (isIn [b])) w (upd ι m.length LN) ((at_ m').only (tch [b] m.length m'.length)) w' := by
    refine ⟨upd_le hι, hsize, hos, htape, hout, fun k hk hn => hframe k hk (fun e => hn (e ▸ inR)), fun k => ?_, fun k => ?_, fun _ _ h => .inl h⟩
    · rintro ⟨x, K, ho, hK, hk⟩
      rw [hC2] at ho
      split at ho
      · rename_i hx
        subst hx
        rw [upd_self] at hK; cases hK
        rcases hplace with h | h
        · left; rw [← hk, h]; exact inR
        · right; rw [← hk]; exact h
      · cases ho
    · rintro ⟨x, K, ho, hK, hk⟩
      rw [hC2] at ho
      split at ho
      · rename_i hx
        subst hx
        rw [upd_self] at hK; cases hK
        rcases hplace with h | h
        · left; rw [← hk, h]
          exact ⟨b, L, by rw [hC1, if_pos rfl]; exact Blk.live_of_own hown, hL, rfl⟩
        · right; rw [← hk]; exact h
      · cases ho
  have := Sim.frame (C := (at_ m).only (isIn rd)) (C' := at_ m') (D := (at_ m').only (tch rd m.length m'.length)) (R := isIn [b]) (T := tch [b] m.length m'.length) hsim
    (fun x hx => by simp only [isIn] at hx; unfold tch; rw [hx]; rfl) hE hS2 (fun x => by
      by_cases hx : x = m.length
      · subst hx
        have h1 : tch rd m.length m'.length m.length = true := by simp [tch, hlen]
        have h2 : tch [b] m.length m'.length m.length = true := by simp [tch, hlen]
        simp [Cont.only, h1, h2]
      · by_cases hxb : x = b
        · subst hxb
          have h1 : tch rd m.length m'.length x = true := by simp [tch, hbrd]
          have h2 : tch [x] m.length m'.length x = true := by simp [tch]
          simp [Cont.only, h1, h2]
        · have h2 : tch [b] m.length m'.length x = false := by
            simp only [tch, hlen, Bool.or_eq_false_iff, Bool.and_eq_false_iff, decide_eq_false_iff_not, List.contains_eq_mem, List.mem_singleton]
            exact ⟨hxb, by omega⟩
          simp only [h2, Bool.false_eq_true, if_false]
          unfold Cont.only isIn
          by_cases hr : x ∈ rd
          · have hxl : x < m.length ∨ ¬ x < m.length := by omega
            have h1 : tch rd m.length m'.length x = true := by simp [tch, hr]
            rw [if_pos h1, if_pos (by simpa using hr)]
            rcases hxl with hxl | hxl
            · exact go x hxl hxb
            · have h3 : ¬ x < m'.length := by omega
              simp [at_, List.getD_eq_getElem?_getD, List.getElem?_eq_none (Nat.le_of_not_lt hxl), List.getElem?_eq_none (Nat.le_of_not_lt h3)]
          · have h1 : tch rd m.length m'.length x = false := by
              simp only [tch, hlen, Bool.or_eq_false_iff, Bool.and_eq_false_iff, decide_eq_false_iff_not, List.contains_eq_mem]
              exact ⟨hr, by omega⟩
            rw [h1, if_neg (by simp), if_neg (by simpa using hr)])
  refine ⟨this.2, this.1, fun x h1 h2 => ?_⟩
  by_cases hx : x = m.length
  · subst hx; omega
  · rw [upd_ne hx] at h2; exact absurd h1 h2

/-- There is none, as far as is known: the old row is given up. -/
theorem OpOk.appendGrow {t tx e : TypeId} {s x : Operand} {i : TypeInfo} {z : Value} {b off l n : Nat} {c vs : List Value} {rd : List Nat} (ho : o.op = .call { callee := .builtin .append, args := #[s, x], argTypes := #[t, tx] }) (hcs : okConst s = true) (hcx : okConst x = true)
    (hs : evalC a s = .slice (some ⟨b, off, none⟩) l l) (hb : m[b]? = some (.cells c i.size true)) (hn : 0 < n) (hfit : off + l * i.size ≤ c.length) (hu : P.underlying t = some (.slice e)) (hk : (∃ e', P.underlying tx = some (.slice e')) ∨ P.underlying tx = some .string)
    (hi : P.info? e = some i) (hz : i.zero = some z) (hzs : z.cells.size = i.size) (h63 : l + n ≤ 9223372036854775807) (hby : 2 * (l + n) * i.bytes ≤ 281474976710656) (hx : SrcC P a m i.size x n vs rd) :
    OpOk P o a m (.slice (some ⟨m.length, 0, none⟩) (l + n) (l + n)) (m.set b .gone ++ [.cells ((c.drop off).take (l * i.size) ++ vs) i.size true]) ⟨b :: rd, [b]⟩ where
  len := by simp
  sub := by simp
  rdlt := fun y hy => by
    simp at hy
    rcases hy with rfl | hy
    · exact (List.getElem?_eq_some_iff.1 hb).1
    · exact hx.rdlt y hy
  same := fun y hy hne => by
    have hne' : b ≠ y := fun e => hne (by simp [e])
    have : y < (m.set b .gone).length := by simpa using hy
    simp [List.getD_eq_getElem?_getD, List.getElem?_append_left this, List.getElem?_set_ne hne']
  run := fun ι tt w hsl hdom hsim next Q hnext => by
    have hblt : b < m.length := (List.getElem?_eq_some_iff.1 hb).1
    have hbg : m.getD b .gone = .cells c i.size true := by simp [List.getD_eq_getElem?_getD, hb]
    have only : ∀ y, y ∈ b :: rd → (at_ m).only (isIn (b :: rd)) y = m.getD y .gone := fun y hy => by
      have : (b :: rd).contains y = true := by simpa using hy
      simp only [Cont.only, isIn, this, if_true, at_]
    have hall : ∀ y, y ∈ b :: rd → BlkOk ι w y (m.getD y .gone) := fun y hy => by have := hsim.blk y; rwa [only y hy] at this
    have hB := hall b (by simp)
    rw [hbg] at hB
    obtain ⟨L, c', te, fz, hL, hh, hfit', hrw, _, hcells⟩ := hB
    obtain ⟨rfl, hroom, hsz, hro⟩ := hrw rfl
    have hι : ι m.length = none := hdom m.length (Nat.le_refl _) (by simp)
    have hrs := rv_operand hsl (x := s) (by rw [ho]; simp [Op.operands, Call.operands]) hcs
    rw [hs] at hrs
    obtain ⟨news, hsrc, hlen, hrv⟩ := hx.real (tx := tx) hcx (by rw [ho]; simp [Op.operands, Call.operands]) hk hsl (fun y hy => hall y (by simp [hy])) hsim.fro
    have hvl := hx.len
    have e1 : (l + n) * i.size = l * i.size + n * i.size := Nat.add_mul _ _ _
    have oldLen : ((c.drop off).take (l * i.size)).length = l * i.size := by simp; omega
    have cNget : ∀ j, j < (l + n) * i.size → ((c.drop off).take (l * i.size) ++ vs).getD j undef = if j < l * i.size then c.getD (off + j) undef else vs.getD (j - l * i.size) undef := fun j hj => by
      simp only [List.getD_eq_getElem?_getD]
      by_cases h : j < l * i.size
      · rw [List.getElem?_append_left (by omega), if_pos h]
        simp [h]
      · rw [List.getElem?_append_right (by omega), oldLen, if_neg h]
    have cNlen : ((c.drop off).take (l * i.size) ++ vs).length = (l + n) * i.size := by rw [List.length_append, oldLen]; omega
    -- a new row in the real memory, whatever the old slice was
    have grow : ∀ (y : Value) (cap' : Nat), (act tt).eval s = y → (∃ ad, y = .slice (some ad) l cap' ∧ (l = 0 ∨ ad = ⟨L.blk, L.off + off, none⟩)) → cap' < l + n → (Code.skip = Code.skip) → o.wp P (act tt) w next Q := by
      intro y cap' hy hyy hgr _
      obtain ⟨ad, rfl, had⟩ := hyy
      let olds : List Value := (List.range (l * i.size)).map fun j => c'.getD (L.off + off + j) undef
      have hol : olds.length = l * i.size := by simp [olds]
      have hog : ∀ j, j < l * i.size → olds.getD j undef = c'.getD (L.off + off + j) undef := fun j hj => by simp [olds, List.getD_eq_getElem?_getD, hj]
      have hold : (Builtin.firstCells i.size l (.slice (some ad) l cap')).run P w.drew = .ok olds.toArray w.drew := by
        rcases had with rfl | rfl
        · have : olds = [] := by simp [olds]
          rw [this]
          simp [Builtin.firstCells, loadCells, loadCellsFrom]
        · refine run_firstCells_some w.drew i.size l _ l cap' olds hol (fun j u hu => ?_)
          have hj : j < l * i.size := by rw [← hol]; exact (List.getElem?_eq_some_iff.1 hu).1
          have hc2 := cell_of (w := w) (L := L) hh (i := L.off + off + j) (by omega)
          rw [← hog j hj] at hc2
          rw [addr_add]
          have h3 : w.drew.cell? ⟨L.blk, L.off + off + j, none⟩ = w.cell? ⟨L.blk, L.off + off + j, none⟩ := rfl
          rw [h3, hc2]
          simp [List.getD_eq_getElem?_getD, hu]
      have hnc := nextslicecap_le hgr
      have hby' : Builtin.nextslicecap (l + n) cap' * i.bytes ≤ 281474976710656 := Nat.le_trans (Nat.mul_le_mul_right _ hnc) hby
      have hrun := run_append_grow_src (P := P) w t tx o.type e i z hu hi hz (some ad) l cap' olds hold ((act tt).eval x) n news hsrc hgr (by omega) hby'
      rw [← hy] at hrun
      have hge := grownCap_ge w (l + n) cap' e
      generalize hgc : grownCap w (l + n) cap' e = G at hrun hge
      let cr : Array Value := (olds ++ news).toArray ++ Builtin.zeroCells z.cells (G - (l + n))
      have hzc : (Builtin.zeroCells z.cells (G - (l + n))).size = (G - (l + n)) * i.size := by simp [Builtin.zeroCells, hzs]
      have hcrs : cr.size = G * i.size := by
        have e2 : G * i.size = (l + n) * i.size + (G - (l + n)) * i.size := by rw [← Nat.add_mul]; congr 1; omega
        simp only [cr, Array.size_append, hzc, List.size_toArray, List.length_append]
        rw [hol, ← hlen, hvl]; omega
      have hcrg : ∀ j, j < (l + n) * i.size → cr.getD j undef = if j < l * i.size then olds.getD j undef else news.getD (j - l * i.size) undef := fun j hj => by
        have hlt : j < (olds ++ news).length := by rw [List.length_append, hol, ← hlen, hvl]; omega
        simp only [cr, Array.getD_eq_getD_getElem?]
        rw [Array.getElem?_append_left (by simpa using hlt)]
        simp only [List.getElem?_toArray, List.getD_eq_getElem?_getD]
        by_cases h : j < l * i.size
        · rw [List.getElem?_append_left (by omega), if_pos h]
        · rw [List.getElem?_append_right (by omega), if_neg h, hol]
      have hfitN : (l + n) * i.size ≤ cr.size := by rw [hcrs]; exact Nat.mul_le_mul_right _ hge
      have hcons := consume (m := m) (b := b) (rd := b :: rd) (cN := (c.drop off).take (l * i.size) ++ vs) (sz := i.size) (w' := w.drew.alloc (.cells cr e)) (LN := ⟨w.heap.size, 0, cr.size, i.size, false⟩)
        (by simp) hblt (by rw [hbg]; rfl) hL hι hsim
        ⟨_, cr, e, (0, 0), upd_self _ _ _, by show (w.heap.push (Obj.cells cr e))[w.heap.size]? = _; simp, by simpa [cNlen] using hfitN, fun _ => ⟨rfl, by simp, rfl, rfl⟩, by simp, fun j hj => by
          rw [cNlen] at hj
          rw [cNget j hj, Nat.zero_add, hcrg j hj]
          by_cases h : j < l * i.size
          · rw [if_pos h, if_pos h, hog j h, Nat.add_assoc]
            exact (hcells (off + j) (by omega)).mono (upd_le hι)
          · rw [if_neg h, if_neg h]
            exact (hrv (j - l * i.size) (by omega)).mono (upd_le hι)⟩
        (by show w.heap.size ≤ (w.heap.push (Obj.cells cr e)).size; simp) rfl rfl rfl (fun k hk _ => by show (w.heap.push (Obj.cells cr e))[k]? = _; rw [Array.getElem?_push, if_neg (by omega)]) (.inr (Nat.le_refl _))
      refine wp_of_value (run_append_call ho hrun) (hnext _ _ _ ?_ hcons.1 hcons.2.1 hcons.2.2)
      have := RV.slice (o := 0) (l := l + n) (upd_self ι m.length ⟨w.heap.size, 0, cr.size, i.size, false⟩) hge (fun _ _ => by simp [hcrs])
      simpa using this
    generalize hy : (act tt).eval s = y at hrs
    cases hrs with
    | slice0 p q => exact grow _ 0 hy ⟨q, rfl, .inl rfl⟩ (by omega) rfl
    | @slice _ _ _ _ cap' L2 hL2 hcc hr =>
      have hLL : L = L2 := by rw [hL] at hL2; exact Option.some.inj hL2
      subst hLL
      by_cases hroom2 : l + n ≤ cap'
      · -- there is room in truth
        have hr' := hr hro (by omega)
        rw [hsz] at hr'
        have hcap : (l + n) * i.size ≤ cap' * i.size := Nat.mul_le_mul_right _ hroom2
        have hf2 : L.off + (off + l * i.size) + news.length ≤ c'.toList.length := by simp; omega
        have hst := run_storeCells (P := P) (w := w) (g := L.blk) (off := L.off + (off + l * i.size)) (vs := news) hh (by simpa using hf2) (fun u hu => hsrc.one u hu)
        have hrun : (Builtin.append_ #[t, tx] o.type #[(act tt).eval s, (act tt).eval x]).run P w = .ok (.slice (some ⟨L.blk, L.off + off, none⟩) (l + n) cap')
            { w with heap := w.heap.setIfInBounds L.blk (.cells (splice c'.toList (L.off + (off + l * i.size)) news).toArray te (0, 0)) } := by
          rw [hy]
          rcases hk with ⟨e', hk⟩ | hk <;>
            simp [Builtin.append_, run_underlying hu, run_underlying hk, sizeOf, run_info hi, hsrc.len, hroom2, hsrc.cells, addr_add, Nat.add_assoc, hst]
        have hlt : L.blk < w.heap.size := (Array.getElem?_eq_some_iff.1 hh).1
        have hspl := splice_length hf2
        have hcons := consume (m := m) (b := b) (rd := b :: rd) (cN := (c.drop off).take (l * i.size) ++ vs) (sz := i.size)
          (w' := { w with heap := w.heap.setIfInBounds L.blk (.cells (splice c'.toList (L.off + (off + l * i.size)) news).toArray te (0, 0)) }) (LN := ⟨L.blk, L.off + off, L.room - off, i.size, false⟩)
          (by simp) hblt (by rw [hbg]; rfl) hL hι hsim
          ⟨_, (splice c'.toList (L.off + (off + l * i.size)) news).toArray, te, (0, 0), upd_self _ _ _, by simp [hlt], by rw [cNlen]; simp only [List.size_toArray, hspl, Array.length_toList]; omega,
            fun _ => ⟨rfl, by simp only [List.size_toArray, hspl, Array.length_toList]; omega, rfl, rfl⟩, by simp, fun j hj => by
              rw [cNlen] at hj
              have g3 : (splice c'.toList (L.off + (off + l * i.size)) news).toArray.getD (L.off + off + j) undef = (splice c'.toList (L.off + (off + l * i.size)) news).getD (L.off + off + j) undef := by simp [List.getD_eq_getElem?_getD]
              rw [cNget j hj, g3, splice_get hf2]
              by_cases h : j < l * i.size
              · rw [if_pos h, if_neg (by omega)]
                have := (hcells (off + j) (by omega)).mono (upd_le (L := ⟨L.blk, L.off + off, L.room - off, i.size, false⟩) hι)
                simpa [List.getD_eq_getElem?_getD, Nat.add_assoc] using this
              · rw [if_neg h, if_pos (by omega)]
                have := (hrv (j - l * i.size) (by omega)).mono (upd_le (L := ⟨L.blk, L.off + off, L.room - off, i.size, false⟩) hι)
                rwa [show L.off + off + j - (L.off + (off + l * i.size)) = j - l * i.size by omega]⟩
          (by simp) rfl rfl rfl (fun k hk hne => by simp only; exact Array.getElem?_setIfInBounds_ne (Ne.symm hne)) (.inl rfl)
        refine wp_of_value (run_append_call ho hrun) (hnext _ _ _ ?_ hcons.1 hcons.2.1 hcons.2.2)
        have := RV.slice (o := 0) (l := l + n) (upd_self ι m.length ⟨L.blk, L.off + off, L.room - off, i.size, false⟩) hroom2 (fun _ _ => by simp only; omega)
        simpa using this
      · exact grow _ cap' hy ⟨_, rfl, .inr rfl⟩ (by omega) rfl

end

end

end Go.Dt
