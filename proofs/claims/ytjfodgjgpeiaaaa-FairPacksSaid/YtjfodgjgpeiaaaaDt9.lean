/- The canonical machine: one step of it, what it stands for; regions on the way; returns. -/
import Derived.Test.YtjfodgjgpeiaaaaDt8
namespace Go.Dt

/-! ### Spines laid bare (for the kernel's sake) -/
def nf {β : Type} (n : Nat) (k : Nat → β) : β :=
  match n with
  | 0 => k 0
  | m + 1 => k (m + 1)
theorem nf_eq {β : Type} (n : Nat) (k : Nat → β) : nf n k = k n := by cases n <;> rfl

def fl {α β : Type} : List α → (List α → β) → β
  | [], k => k []
  | x :: xs, k => fl xs fun ys => k (x :: ys)
theorem fl_eq {α β : Type} : ∀ (l : List α) (k : List α → β), fl l k = k l
  | [], _ => rfl
  | x :: xs, k => by simp only [fl]; rw [fl_eq xs]

def fv0 {β : Type} (v : Value) (k : Value → β) : β :=
  match v with
  | .bool b => k (.bool b)
  | .int kd n => k (.int kd n)
  | .string s => k (.string s)
  | .pointer (some ⟨b, o, none⟩) => nf b fun b' => k (.pointer (some ⟨b', o, none⟩))
  | .slice (some ⟨b, o, none⟩) l c => nf b fun b' => k (.slice (some ⟨b', o, none⟩) l c)
  | .slice x l c => k (.slice x l c)
  | .pointer x => k (.pointer x)
  | .map r => k (.map r)
  | v => k v
theorem fv0_eq {β : Type} (v : Value) (k : Value → β) : fv0 v k = k v := by
  unfold fv0
  split <;> first | rfl | (rw [nf_eq])

def fvl {β : Type} : List Value → (List Value → β) → β
  | [], k => k []
  | x :: xs, k => fv0 x fun x' => fvl xs fun ys => k (x' :: ys)
theorem fvl_eq {β : Type} : ∀ (l : List Value) (k : List Value → β), fvl l k = k l
  | [], _ => rfl
  | x :: xs, k => by simp only [fvl]; rw [fv0_eq, fvl_eq xs]

def fv {β : Type} (v : Value) (k : Value → β) : β :=
  match v with
  | .agg ⟨cs⟩ => fvl cs fun cs' => k (.agg ⟨cs'⟩)
  | .tuple ⟨vs⟩ => fvl vs fun vs' => k (.tuple ⟨vs'⟩)
  | .func fn ⟨xs⟩ ⟨ys⟩ => fvl xs fun xs' => fvl ys fun ys' => k (.func fn ⟨xs'⟩ ⟨ys'⟩)
  | v => fv0 v k
theorem fv_eq {β : Type} (v : Value) (k : Value → β) : fv v k = k v := by
  unfold fv
  split <;> first | (rw [fvl_eq, fvl_eq]) | (rw [fvl_eq]) | (rw [fv0_eq])

/-! ### One operation, reckoned -/
def loadC (P : Program) (t : TypeId) (c : List Value) (off : Nat) : Option Value :=
  match isAggC P t with
  | some true => match szC P t with
    | some n => if Nat.ble (off + n) c.length then some (.agg ((c.drop off).take n).toArray) else none
    | none => none
  | some false => c[off]?
  | none => none

def concrete (P : Program) (t : TypeId) : Bool := match P.underlying t with | some (.interface _) => false | some _ => true | none => false

def cellsZero (P : Program) (t : TypeId) : Option (List Value) :=
  match P.info? t with
  | some i => match i.zero with
    | some z => if plains z.cells.toList then some z.cells.toList else none
    | none => none
  | none => none

abbrev Out := Value × List Blk × Fp

def plainD (P : Program) (o : Oper) (a : List Value) (m : List Blk) : Option Out :=
  if o.op.operands.toList.all (plainOperand a) && notSelect o then
    match pureEval P (execOp (evalC a) o) with
    | some (.value v) => if plain v then some (v, m, ⟨[], []⟩) else none
    | _ => none
  else none

def opD (P : Program) (o : Oper) (a : List Value) (m : List Blk) : Option Out :=
  match o.op with
  | .move x => if okConst x then some (evalC a x, m, ⟨[], []⟩) else none
  | .assign x => if okConst x then some (evalC a x, m, ⟨[], []⟩) else none
  | .pick c x y => if okConst c && okConst x && okConst y then match pickC (evalC a c) (evalC a x) (evalC a y) with
      | some v => some (v, m, ⟨[], []⟩)
      | none => none
    else none
  | .extract x i => if okConst x then match evalC a x with
      | .tuple vs => match vs[i]? with
        | some v => some (v, m, ⟨[], []⟩)
        | none => none
      | _ => none
    else none
  | .field t x f => if okConst x then match evalC a x with
      | .agg cs => match P.underlying t with
        | some (.struct fs) => match fs[f]? with
          | some fd => match partC P fd.type cs fd.offset with
            | some v => some (v, m, ⟨[], []⟩)
            | none => none
          | none => none
        | _ => none
      | _ => none
    else none
  | .build t ps => if ps.toList.all (fun p => okConst p.2) && ps.toList.all (fun p => notTuple (evalC a p.2)) && (cellsZero P t).isSome then
      match pureEval P (Instr.build t (partsC a ps)) with
      | some (.agg cs) => some (.agg cs, m, ⟨[], []⟩)
      | _ => none
    else none
  | .nilCheck x => if okConst x then match evalC a x with
      | .pointer (some ⟨b, off, none⟩) => some (.pointer (some ⟨b, off, none⟩), m, ⟨[], []⟩)
      | _ => none
    else none
  | .makeInterface t x => if okConst x && concrete P t && Nat.blt t frzT then some (.iface t (evalC a x), m, ⟨[], []⟩) else none
  | .makeFunc fn xs ys => if (xs ++ ys).all okConst then some (.func fn (xs.map (evalC a)) (ys.map (evalC a)), m, ⟨[], []⟩) else none
  | .fieldAddr t x f => if okConst x then match evalC a x with
      | .pointer (some ⟨b, off, none⟩) => match P.underlying t with
        | some (.struct fs) => match fs[f]? with
          | some fd => match szC P fd.type with
            | some (_ + 1) => nf fd.offset fun d => some (.pointer (some ⟨b, off + d, none⟩), m, ⟨[], []⟩)
            | _ => none
          | none => none
        | _ => none
      | _ => none
    else none
  | .indexAddr t x ix => if okConst x && okConst ix then match evalC a x, evalC a ix with
      | .pointer (some ⟨b, off, none⟩), .int _ i => match P.underlying t with
        | some (.array len e) => match szC P e with
          | some n => if (decide (0 ≤ i) && decide (i < len)) = true then some (.pointer (some ⟨b, off + i.toNat * n, none⟩), m, ⟨[], []⟩) else none
          | none => none
        | _ => none
      | .slice (some ⟨b, off, none⟩) len _, .int _ i => match P.underlying t with
        | some (.slice e) => match szC P e with
          | some n => if (decide (0 ≤ i) && decide (i < len)) = true then some (.pointer (some ⟨b, off + i.toNat * n, none⟩), m, ⟨[], []⟩) else none
          | none => none
        | _ => none
      | _, _ => none
    else none
  | .load t x => if okConst x then match evalC a x with
      | .pointer (some ⟨b, off, none⟩) => match m[b]? with
        | some (.cells c _ _) => match loadC P t c off with
          | some v => some (v, m, ⟨[b], []⟩)
          | none => none
        | _ => none
      | _ => none
    else none
  | .store t x y => if okConst x && okConst y then match evalC a x with
      | .pointer (some ⟨b, off, none⟩) => match m[b]? with
        | some (.cells c sz true) => match szC P t with
          | some n => if Nat.beq (evalC a y).cells.size n && (evalC a y).cells.toList.all one && Nat.ble (off + n) c.length then
              fvl (evalC a y).cells.toList (fun vs => match sz with
                | 0 => fl (splice c off vs) (fun c' => some (undef, m.set b (.cells c' sz true), ⟨[b], [b]⟩))
                | _ + 1 => some (undef, m.set b (.cells (splice c off vs) sz true), ⟨[b], [b]⟩)) else none
          | none => none
        | _ => none
      | _ => none
    else none
  | .box _ x => if okConst x && notTuple (evalC a x) then fvl (evalC a x).cells.toList fun c => some (.pointer (some ⟨m.length, 0, none⟩), m ++ [.cells c 0 true], ⟨[], []⟩) else none
  | .alloc t => match cellsZero P t with
      | some c => fvl c fun c => some (.pointer (some ⟨m.length, 0, none⟩), m ++ [.cells c 0 true], ⟨[], []⟩)
      | none => none
  | .call c => match c.callee with
      | .builtin .len => match c.args.toList, c.argTypes.toList with
        | [x], [t] => if okConst x then match evalC a x with
            | .slice _ l _ => match P.underlying t with
              | some (.slice _) => some (.int .i64 l, m, ⟨[], []⟩)
              | _ => none
            | _ => plainD P o a m
          else none
        | _, _ => none
      | .builtin _ => plainD P o a m
      | _ => none
  | .binOp .. | .unOp .. | .convert .. | .index .. | .slice .. => plainD P o a m
  | _ => none

section
variable {P : Program} {o : Oper} {a : List Value} {m : List Blk}

theorem plainD_ok {v : Value} {m' : List Blk} {fp : Fp} (h : plainD P o a m = some (v, m', fp)) : OpOk P o a m v m' fp := by
  unfold plainD at h
  split at h
  · rename_i hc
    rw [Bool.and_eq_true] at hc
    split at h
    · rename_i hp
      split at h
      · rename_i hv
        cases h
        exact OpOk.plainOp hc.1 hc.2 hv hp
      · cases h
    · cases h
  · cases h

theorem cellsZero_ok {t : TypeId} {c : List Value} (h : cellsZero P t = some c) : ∃ i z, P.info? t = some i ∧ i.zero = some z ∧ plains z.cells.toList = true ∧ c = z.cells.toList := by
  unfold cellsZero at h
  split at h
  · rename_i i hi
    split at h
    · rename_i z hz
      split at h
      · rename_i hp
        cases h
        exact ⟨i, z, hi, hz, hp, rfl⟩
      · cases h
    · cases h
  · cases h

theorem opD_ok {v : Value} {m' : List Blk} {fp : Fp} (h : opD P o a m = some (v, m', fp)) : OpOk P o a m v m' fp := by
  unfold opD at h
  split at h
  · rename_i x ho
    split at h
    · rename_i hc; cases h; exact OpOk.move (.inl ho) hc
    · cases h
  · rename_i x ho
    split at h
    · rename_i hc; cases h; exact OpOk.move (.inr ho) hc
    · cases h
  · rename_i c x y ho
    split at h
    · rename_i hc
      simp only [Bool.and_eq_true] at hc
      split at h
      · rename_i v' hv; cases h; exact OpOk.pick ho hc.1.1 hc.1.2 hc.2 hv
      · cases h
    · cases h
  · rename_i x i ho
    split at h
    · rename_i hc
      split at h
      · rename_i vs hx
        split at h
        · rename_i v' hv; cases h; exact OpOk.extract ho hx hc hv
        · cases h
      · cases h
    · cases h
  · rename_i t x f ho
    split at h
    · rename_i hc
      split at h
      · rename_i cs hx
        split at h
        · rename_i fs hu
          split at h
          · rename_i fd hf
            split at h
            · rename_i v' hv; cases h; exact OpOk.field ho hc hx hu hf hv
            · cases h
          · cases h
        · cases h
      · cases h
    · cases h
  · rename_i t ps ho
    split at h
    · rename_i hc
      simp only [Bool.and_eq_true] at hc
      cases hz : cellsZero P t with
      | none => simp [hz] at hc
      | some c0 =>
        obtain ⟨i, z, hi, hz', hp, _⟩ := cellsZero_ok hz
        split at h
        · rename_i cs hb; cases h; exact OpOk.build ho hc.1.1 hc.1.2 hi hz' hp hb
        · cases h
    · cases h
  · rename_i x ho
    split at h
    · rename_i hc
      split at h
      · rename_i b off hx; cases h; exact OpOk.nilCheck ho hx hc
      · cases h
    · cases h
  · rename_i t x ho
    split at h
    · rename_i hc
      simp only [Bool.and_eq_true] at hc
      cases h; exact OpOk.makeInterface ho hc.1.1 hc.2 hc.1.2
    · cases h
  · rename_i fn xs ys ho
    split at h
    · rename_i hc; cases h; exact OpOk.makeFunc ho hc
    · cases h
  · rename_i t x f ho
    split at h
    · rename_i hc
      split at h
      · rename_i b off hx
        split at h
        · rename_i fs hu
          split at h
          · rename_i fd hf
            split at h
            · rename_i n hz; rw [nf_eq] at h; cases h; exact OpOk.fieldAddr ho hc hx hu hf hz
            · cases h
          · cases h
        · cases h
      · cases h
    · cases h
  · rename_i t x ix ho
    split at h
    · rename_i hc
      simp only [Bool.and_eq_true] at hc
      split at h
      · rename_i b off k i hx hi
        split at h
        · rename_i len e hu
          split at h
          · rename_i n hz
            split at h
            · rename_i hb
              simp only [Bool.and_eq_true, decide_eq_true_eq] at hb
              cases h; exact OpOk.indexArr ho hc.1 hc.2 hx hi hu hz hb.1 hb.2
            · cases h
          · cases h
        · cases h
      · rename_i b off len cap k i hx hi
        split at h
        · rename_i e hu
          split at h
          · rename_i n hz
            split at h
            · rename_i hb
              simp only [Bool.and_eq_true, decide_eq_true_eq] at hb
              cases h; exact OpOk.indexSl ho hc.1 hc.2 hx hi hu hz hb.1 hb.2
            · cases h
          · cases h
        · cases h
      · cases h
    · cases h
  · rename_i t x ho
    split at h
    · rename_i hc
      split at h
      · rename_i b off hx
        split at h
        · rename_i c sz rw_ hb
          split at h
          · rename_i v' hl
            cases h
            unfold loadC at hl
            split at hl
            · rename_i ht
              split at hl
              · rename_i n hn
                split at hl
                · rename_i hle
                  cases hl
                  exact OpOk.loadN ho hc hx hb ht hn (Nat.le_of_ble_eq_true hle)
                · cases hl
              · cases hl
            · rename_i ht; exact OpOk.load1 ho hc hx hb ht hl
            · cases hl
          · cases h
        · cases h
      · cases h
    · cases h
  · rename_i t x y ho
    split at h
    · rename_i hc
      simp only [Bool.and_eq_true] at hc
      split at h
      · rename_i b off hx
        split at h
        · rename_i c sz hb
          split at h
          · rename_i n hn
            split at h
            · rename_i hcond
              simp only [Bool.and_eq_true] at hcond
              have h' : (undef, m.set b (.cells (splice c off (evalC a y).cells.toList) sz true), (⟨[b], [b]⟩ : Fp)) = (v, m', fp) := by
                rw [fvl_eq] at h
                split at h
                · rw [fl_eq] at h; exact Option.some.inj h
                · exact Option.some.inj h
              cases h'
              exact OpOk.store ho hc.1 hc.2 hx hb rfl hn (Nat.eq_of_beq_eq_true hcond.1.1) hcond.1.2 (Nat.le_of_ble_eq_true hcond.2)
            · cases h
          · cases h
        · cases h
      · cases h
    · cases h
  · rename_i t x ho
    split at h
    · rename_i hc
      simp only [Bool.and_eq_true] at hc
      rw [fvl_eq] at h
      cases h; exact OpOk.box ho hc.1 hc.2
    · cases h
  · rename_i t ho
    split at h
    · rename_i c hz
      obtain ⟨i, z, hi, hz', hp, rfl⟩ := cellsZero_ok hz
      rw [fvl_eq] at h
      cases h; exact OpOk.alloc ho hi hz' hp
    · cases h
  · rename_i c ho
    split at h
    · rename_i hcal
      split at h
      · rename_i x t hxs hts
        have hc' : c = { callee := .builtin .len, args := #[x], argTypes := #[t] } := by
          obtain ⟨callee, args, argTypes⟩ := c
          simp only at hcal hxs hts
          subst hcal
          have e1 : args = #[x] := by rw [← Array.toArray_toList (xs := args), hxs]
          have e2 : argTypes = #[t] := by rw [← Array.toArray_toList (xs := argTypes), hts]
          rw [e1, e2]
        split at h
        · rename_i hc
          split at h
          · rename_i base l cap hx
            split at h
            · rename_i e hu; cases h; exact OpOk.lenSl (by rw [ho, hc']) hc hx hu
            · cases h
          · exact plainD_ok h
        · cases h
      · cases h
    · exact plainD_ok h
    · cases h
  · exact plainD_ok h
  · exact plainD_ok h
  · exact plainD_ok h
  · exact plainD_ok h
  · exact plainD_ok h
  · cases h

end
end Go.Dt
