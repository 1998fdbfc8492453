/- Several texts in one: Dt29, Dt31, Dt32. -/
import Derived.Test.YtdmcdijlpnbghaaGreatDoorQI12
import Derived.Laws.Cover3
namespace Go.Dt

section
open Go.RowKit
set_option linter.unusedVariables false

def boundI (a : List Value) : Option Operand → Option (Option Int)
  | none => some none
  | some y => bif okConst y then (match evalC a y with | .int _ n => some (some n) | _ => none) else none
def slAt (P : Program) (s : VS) : Option (Nat × Nat × Nat × Nat × Nat × Option Int × Option Int) := match opAt s with
  | some o => match o.op with
    | .slice t x lo hi none => bif okConst x then (match evalC s.slots x, P.underlying t with
      | .slice (some ⟨b, off, none⟩) len cap, some (.slice e) => (match szC P e, boundI s.slots lo, boundI s.slots hi, s.mem[b]? with
        | some size, some l, some h, some (.cells _ sz rw_) => bif !rw_ || Nat.beq sz size then some (b, off, len, cap, size, l, h) else none
        | _, _, _, _ => none)
      | _, _ => none) else none
    | _ => none
  | none => none

section
variable {Φ : List Blk → Prop} {P : Program} {f : Fr} {n0 : Nat}

theorem boundI_ok {a : List Value} {x : Option Operand} {r : Option Int} {l d : Nat} (h : boundI a x = some r) (e : r.getD d = l) : (x = none ∧ l = d) ∨ ∃ (y : Operand) (k : IntKind), x = some y ∧ okConst y = true ∧ evalC a y = .int k l := by
  cases x with
  | none =>
    simp only [boundI, Option.some.injEq] at h
    subst h
    simp only [Option.getD_none] at e
    exact .inl ⟨rfl, by omega⟩
  | some y =>
    simp only [boundI] at h
    cases hc : okConst y with
    | false => simp [hc] at h
    | true =>
      rw [hc, cond_true] at h
      split at h
      · rename_i k n hy
        cases h
        simp only [Option.getD_some] at e
        subst e
        exact .inr ⟨y, k, rfl, hc, hy⟩
      · cases h

theorem slice_ok {s : VS} (b off len cap size l h : Nat) (lo hi : Option Int) (hs : slAt P s = some (b, off, len, cap, size, lo, hi)) (hl : lo.getD 0 = l) (hh : hi.getD len = h) (hlh : l ≤ h) (hhc : h ≤ cap) :
    ∃ o, opAt s = some o ∧ OpOk P o s.slots s.mem (.slice (some ⟨b, off + l * size, none⟩) (h - l) (cap - l)) s.mem ⟨[b], []⟩ := by
  unfold slAt at hs
  split at hs
  · rename_i o ho
    split at hs
    · rename_i t x lo' hi' hop
      cases hc : okConst x with
      | false => simp [hc] at hs
      | true =>
        rw [hc, cond_true] at hs
        split at hs
        · rename_i b' off' len' cap' e hx hu
          split at hs
          · rename_i size' l' h' c' sz rw_ hz hlo hhi hb
            cases hq : (!rw_ || Nat.beq sz size') with
            | false => simp [hq] at hs
            | true =>
              rw [hq, cond_true] at hs
              cases hs
              have hsz : rw_ = true → sz = size := fun hr => by
                subst hr
                simpa using hq
              have h1 := boundI_ok (l := l) (d := 0) hlo hl
              have h2 := boundI_ok (l := h) (d := len) hhi hh
              have h1' : (lo' = none ∧ l = 0) ∨ ∃ (k : IntKind) (y : Operand), lo' = some y ∧ okConst y = true ∧ evalC s.slots y = .int k l := h1.imp id fun ⟨y, k, h⟩ => ⟨k, y, h⟩
              have h2' : (hi' = none ∧ h = len) ∨ ∃ (k : IntKind) (y : Operand), hi' = some y ∧ okConst y = true ∧ evalC s.slots y = .int k h := h2.imp id fun ⟨y, k, h⟩ => ⟨k, y, h⟩
              refine ⟨o, ho, ?_⟩
              rcases h1' with g1 | ⟨k1, g1⟩
              · rcases h2' with g2 | ⟨k2, g2⟩
                · exact OpOk.sliceSl (kl := .i64) (kh := .i64) hop hc hx hb hu hz hsz (.inl g1) (.inl g2) hlh hhc
                · exact OpOk.sliceSl (kl := .i64) (kh := k2) hop hc hx hb hu hz hsz (.inl g1) (.inr g2) hlh hhc
              · rcases h2' with g2 | ⟨k2, g2⟩
                · exact OpOk.sliceSl (kl := k1) (kh := .i64) hop hc hx hb hu hz hsz (.inr g1) (.inl g2) hlh hhc
                · exact OpOk.sliceSl (kl := k1) (kh := k2) hop hc hx hb hu hz hsz (.inr g1) (.inr g2) hlh hhc
          · cases hs
        · cases hs
    · cases hs
  · cases hs

/-- A slice, cut at numbers that are not known. -/
theorem R.slice {s : VS} {v : VQ} (hm : P.follows .mixedOrders = true) (n' : Nat) (b off len cap size : Nat) (lo hi : Option Int) (l h : Nat) (u : Value) (hs : slAt P (vadv P n' s) = some (b, off, len, cap, size, lo, hi)) (hl : lo.getD 0 = l) (hh : hi.getD len = h) (hlh : l ≤ h) (hhc : h ≤ cap)
    (hu : Value.slice (some ⟨b, off + l * size, none⟩) (h - l) (cap - l) = u) (hr : RunsE P f n0 (afterRd (vadv P n' s) b u) v) : RunsE P f n0 s v := by
  obtain ⟨o, ho, hok⟩ := slice_ok b off len cap size l h lo hi hs hl hh hlh hhc
  subst hu
  refine RunsE.adv hm n' (RunsE.op o ho hok ?_)
  unfold afterRd at hr
  simpa only [ho, fv_eq] using hr
theorem Q.slice {s : VS} {v : Value} (hm : P.follows .mixedOrders = true) (n' : Nat) (b off len cap size : Nat) (lo hi : Option Int) (l h : Nat) (u : Value) (hs : slAt P (vadv P n' s) = some (b, off, len, cap, size, lo, hi)) (hl : lo.getD 0 = l) (hh : hi.getD len = h) (hlh : l ≤ h) (hhc : h ≤ cap)
    (hu : Value.slice (some ⟨b, off + l * size, none⟩) (h - l) (cap - l) = u) (hr : RunsQ Φ P f n0 (afterRd (vadv P n' s) b u) v) : RunsQ Φ P f n0 s v := by
  obtain ⟨o, ho, hok⟩ := slice_ok b off len cap size l h lo hi hs hl hh hlh hhc
  subst hu
  refine RunsQ.adv hm n' (RunsQ.op o ho hok ?_)
  unfold afterRd at hr
  simpa only [ho, fv_eq] using hr
end

end

section
open Go.RowKit
set_option linter.unusedVariables false

theorem run_eql_nil {P : Program} (w : World) (t e : TypeId) (a : Addr) (l c : Nat) (h : P.underlying t = some (.slice e)) : (binOp .eql t (.slice (some a) l c) (.slice none 0 0)).run P w = .ok (.bool false) w := by
  simp only [binOp]
  simp [run_equal_slice_nil w t e (some a) l c h]
theorem run_guard_slice {P : Program} (w : World) (op : BinOp) (t : TypeId) (x y : Operand) (a b : Option Addr) (l c l' c' : Nat) : (eqGuard op t x y (.slice a l c) (.slice b l' c')).run P w = .ok () w := by
  cases op <;> simp [eqGuard]
section
variable {P : Program} {o : Oper} {a : List Value} {m : List Blk}
/-- A slice written out, of no elements. -/
theorem OpOk.buildNone {t e : TypeId} {size : Nat} (ho : o.op = .buildSlice t 0 #[]) (hu : P.underlying t = some (.slice e)) (hz : szC P e = some size) :
    OpOk P o a m (.slice (some ⟨m.length, 0, none⟩) 0 0) (m ++ [.cells [] size true]) ⟨[], []⟩ :=
  OpOk.makes fun ι tt w hs => by
    refine ⟨.slice (some ⟨w.heap.size, 0, none⟩) 0 0, #[], e, by simp, fun j hj => ?_, fun ι' hle hι => ?_, ?_⟩
    · simp at hj
    · have := RV.slice (o := 0) (l := 0) hι (Nat.le_refl 0) (by simp)
      simpa using this
    · unfold execOp; rw [ho]
      simp only [Instr.buildSlice, Sem.run_bind, run_underlying hu w, Result.andThen_ok, run_szC hz w, Sem.run_pure, newRow, newObj]
      simp [Instr.fill, Sem.run]
      congr 2
      apply Array.ext'
      simp

variable {Φ : List Blk → Prop} {f : Fr} {n0 : Nat}
def bnAt (P : Program) (s : VS) : Option Nat := match opAt s with
  | some o => match o.op with
    | .buildSlice t 0 ps => (match ps.toList, P.underlying t with
      | [], some (.slice e) => szC P e
      | _, _ => none)
    | _ => none
  | none => none
theorem none_ok {s : VS} {size : Nat} (hs : bnAt P s = some size) : ∃ o, opAt s = some o ∧ OpOk P o s.slots s.mem (.slice (some ⟨s.mem.length, 0, none⟩) 0 0) (s.mem ++ [.cells [] size true]) ⟨[], []⟩ := by
  unfold bnAt at hs
  split at hs
  · rename_i o ho
    split at hs
    · rename_i t ps hop
      split at hs
      · rename_i e hp hu
        have e1 : ps = #[] := by apply Array.ext'; simpa using hp
        subst e1
        exact ⟨o, ho, OpOk.buildNone hop hu hs⟩
      · cases hs
    · cases hs
  · cases hs
/-- A slice written out, of no elements. -/
theorem R.none {s : VS} {v : VQ} (hm : P.follows .mixedOrders = true) (n' : Nat) (size : Nat) (hs : bnAt P (vadv P n' s) = some size) (hr : RunsE P f n0 (afterAp (vadv P n' s) (.slice (some ⟨(vadv P n' s).mem.length, 0, none⟩) 0 0) ((vadv P n' s).mem ++ [.cells [] size true]) ⟨[], []⟩) v) : RunsE P f n0 s v := by
  obtain ⟨o, ho, hok⟩ := none_ok hs
  refine RunsE.adv hm n' (RunsE.op o ho hok ?_)
  unfold afterAp at hr
  simpa only [ho, fv_eq, fl_eq] using hr
theorem Q.none {s : VS} {v : Value} (hm : P.follows .mixedOrders = true) (n' : Nat) (size : Nat) (hs : bnAt P (vadv P n' s) = some size) (hr : RunsQ Φ P f n0 (afterAp (vadv P n' s) (.slice (some ⟨(vadv P n' s).mem.length, 0, none⟩) 0 0) ((vadv P n' s).mem ++ [.cells [] size true]) ⟨[], []⟩) v) : RunsQ Φ P f n0 s v := by
  obtain ⟨o, ho, hok⟩ := none_ok hs
  refine RunsQ.adv hm n' (RunsQ.op o ho hok ?_)
  unfold afterAp at hr
  simpa only [ho, fv_eq, fl_eq] using hr

end

end

section
open Go.RowKit
set_option linter.unusedVariables false
set_option linter.unusedSimpArgs false

/-- Elements that are laid in so many cells, none of which hangs on a block. -/
class Flat (α : Type) where
  sz : Nat
  cells : α → List Value
  dflt : α
  len : ∀ a, (cells a).length = sz
  pos : 0 < sz
  pure : ∀ a, pures (cells a) = true
  one : ∀ a, (cells a).all one = true

section
variable {α : Type} [F : Flat α]

def rows : List α → List Value
  | [] => []
  | x :: xs => F.cells x ++ rows xs
def getR (xs : List α) (i : Nat) : α := xs.getD i F.dflt
/-- A slice, by what it holds. -/
abbrev lst (xs : List α) : Value := frz xs.length (rows xs)

theorem rows_length : ∀ xs : List α, (rows xs).length = xs.length * F.sz
  | [] => by simp [rows]
  | x :: xs => by simp only [rows, List.length_append, rows_length xs, F.len, List.length_cons, Nat.add_mul]; omega
theorem rows_append : ∀ xs ys : List α, rows (xs ++ ys) = rows xs ++ rows ys
  | [], ys => rfl
  | x :: xs, ys => by simp [rows, rows_append xs ys]
theorem pures_append : ∀ {l m : List Value}, pures l = true → pures m = true → pures (l ++ m) = true
  | [], m, _, h => h
  | v :: l, m, h, h' => by
    simp only [pures, Bool.and_eq_true] at h
    simp only [List.cons_append, pures, h.1, pures_append h.2 h', Bool.and_self]
theorem rows_pure : ∀ xs : List α, pures (rows xs) = true
  | [] => rfl
  | x :: xs => pures_append (F.pure x) (rows_pure xs)
theorem rows_one : ∀ xs : List α, (rows xs).all one = true
  | [] => rfl
  | x :: xs => by simp only [rows, List.all_append, F.one, rows_one xs, Bool.and_self]
theorem rows_drop : ∀ (xs : List α) (k : Nat), (rows xs).drop (k * F.sz) = rows (xs.drop k)
  | xs, 0 => by simp
  | [], k + 1 => by simp [rows]
  | x :: xs, k + 1 => by
    rw [rows, List.drop_succ_cons, ← rows_drop xs k, Nat.add_mul, Nat.one_mul, Nat.add_comm, ← List.drop_drop, List.drop_left' (F.len x)]
theorem rows_take : ∀ (xs : List α) (k : Nat), (rows xs).take (k * F.sz) = rows (xs.take k)
  | xs, 0 => by simp [rows]
  | [], k + 1 => by simp [rows]
  | x :: xs, k + 1 => by
    have e : (k + 1) * F.sz = (F.cells x).length + k * F.sz := by rw [F.len, Nat.add_mul]; omega
    rw [rows, List.take_succ_cons, rows, e, List.take_append, List.take_of_length_le (by omega), Nat.add_sub_cancel_left, rows_take xs k]
theorem getR_cons (x : α) (xs : List α) (i : Nat) : getR (x :: xs) (i + 1) = getR xs i := by simp [getR]
/-- Within a row: some of an element's cells. -/
theorem rows_sub : ∀ (xs : List α) (i d k : Nat), i < xs.length → d + k ≤ F.sz → ((rows xs).drop (i * F.sz + d)).take k = ((F.cells (getR xs i)).drop d).take k
  | [], _, _, _, h, _ => by cases h
  | x :: xs, 0, d, k, _, h2 => by
    rw [Nat.zero_mul, Nat.zero_add, rows, List.drop_append, List.take_append]
    have hl := F.len x
    have e : k - ((F.cells x).drop d).length = 0 := by rw [List.length_drop]; omega
    rw [e, List.take_zero, List.append_nil]; rfl
  | x :: xs, i + 1, d, k, h1, h2 => by
    rw [getR_cons, ← rows_sub xs i d k (by simpa using h1) h2, rows]
    have e : (i + 1) * F.sz + d = (F.cells x).length + (i * F.sz + d) := by rw [F.len, Nat.add_mul]; omega
    rw [e, ← List.drop_drop, List.drop_left]
theorem rows_cell (xs : List α) (i d : Nat) (h : i < xs.length) (h2 : d < F.sz) : (rows xs)[i * F.sz + d]? = (F.cells (getR xs i))[d]? := by
  have := congrArg List.head? (rows_sub xs i d 1 h (by omega))
  rw [List.head?_take, List.head?_take, List.head?_drop, List.head?_drop] at this
  simpa using this
theorem rows_fit {xs : List α} {i d k : Nat} (h : i < xs.length) (h2 : d + k ≤ F.sz) : i * F.sz + d + k ≤ (rows xs).length := by
  rw [rows_length]
  have : (i + 1) * F.sz ≤ xs.length * F.sz := Nat.mul_le_mul_right _ h
  rw [Nat.add_mul, Nat.one_mul] at this
  omega

theorem loadN_rows {P : Program} {t : TypeId} {xs : List α} {i d k off : Nat} {l : List Value} (ho : off = i * F.sz + d) (hi : i < xs.length) (ha : isAggC P t = some true) (hz : szC P t = some k) (hk : d + k ≤ F.sz)
    (hl : ((F.cells (getR xs i)).drop d).take k = l) : loadC P t (rows xs) off = some (.agg ⟨l⟩) := by
  subst ho
  unfold loadC
  simp only [ha, hz, Nat.ble_eq_true_of_le (rows_fit hi hk), if_true, rows_sub xs i d k hi hk, hl]
theorem load1_rows {P : Program} {t : TypeId} {xs : List α} {i d off : Nat} {v : Value} (ho : off = i * F.sz + d) (hi : i < xs.length) (ha : isAggC P t = some false) (hd : d < F.sz)
    (hl : (F.cells (getR xs i))[d]? = some v) : loadC P t (rows xs) off = some v := by
  subst ho
  unfold loadC
  simp only [ha, rows_cell xs i d hi hd, hl]
end

/-! ### Some kinds of elements -/
instance flatInt : Flat Int := ⟨1, fun n => [.int .i64 n], 0, fun _ => rfl, by decide, fun _ => rfl, fun _ => rfl⟩
instance flatBool : Flat Bool := ⟨1, fun n => [.bool n], false, fun _ => rfl, by decide, fun _ => rfl, fun _ => rfl⟩
instance flatStr : Flat ByteArray := ⟨1, fun s => [.string s], ByteArray.empty, fun _ => rfl, by decide, fun _ => rfl, fun _ => rfl⟩
/-- A byte. -/
structure U8 where
  n : Int
instance flatU8 : Flat U8 := ⟨1, fun b => [.int .u8 b.n], ⟨0⟩, fun _ => rfl, by decide, fun _ => rfl, fun _ => rfl⟩
instance flatList {α : Type} [Flat α] : Flat (List α) := ⟨1, fun xs => [lst xs], [], fun _ => rfl, by decide, fun _ => rfl, fun _ => rfl⟩

/-! ### Slices of one's own that are given up to be known by what they hold -/
def slotV (d : Nat) : VS → Value
  | .norm _ a _ => a.getD d undef
  | _ => undef
def frzS (d b : Nat) (u : Value) : VS → VS
  | .norm todo a m => fv u fun u' => fl (a.set d u') fun a' => fl (m.set b .gone) fun m' => .norm todo a' m'
  | s => s
section
variable {P : Program} {f : Fr} {n0 : Nat}

/-- A slice of one's own, given up. -/
theorem Runs.frzN {todo : List Item} {a : List Value} {m : List Blk} {v : Value} {m' : List Blk} (d b off n cap sz : Nat) (c : List Value) (hs : a.getD d undef = .slice (some ⟨b, off, none⟩) n cap) (hb : m[b]? = some (.cells c sz true))
    (hn : n ≤ cap) (l : List Value) (hp : pures l = true) (hfl : off + l.length ≤ c.length) (hl : (c.drop off).take l.length = l) (h0 : n = 0 → l = []) (h : Runs P f n0 (.norm todo (a.set d (Dt.frz n l)) (m.set b .gone)) v m') : Runs P f n0 (.norm todo a m) v m' := by
  have hblt : b < m.length := (List.getElem?_eq_some_iff.1 hb).1
  have hbg : at_ m b = .cells c sz true := by simp [at_, List.getD_eq_getElem?_getD, hb]
  intro D ds ι t w hr fr0 cs hb0 hk0 hB0 hD0 hj0
  have hB := hr.sim.blk b
  rw [hbg] at hB
  obtain ⟨L, c', te, fz, hL, hh, hfit, hrw, _, hcells⟩ := hB
  obtain ⟨rfl, hroom, hsz, hro⟩ := hrw rfl
  have hlb : ∀ r cc, ι.fro r = some cc → L.blk ≠ r := fun r cc h => hr.sim.apart b L r cc (by rw [hbg]; rfl) hL h
  let ι' : Map := ⟨ι.loc, fun r => if r = L.blk then some c' else ι.fro r⟩
  have hself : ι'.fro L.blk = some c' := by show (if L.blk = L.blk then some c' else _) = _; rw [if_pos rfl]
  have hle : Le ι ι' := ⟨fun _ _ h => h, fun r cc h => by
    show (if r = L.blk then some c' else ι.fro r) = some cc
    rw [if_neg (Ne.symm (hlb r cc h))]; exact h⟩
  have hcase : ∀ r cc, ι'.fro r = some cc → (r = L.blk ∧ cc = c') ∨ ι.fro r = some cc := fun r cc h => by
    have h : (if r = L.blk then some c' else ι.fro r) = some cc := h
    split at h
    · rename_i e; cases h; exact .inl ⟨e, rfl⟩
    · exact .inr h
  have hat : ∀ x, at_ (m.set b .gone) x = if x = b then .gone else at_ m x := fun x => by
    simp only [at_, List.getD_eq_getElem?_getD]
    by_cases hx : x = b
    · subst hx; simp [hblt]
    · rw [if_neg hx, List.getElem?_set_ne (Ne.symm hx)]
  have ownSub : ∀ k, OwnR ι' (at_ (m.set b .gone)) k → OwnR ι (at_ m) k := fun k ⟨x, K, ho, hK, hk⟩ => by
    rw [hat] at ho
    split at ho
    · cases ho
    · exact ⟨x, K, ho, hK, hk⟩
  have liveSub : ∀ k, LiveR ι' (at_ (m.set b .gone)) k → LiveR ι (at_ m) k := fun k ⟨x, K, ho, hK, hk⟩ => by
    rw [hat] at ho
    split at ho
    · cases ho
    · exact ⟨x, K, ho, hK, hk⟩
  have hrel : Rel ι' (a.set d (Dt.frz n l)) (m.set b .gone) t w := by
    refine ⟨by simpa using hr.size, fun x => ?_, ⟨fun x => ?_, fun x x2 K K2 hne ho hl hK hK2 => ?_, fun r cc hcc => ?_, fun x K r cc ho hK hcc => ?_, GloOk.mono hle.fro hr.sim.glo⟩, fun x hx => by simpa using hr.dom x hx⟩
    · by_cases hx : d = x
      · subst hx
        by_cases hda : d < a.length
        · have hv := hr.slots d
          rw [hs] at hv
          rw [show (a.set d (Dt.frz n l)).getD d undef = Dt.frz n l by simp [List.getD_eq_getElem?_getD, hda]]
          generalize t.getD d undef = y at hv
          cases hv with
          | slice0 p q =>
            have e := h0 rfl
            subst e
            exact .frzE q 0
          | @slice _ _ _ _ cap' L2 hL2 hcc hr2 =>
            rw [hL] at hL2; cases hL2
            refine .frz hself (by omega) hp (by omega) fun i hi => ?_
            have := (hcells (off + i) (by omega)).mono hle
            have e : l.getD i undef = c.getD (off + i) undef := by
              have e2 : l.getD i undef = ((c.drop off).take l.length).getD i undef := by rw [hl]
              rw [e2]
              simp [List.getD_eq_getElem?_getD, List.getElem?_take, hi, List.getElem?_drop]
            rw [e, Nat.add_assoc]; exact this
        · have e : (a.set d (Dt.frz n l)) = a := List.set_eq_of_length_le (by omega)
          rw [e]; exact (hr.slots d).mono hle
      · rw [show (a.set d (Dt.frz n l)).getD x undef = a.getD x undef by simp [List.getD_eq_getElem?_getD, List.getElem?_set_ne hx]]
        exact (hr.slots x).mono hle
    · rw [hat]
      split
      · trivial
      · exact (hr.sim.blk x).keep hle fun _ _ _ => rfl
    · rw [hat] at ho hl
      split at ho
      · cases ho
      · split at hl
        · cases hl
        · exact hr.sim.sep x x2 K K2 hne ho hl hK hK2
    · rcases hcase r cc hcc with ⟨rfl, rfl⟩ | h
      · exact ⟨te, (0, 0), hh⟩
      · exact hr.sim.fro r cc h
    · rw [hat] at ho
      split at ho
      · cases ho
      · rename_i hxb
        rcases hcase r cc hcc with ⟨rfl, rfl⟩ | h
        · exact hr.sim.sep x b K L hxb ho (by rw [hbg]; rfl) hK hL
        · exact hr.sim.apart x K r cc ho hK h
  obtain ⟨w', fr, ι'', h1, h2, h5, h6, h7⟩ := h D ds ι' t w hrel fr0 cs hb0 hk0 hB0 hD0 hj0
  refine ⟨w', fr, ι'', h1, h2, h5, h6, ⟨h7.le, h7.size, h7.os, h7.tape, h7.output, fun k hk hn => h7.frame k hk (fun ho => hn (ownSub k ho)), fun k ho => (h7.own k ho).imp (ownSub k) id, fun k ho => (h7.live k ho).imp (liveSub k) id,
    fun r cc hcc => h7.lef r cc (hle.fro r cc hcc), fun r cc hcc => ?_⟩⟩
  rcases h7.fro r cc hcc with h | h | h
  · rcases hcase r cc h with ⟨rfl, rfl⟩ | h
    · exact .inr (.inl ⟨b, L, by rw [hbg]; rfl, hL, rfl⟩)
    · exact .inl h
  · exact .inr (.inl (ownSub r h))
  · exact .inr (.inr h)

end

end

end Go.Dt
