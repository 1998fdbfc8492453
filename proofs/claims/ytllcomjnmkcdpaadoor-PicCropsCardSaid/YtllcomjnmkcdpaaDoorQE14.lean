/- Several texts in one: Dt31, Dt32, Dt33. -/
import Derived.Test.YtllcomjnmkcdpaaDoorQE13
import Derived.Laws.Cover3
namespace Go.Dt

section
open Go.RowKit
set_option linter.unusedVariables false

theorem run_eql_nil {P : Program} (w : World) (t e : TypeId) (a : Addr) (l c : Nat) (h : P.underlying t = some (.slice e)) : (binOp .eql t (.slice (some a) l c) (.slice none 0 0)).run P w = .ok (.bool false) w := by
  simp only [binOp]
  simp [run_equal_slice_nil w t e (some a) l c h]
theorem run_guard_slice {P : Program} (w : World) (op : BinOp) (t : TypeId) (x y : Operand) (a b : Option Addr) (l c l' c' : Nat) : (eqGuard op t x y (.slice a l c) (.slice b l' c')).run P w = .ok () w := by
  cases op <;> simp [eqGuard]
section
variable {P : Program} {o : Oper} {a : List Value} {m : List Blk}
/-- A slice written out, of no elements. -/
theorem OpOk.buildNone {t e : TypeId} {size : Nat} (ho : o.op = .buildSlice t 0 #[]) (hu : P.underlying t = some (.slice e)) (hz : szC P e = some size) :
    OpOk P o a m (.slice (some ⟨m.length, 0, none⟩) 0 0) (m ++ [.cells [] size true]) ⟨[], []⟩ :=
  OpOk.makes fun ι tt w hs => by
    refine ⟨.slice (some ⟨w.heap.size, 0, none⟩) 0 0, #[], e, by simp, fun j hj => ?_, fun ι' hle hι => ?_, ?_⟩
    · simp at hj
    · have := RV.slice (o := 0) (l := 0) hι (Nat.le_refl 0) (by simp)
      simpa using this
    · unfold execOp; rw [ho]
      simp only [Instr.buildSlice, Sem.run_bind, run_underlying hu w, Result.andThen_ok, run_szC hz w, Sem.run_pure, newRow, newObj]
      simp [Instr.fill, Sem.run]
      congr 2
      apply Array.ext'
      simp

variable {Φ : List Blk → Prop} {f : FuncId} {n0 : Nat}
def bnAt (P : Program) (s : VS) : Option Nat := match opAt s with
  | some o => match o.op with
    | .buildSlice t 0 ps => (match ps.toList, P.underlying t with
      | [], some (.slice e) => szC P e
      | _, _ => none)
    | _ => none
  | none => none
theorem none_ok {s : VS} {size : Nat} (hs : bnAt P s = some size) : ∃ o, opAt s = some o ∧ OpOk P o s.slots s.mem (.slice (some ⟨s.mem.length, 0, none⟩) 0 0) (s.mem ++ [.cells [] size true]) ⟨[], []⟩ := by
  unfold bnAt at hs
  split at hs
  · rename_i o ho
    split at hs
    · rename_i t ps hop
      split at hs
      · rename_i e hp hu
        have e1 : ps = #[] := by apply Array.ext'; simpa using hp
        subst e1
        exact ⟨o, ho, OpOk.buildNone hop hu hs⟩
      · cases hs
    · cases hs
  · cases hs
/-- A slice written out, of no elements. -/
theorem R.none {s : VS} {v : Value} (hm : P.follows .mixedOrders = true) (n' : Nat) (size : Nat) (hs : bnAt P (vadv P n' s) = some size) (hr : RunsE P f n0 (afterAp (vadv P n' s) (.slice (some ⟨(vadv P n' s).mem.length, 0, none⟩) 0 0) ((vadv P n' s).mem ++ [.cells [] size true]) ⟨[], []⟩) v) : RunsE P f n0 s v := by
  obtain ⟨o, ho, hok⟩ := none_ok hs
  refine RunsE.adv hm n' (RunsE.op o ho hok ?_)
  unfold afterAp at hr
  simpa only [ho, fv_eq, fl_eq] using hr
theorem Q.none {s : VS} {v : Value} (hm : P.follows .mixedOrders = true) (n' : Nat) (size : Nat) (hs : bnAt P (vadv P n' s) = some size) (hr : RunsQ Φ P f n0 (afterAp (vadv P n' s) (.slice (some ⟨(vadv P n' s).mem.length, 0, none⟩) 0 0) ((vadv P n' s).mem ++ [.cells [] size true]) ⟨[], []⟩) v) : RunsQ Φ P f n0 s v := by
  obtain ⟨o, ho, hok⟩ := none_ok hs
  refine RunsQ.adv hm n' (RunsQ.op o ho hok ?_)
  unfold afterAp at hr
  simpa only [ho, fv_eq, fl_eq] using hr

end

end

section
open Go.RowKit
set_option linter.unusedVariables false
set_option linter.unusedSimpArgs false

/-- Elements that are laid in so many cells, none of which hangs on a block. -/
class Flat (α : Type) where
  sz : Nat
  cells : α → List Value
  dflt : α
  len : ∀ a, (cells a).length = sz
  pos : 0 < sz
  pure : ∀ a, pures (cells a) = true
  one : ∀ a, (cells a).all one = true

section
variable {α : Type} [F : Flat α]

def rows : List α → List Value
  | [] => []
  | x :: xs => F.cells x ++ rows xs
def getR (xs : List α) (i : Nat) : α := xs.getD i F.dflt
/-- A slice, by what it holds. -/
abbrev lst (xs : List α) : Value := frz xs.length (rows xs)

theorem rows_length : ∀ xs : List α, (rows xs).length = xs.length * F.sz
  | [] => by simp [rows]
  | x :: xs => by simp only [rows, List.length_append, rows_length xs, F.len, List.length_cons, Nat.add_mul]; omega
theorem rows_append : ∀ xs ys : List α, rows (xs ++ ys) = rows xs ++ rows ys
  | [], ys => rfl
  | x :: xs, ys => by simp [rows, rows_append xs ys]
theorem pures_append : ∀ {l m : List Value}, pures l = true → pures m = true → pures (l ++ m) = true
  | [], m, _, h => h
  | v :: l, m, h, h' => by
    simp only [pures, Bool.and_eq_true] at h
    simp only [List.cons_append, pures, h.1, pures_append h.2 h', Bool.and_self]
theorem rows_pure : ∀ xs : List α, pures (rows xs) = true
  | [] => rfl
  | x :: xs => pures_append (F.pure x) (rows_pure xs)
theorem rows_one : ∀ xs : List α, (rows xs).all one = true
  | [] => rfl
  | x :: xs => by simp only [rows, List.all_append, F.one, rows_one xs, Bool.and_self]
theorem rows_drop : ∀ (xs : List α) (k : Nat), (rows xs).drop (k * F.sz) = rows (xs.drop k)
  | xs, 0 => by simp
  | [], k + 1 => by simp [rows]
  | x :: xs, k + 1 => by
    rw [rows, List.drop_succ_cons, ← rows_drop xs k, Nat.add_mul, Nat.one_mul, Nat.add_comm, ← List.drop_drop, List.drop_left' (F.len x)]
theorem rows_take : ∀ (xs : List α) (k : Nat), (rows xs).take (k * F.sz) = rows (xs.take k)
  | xs, 0 => by simp [rows]
  | [], k + 1 => by simp [rows]
  | x :: xs, k + 1 => by
    have e : (k + 1) * F.sz = (F.cells x).length + k * F.sz := by rw [F.len, Nat.add_mul]; omega
    rw [rows, List.take_succ_cons, rows, e, List.take_append, List.take_of_length_le (by omega), Nat.add_sub_cancel_left, rows_take xs k]
theorem getR_cons (x : α) (xs : List α) (i : Nat) : getR (x :: xs) (i + 1) = getR xs i := by simp [getR]
/-- Within a row: some of an element's cells. -/
theorem rows_sub : ∀ (xs : List α) (i d k : Nat), i < xs.length → d + k ≤ F.sz → ((rows xs).drop (i * F.sz + d)).take k = ((F.cells (getR xs i)).drop d).take k
  | [], _, _, _, h, _ => by cases h
  | x :: xs, 0, d, k, _, h2 => by
    rw [Nat.zero_mul, Nat.zero_add, rows, List.drop_append, List.take_append]
    have hl := F.len x
    have e : k - ((F.cells x).drop d).length = 0 := by rw [List.length_drop]; omega
    rw [e, List.take_zero, List.append_nil]; rfl
  | x :: xs, i + 1, d, k, h1, h2 => by
    rw [getR_cons, ← rows_sub xs i d k (by simpa using h1) h2, rows]
    have e : (i + 1) * F.sz + d = (F.cells x).length + (i * F.sz + d) := by rw [F.len, Nat.add_mul]; omega
    rw [e, ← List.drop_drop, List.drop_left]
theorem rows_cell (xs : List α) (i d : Nat) (h : i < xs.length) (h2 : d < F.sz) : (rows xs)[i * F.sz + d]? = (F.cells (getR xs i))[d]? := by
  have := congrArg List.head? (rows_sub xs i d 1 h (by omega))
  rw [List.head?_take, List.head?_take, List.head?_drop, List.head?_drop] at this
  simpa using this
theorem load1_rows {P : Program} {t : TypeId} {xs : List α} {i d off : Nat} {v : Value} (ho : off = i * F.sz + d) (hi : i < xs.length) (ha : isAggC P t = some false) (hd : d < F.sz)
    (hl : (F.cells (getR xs i))[d]? = some v) : loadC P t (rows xs) off = some v := by
  subst ho
  unfold loadC
  simp only [ha, rows_cell xs i d hi hd, hl]
end

/-! ### Some kinds of elements -/
instance flatInt : Flat Int := ⟨1, fun n => [.int .i64 n], 0, fun _ => rfl, by decide, fun _ => rfl, fun _ => rfl⟩
instance flatBool : Flat Bool := ⟨1, fun n => [.bool n], false, fun _ => rfl, by decide, fun _ => rfl, fun _ => rfl⟩
instance flatStr : Flat ByteArray := ⟨1, fun s => [.string s], ByteArray.empty, fun _ => rfl, by decide, fun _ => rfl, fun _ => rfl⟩
/-- A byte. -/
structure U8 where
  n : Int
instance flatU8 : Flat U8 := ⟨1, fun b => [.int .u8 b.n], ⟨0⟩, fun _ => rfl, by decide, fun _ => rfl, fun _ => rfl⟩
instance flatList {α : Type} [Flat α] : Flat (List α) := ⟨1, fun xs => [lst xs], [], fun _ => rfl, by decide, fun _ => rfl, fun _ => rfl⟩

/-! ### Slices of one's own that are given up to be known by what they hold -/
def slotV (d : Nat) : VS → Value
  | .norm _ a _ => a.getD d undef
  | _ => undef
def frzS (d b : Nat) (u : Value) : VS → VS
  | .norm todo a m => fv u fun u' => fl (a.set d u') fun a' => fl (m.set b .gone) fun m' => .norm todo a' m'
  | s => s
section
variable {P : Program} {f : FuncId} {n0 : Nat}

/-- A slice of one's own, given up. -/
theorem Runs.frzN {todo : List Item} {a : List Value} {m : List Blk} {v : Value} {m' : List Blk} (d b off n cap sz : Nat) (c : List Value) (hs : a.getD d undef = .slice (some ⟨b, off, none⟩) n cap) (hb : m[b]? = some (.cells c sz true))
    (hn : n ≤ cap) (l : List Value) (hp : pures l = true) (hfl : off + l.length ≤ c.length) (hl : (c.drop off).take l.length = l) (h0 : n = 0 → l = []) (h : Runs P f n0 (.norm todo (a.set d (Dt.frz n l)) (m.set b .gone)) v m') : Runs P f n0 (.norm todo a m) v m' := by
  have hblt : b < m.length := (List.getElem?_eq_some_iff.1 hb).1
  have hbg : at_ m b = .cells c sz true := by simp [at_, List.getD_eq_getElem?_getD, hb]
  intro ι t w hr fr0 cs hb0 hk0
  have hB := hr.sim.blk b
  rw [hbg] at hB
  obtain ⟨L, c', te, fz, hL, hh, hfit, hrw, _, hcells⟩ := hB
  obtain ⟨rfl, hroom, hsz, hro⟩ := hrw rfl
  have hlb : ∀ r cc, ι.fro r = some cc → L.blk ≠ r := fun r cc h => hr.sim.apart b L r cc (by rw [hbg]; rfl) hL h
  let ι' : Map := ⟨ι.loc, fun r => if r = L.blk then some c' else ι.fro r⟩
  have hself : ι'.fro L.blk = some c' := by show (if L.blk = L.blk then some c' else _) = _; rw [if_pos rfl]
  have hle : Le ι ι' := ⟨fun _ _ h => h, fun r cc h => by
    show (if r = L.blk then some c' else ι.fro r) = some cc
    rw [if_neg (Ne.symm (hlb r cc h))]; exact h⟩
  have hcase : ∀ r cc, ι'.fro r = some cc → (r = L.blk ∧ cc = c') ∨ ι.fro r = some cc := fun r cc h => by
    have h : (if r = L.blk then some c' else ι.fro r) = some cc := h
    split at h
    · rename_i e; cases h; exact .inl ⟨e, rfl⟩
    · exact .inr h
  have hat : ∀ x, at_ (m.set b .gone) x = if x = b then .gone else at_ m x := fun x => by
    simp only [at_, List.getD_eq_getElem?_getD]
    by_cases hx : x = b
    · subst hx; simp [hblt]
    · rw [if_neg hx, List.getElem?_set_ne (Ne.symm hx)]
  have ownSub : ∀ k, OwnR ι' (at_ (m.set b .gone)) k → OwnR ι (at_ m) k := fun k ⟨x, K, ho, hK, hk⟩ => by
    rw [hat] at ho
    split at ho
    · cases ho
    · exact ⟨x, K, ho, hK, hk⟩
  have liveSub : ∀ k, LiveR ι' (at_ (m.set b .gone)) k → LiveR ι (at_ m) k := fun k ⟨x, K, ho, hK, hk⟩ => by
    rw [hat] at ho
    split at ho
    · cases ho
    · exact ⟨x, K, ho, hK, hk⟩
  have hrel : Rel ι' (a.set d (Dt.frz n l)) (m.set b .gone) t w := by
    refine ⟨by simpa using hr.size, fun x => ?_, ⟨fun x => ?_, fun x x2 K K2 hne ho hl hK hK2 => ?_, fun r cc hcc => ?_, fun x K r cc ho hK hcc => ?_⟩, fun x hx => by simpa using hr.dom x hx⟩
    · by_cases hx : d = x
      · subst hx
        by_cases hda : d < a.length
        · have hv := hr.slots d
          rw [hs] at hv
          rw [show (a.set d (Dt.frz n l)).getD d undef = Dt.frz n l by simp [List.getD_eq_getElem?_getD, hda]]
          generalize t.getD d undef = y at hv
          cases hv with
          | slice0 p q =>
            have e := h0 rfl
            subst e
            exact .frzE q 0
          | @slice _ _ _ _ cap' L2 hL2 hcc hr2 =>
            rw [hL] at hL2; cases hL2
            refine .frz hself (by omega) hp (by omega) fun i hi => ?_
            have := (hcells (off + i) (by omega)).mono hle
            have e : l.getD i undef = c.getD (off + i) undef := by
              have e2 : l.getD i undef = ((c.drop off).take l.length).getD i undef := by rw [hl]
              rw [e2]
              simp [List.getD_eq_getElem?_getD, List.getElem?_take, hi, List.getElem?_drop]
            rw [e, Nat.add_assoc]; exact this
        · have e : (a.set d (Dt.frz n l)) = a := List.set_eq_of_length_le (by omega)
          rw [e]; exact (hr.slots d).mono hle
      · rw [show (a.set d (Dt.frz n l)).getD x undef = a.getD x undef by simp [List.getD_eq_getElem?_getD, List.getElem?_set_ne hx]]
        exact (hr.slots x).mono hle
    · rw [hat]
      split
      · trivial
      · exact (hr.sim.blk x).keep hle fun _ _ _ => rfl
    · rw [hat] at ho hl
      split at ho
      · cases ho
      · split at hl
        · cases hl
        · exact hr.sim.sep x x2 K K2 hne ho hl hK hK2
    · rcases hcase r cc hcc with ⟨rfl, rfl⟩ | h
      · exact ⟨te, (0, 0), hh⟩
      · exact hr.sim.fro r cc h
    · rw [hat] at ho
      split at ho
      · cases ho
      · rename_i hxb
        rcases hcase r cc hcc with ⟨rfl, rfl⟩ | h
        · exact hr.sim.sep x b K L hxb ho (by rw [hbg]; rfl) hK hL
        · exact hr.sim.apart x K r cc ho hK h
  obtain ⟨v', w', fr, ι'', h1, h2, h3, h4, h5, h6, h7⟩ := h ι' t w hrel fr0 cs hb0 hk0
  refine ⟨v', w', fr, ι'', h1, h2, h3, h4, h5, h6, ⟨h7.le, h7.size, h7.os, h7.tape, h7.output, fun k hk hn => h7.frame k hk (fun ho => hn (ownSub k ho)), fun k ho => (h7.own k ho).imp (ownSub k) id, fun k ho => (h7.live k ho).imp (liveSub k) id,
    fun r cc hcc => h7.lef r cc (hle.fro r cc hcc), fun r cc hcc => ?_⟩⟩
  rcases h7.fro r cc hcc with h | h | h
  · rcases hcase r cc h with ⟨rfl, rfl⟩ | h
    · exact .inr (.inl ⟨b, L, by rw [hbg]; rfl, hL, rfl⟩)
    · exact .inl h
  · exact .inr (.inl (ownSub r h))
  · exact .inr (.inr h)

end

end

section
open Go.RowKit
set_option linter.unusedVariables false
set_option linter.unusedSimpArgs false

/-- Where the value is some r, the run from s ends with what r stands for. -/
def Lifts (P : Program) (f : FuncId) (n0 : Nat) {ρ : Type} (E : ρ → Value) (s : VS) (o : Option ρ) : Prop := ∀ r, o = some r → RunsE P f n0 s (E r)

/-- Is a number a place among so many? -/
def inR (i : Int) (n : Nat) : Bool := decide (0 ≤ i) && decide (i < n)
/-- Is there room for so many elements of so many bytes? -/
def room (n bytes : Nat) : Bool := decide (2 * n * bytes ≤ 281474976710656) && decide (n ≤ 9223372036854775807)

section
variable {P : Program} {f : FuncId} {n0 : Nat} {ρ : Type} {E : ρ → Value} {s : VS} {T T1 T2 : Option ρ}

theorem Con.lift {fn : Func} {args : List Value} {o : Option ρ} (hf : P.funcs[f]? = some fn) (hn : ((fn.name == "runtime.NumGoroutine") || fn.body.isNone) = false) (hp : pures args = true) (hE : ∀ r, pureV (E r) = true)
    (h : Lifts P f 0 E (entry fn args []) o) : ∀ r, o = some r → Con P f args (E r) := fun r hr =>
  Con.run hf hn (by rw [hp, hE r]; rfl) (h r hr)

theorem L.no : Lifts P f n0 E s Option.none := fun r h => by cases h

theorem L.ret (fn : Func) (hm : P.follows .mixedOrders = true) (hf : P.funcs[f]? = some fn) {r0 : ρ} (v : Value) (h : retOf P fn (go P s) = some v) (e : v = E r0) : Lifts P f n0 E s (some r0) := fun r hr => by
  cases hr
  exact R.finIs hm hf v h e

theorem L.br (hm : P.follows .mixedOrders = true) (n : Nat) (b : Bool) (hs : condOf (vadv P n s) = some b) (h1 : b = true → Lifts P f n0 E (goC (vadv P n s) true) T1) (h0 : b = false → Lifts P f n0 E (goC (vadv P n s) false) T2) :
    Lifts P f n0 E s (bif b then T1 else T2) := fun r hr =>
  R.branch hm n b hs (fun e => h1 e r (by rw [e] at hr; exact hr)) (fun e => h0 e r (by rw [e] at hr; exact hr))
theorem L.gu (hm : P.follows .mixedOrders = true) (n : Nat) (b : Bool) (hs : guardB (vadv P n s) = some b) (h1 : b = true → Lifts P f n0 E (setG (vadv P n s) true) T1) (h0 : b = false → Lifts P f n0 E (setG (vadv P n s) false) T2) :
    Lifts P f n0 E s (bif b then T1 else T2) := fun r hr =>
  R.guard hm n b hs (fun e => h1 e r (by rw [e] at hr; exact hr)) (fun e => h0 e r (by rw [e] at hr; exact hr))
theorem L.call (hm : P.follows .mixedOrders = true) {u : Value} {g : FuncId} {args : List Value} (c : Con P g args u) (hs : callAt (go P s) = some (g, args)) (h : Lifts P f n0 E (afterCall (go P s) u) T) : Lifts P f n0 E s T := fun r hr => R.call hm c hs (h r hr)
theorem L.callO (hm : P.follows .mixedOrders = true) {U : Type} {G : Option U} {k : U → Option ρ} {g : FuncId} {args : List Value} (eu : U → Value) (c : ∀ u, G = some u → Con P g args (eu u)) (hs : callAt (go P s) = some (g, args))
    (h : ∀ u, G = some u → Lifts P f n0 E (afterCall (go P s) (eu u)) (k u)) : Lifts P f n0 E s (G.bind k) := fun r hr => by
  cases hG : G with
  | none => rw [hG] at hr; cases hr
  | some u =>
    rw [hG] at hr
    exact R.call hm (c u hG) hs (h u hG r hr)
theorem L.ext (hm : P.follows .mixedOrders = true) {u : Value} {g : FuncId} {e : Array Value → Sem Value} (args : Array Value) (he : externOf P g = some e) (hp : plain u = true) (hv : ∀ w, (e args).run P w = .ok u w) (hs : extAt (go P s) = some (g, args))
    (h : Lifts P f n0 E (afterOne (go P s) u) T) : Lifts P f n0 E s T := fun r hr => R.ext hm args he hp hv hs (h r hr)
theorem L.spell (hm : P.follows .mixedOrders = true) (n' : Nat) (d : Nat) (u u' : Value) (e : u = u') (hs : (vadv P n' s).slots.getD d undef = u) (h : Lifts P f n0 E (setV (vadv P n' s) d u') T) : Lifts P f n0 E s T := fun r hr => R.spell hm n' d u u' e hs (h r hr)

theorem L.div (hm : P.follows .mixedOrders = true) (n' : Nat) (q : Bool) (k : IntKind) (n d : Int) (hs : divAt (vadv P n' s) = some (q, k, n, d)) (h : d ≠ 0 → Lifts P f n0 E (afterOne (vadv P n' s) (.int k (bif q then n.tmod d else k.wrap (n.tdiv d)))) T) :
    Lifts P f n0 E s (bif d != 0 then T else none) := fun r hr => by
  cases hd : d != 0 with
  | false => rw [hd] at hr; cases hr
  | true =>
    rw [hd] at hr
    have hd' : d ≠ 0 := by simpa using hd
    exact R.div hm n' q k n d hd' hs (h hd' r hr)
/-- As far as a state that is known, of which only some slots matter, and some blocks. -/
theorem L.jump (hm : P.follows .mixedOrders = true) (n : Nat) (ks : List Nat) {st : VS} (e : keepS ks (vadv P n s) = st) (h : Lifts P f n0 E st T) : Lifts P f n0 E s T := fun r hr => R.at hm n ks e (h r hr)
theorem L.jumpG (hm : P.follows .mixedOrders = true) (n : Nat) (ks : List Nat) {st : VS} (Es : List Ent) (cs : List (List Value)) (e : gcS Es (keepS ks (vadv P n s)) = st)
    (hE : okE Es (keepS ks (vadv P n s)).mem (Es.map (downB Es (keepS ks (vadv P n s)).mem)) = true) (hv : viewsB Es (keepS ks (vadv P n s)).mem = cs) (hcs : puresAll cs) (hfirst : firstE Es (keepS ks (vadv P n s)).mem n0 = true) (hs : isNormS (keepS ks (vadv P n s)) = true)
    (h : Lifts P f n0 E st T) : Lifts P f n0 E s T := fun r hr =>
  RunsE.adv hm n (RunsE.forget ks (RunsE.gc Es hE (views_okP hv hcs) hfirst hs (e ▸ h r hr)))
/-! ### Slices that are known by what they hold -/
def fidxAt (P : Program) (s : VS) : Option (Nat × List Value × Nat × IntKind × Int) := match opAt s with
  | some o => match o.op with
    | .indexAddr t x ix => bif okConst x && okConst ix then (match asFrz (evalC s.slots x), evalC s.slots ix, P.underlying t with
      | some (n, c), .int k i, some (.slice e) => (match szC P e with
        | some sz => some (n, c, sz, k, i)
        | none => none)
      | _, _, _ => none) else none
    | _ => none
  | none => none

theorem L.idx (hm : P.follows .mixedOrders = true) (n' : Nat) (n : Nat) (c : List Value) (sz : Nat) (k : IntKind) (i : Int) (hs : fidxAt P (vadv P n' s) = some (n, c, sz, k, i)) (h : 0 ≤ i → i < n → Lifts P f n0 E (afterOne (vadv P n' s) (frp c (i.toNat * sz))) T) :
    Lifts P f n0 E s (bif inR i n then T else none) := fun r hr => by
  cases hi : inR i n with
  | false => rw [hi] at hr; cases hr
  | true =>
    rw [hi] at hr
    simp only [inR, Bool.and_eq_true, decide_eq_true_eq] at hi
    refine RunsE.adv hm n' ?_
    have h := h hi.1 hi.2 r hr
    unfold fidxAt at hs
    unfold afterOne at h
    split at hs
    · rename_i o ho
      simp only [ho, fv_eq] at h
      split at hs
      · rename_i t x ix hop
        cases hc : (okConst x && okConst ix) with
        | false => rw [hc] at hs; cases hs
        | true =>
          rw [hc, cond_true] at hs
          rw [Bool.and_eq_true] at hc
          split at hs
          · rename_i n1 c1 k1 i1 e hx hix hu
            split at hs
            · rename_i sz1 hz
              cases hs
              exact RunsE.op o ho (OpOk.idxFrz hop hc.1 hc.2 (asFrz_ok hx) hix hu hz hi.1 hi.2) h
            · cases hs
          · cases hs
      · cases hs
    · cases hs

def fldAt (s : VS) : Option (TypeId × List Value × Nat) := match opAt s with
  | some o => match o.op with
    | .load t x => bif okConst x then (match asFrp (evalC s.slots x) with
      | some (c, off) => some (t, c, off)
      | none => none) else none
    | _ => none
  | none => none

theorem L.ld (hm : P.follows .mixedOrders = true) (n' : Nat) (t : TypeId) (c : List Value) (off : Nat) (v : Value) (hs : fldAt (vadv P n' s) = some (t, c, off)) (hv : loadC P t c off = some v) (h : Lifts P f n0 E (afterOne (vadv P n' s) v) T) : Lifts P f n0 E s T := fun r hr => by
  refine RunsE.adv hm n' ?_
  have h := h r hr
  unfold fldAt at hs
  unfold afterOne at h
  split at hs
  · rename_i o ho
    simp only [ho, fv_eq] at h
    split at hs
    · rename_i t1 x hop
      cases hc : okConst x with
      | false => rw [hc] at hs; cases hs
      | true =>
        rw [hc, cond_true] at hs
        split at hs
        · rename_i c1 off1 hx
          cases hs
          exact RunsE.op o ho (OpOk.loadFrp hop hc (asFrp_ok hx) hv) h
        · cases hs
    · cases hs
  · cases hs

/-- The bounds of a cut. -/
def fslAt (P : Program) (s : VS) : Option (Nat × List Value × Nat × Option Int × Option Int) := match opAt s with
  | some o => match o.op with
    | .slice t x lo hi none => bif okConst x then (match asFrz (evalC s.slots x), P.underlying t with
      | some (n, c), some (.slice e) => (match szC P e with
        | some sz => (match (match lo with
            | none => some none
            | some y => bif okConst y then (match evalC s.slots y with | .int _ i => some (some i) | _ => none) else none), (match hi with
            | none => some none
            | some y => bif okConst y then (match evalC s.slots y with | .int _ i => some (some i) | _ => none) else none) with
          | some l, some h => some (n, c, sz, l, h)
          | _, _ => none)
        | none => none)
      | _, _ => none) else none
    | _ => none
  | none => none

def cutOk (n : Nat) (l h : Int) : Bool := decide (0 ≤ l) && decide (l ≤ h) && decide (h ≤ n)

theorem L.sl (hm : P.follows .mixedOrders = true) {α : Type} [F : Flat α] (n' : Nat) (xs : List α) (l h : Option Int) (hs : fslAt P (vadv P n' s) = some (xs.length, rows xs, F.sz, l, h))
    (hk : Lifts P f n0 E (afterOne (vadv P n' s) (lst ((xs.drop (l.getD 0).toNat).take ((h.getD xs.length).toNat - (l.getD 0).toNat)))) T) :
    Lifts P f n0 E s (bif cutOk xs.length (l.getD 0) (h.getD xs.length) then T else none) := fun r hr => by
  cases hi : cutOk xs.length (l.getD 0) (h.getD xs.length) with
  | false => rw [hi] at hr; cases hr
  | true =>
    rw [hi] at hr
    simp only [cutOk, Bool.and_eq_true, decide_eq_true_eq] at hi
    refine RunsE.adv hm n' ?_
    have h2 := hk r hr
    unfold fslAt at hs
    unfold afterOne at h2
    split at hs
    · rename_i o ho
      simp only [ho, fv_eq] at h2
      split at hs
      · rename_i t x lo hi' hop
        cases hc : okConst x with
        | false => rw [hc] at hs; cases hs
        | true =>
          rw [hc, cond_true] at hs
          split at hs
          · rename_i n1 c1 e hx hu
            split at hs
            · rename_i sz1 hz
              split at hs
              · rename_i l1 h1 hl hh
                have hs := Option.some.inj hs
                simp only [Prod.mk.injEq] at hs
                obtain ⟨rfl, rfl, rfl, rfl, rfl⟩ := hs
                have hlo : ∃ kl, (lo = none ∧ (l1.getD 0).toNat = 0) ∨ ∃ y, lo = some y ∧ okConst y = true ∧ evalC (vadv P n' s).slots y = .int kl ((l1.getD 0).toNat : Nat) := by
                  cases lo with
                  | none => cases hl; exact ⟨.i64, .inl ⟨rfl, rfl⟩⟩
                  | some y =>
                    simp only at hl
                    cases hcy : okConst y with
                    | false => rw [hcy] at hl; cases hl
                    | true =>
                      rw [hcy, cond_true] at hl
                      split at hl
                      · rename_i kk i hy
                        cases hl
                        refine ⟨kk, .inr ⟨y, rfl, hcy, ?_⟩⟩
                        rw [hy]
                        have : 0 ≤ i := hi.1.1
                        congr 1
                        simp only [Option.getD_some]
                        omega
                      · cases hl
                have hhi : ∃ kh, (hi' = none ∧ (h1.getD xs.length).toNat = xs.length) ∨ ∃ y, hi' = some y ∧ okConst y = true ∧ evalC (vadv P n' s).slots y = .int kh ((h1.getD xs.length).toNat : Nat) := by
                  cases hi' with
                  | none => cases hh; exact ⟨.i64, .inl ⟨rfl, rfl⟩⟩
                  | some y =>
                    simp only at hh
                    cases hcy : okConst y with
                    | false => rw [hcy] at hh; cases hh
                    | true =>
                      rw [hcy, cond_true] at hh
                      split at hh
                      · rename_i kk i hy
                        cases hh
                        refine ⟨kk, .inr ⟨y, rfl, hcy, ?_⟩⟩
                        rw [hy]
                        have := hi.1.1
                        have := hi.1.2
                        simp only [Option.getD_some] at *
                        congr 1
                        omega
                      · cases hh
                obtain ⟨kl, hlo⟩ := hlo
                obtain ⟨kh, hhi⟩ := hhi
                have hok := OpOk.sliceFrz (m := (vadv P n' s).mem) hop hc (asFrz_ok hx) hu hz (rows_length xs) hlo hhi (by omega) (by omega)
                rw [rows_drop, rows_take] at hok
                have hlen : ((xs.drop (l1.getD 0).toNat).take ((h1.getD xs.length).toNat - (l1.getD 0).toNat)).length = (h1.getD xs.length).toNat - (l1.getD 0).toNat := by
                  simp only [List.length_take, List.length_drop]; omega
                have e2 : lst ((xs.drop (l1.getD 0).toNat).take ((h1.getD xs.length).toNat - (l1.getD 0).toNat)) = frz ((h1.getD xs.length).toNat - (l1.getD 0).toNat) (rows ((xs.drop (l1.getD 0).toNat).take ((h1.getD xs.length).toNat - (l1.getD 0).toNat))) := by
                  unfold lst; rw [hlen]
                rw [← e2] at hok
                exact RunsE.op o ho hok h2
              · cases hs
            · cases hs
          · cases hs
      · cases hs
    · cases hs

end

end

end Go.Dt
