/- Several texts in one: Dt34, Dt35, Dt36. -/
import Derived.Test.YtnkahfikkpmcbaaDoorQB14
import Derived.Test.YtnkahfikkpmcbaaDoorQB11
import Derived.Test.YtnkahfikkpmcbaaDoorQB13
namespace Go.Dt

section
open Go.RowKit
set_option linter.unusedVariables false
set_option linter.unusedSimpArgs false

/-- A row that is nil as long as nothing was appended. -/
def accV {α : Type} (b : Nat) : List α → Value
  | [] => .slice none 0 0
  | x :: xs => .slice (some ⟨b, 0, none⟩) (xs.length + 1) (xs.length + 1)
abbrev ownV {α : Type} (b : Nat) (xs : List α) : Value := .slice (some ⟨b, 0, none⟩) xs.length xs.length
section
variable {α : Type} [F : Flat α]
def accB : List α → Blk
  | [] => .gone
  | x :: xs => .cells (rows (x :: xs)) F.sz true
abbrev ownB (xs : List α) : Blk := .cells (rows xs) F.sz true
end

theorem OpOk.widen {P : Program} {o : Oper} {a : List Value} {m m' : List Blk} {v : Value} {b : Nat} {rd : List Nat} (hblt : b < m.length) (hb : m.getD b .gone = .gone) (hb' : m'.getD b .gone = .gone) (h : OpOk P o a m v m' ⟨rd, []⟩) : OpOk P o a m v m' ⟨b :: rd, [b]⟩ where
  len := h.len
  sub := by simp
  rdlt := fun x hx => by
    rcases List.mem_cons.1 hx with rfl | hx
    · exact hblt
    · exact h.rdlt x hx
  same := fun x hx _ => h.same x hx (by simp)
  run := fun ι t w hs hdom hsim next Q hn => by
    have e1 : (at_ m).only (isIn (b :: rd)) = (at_ m).only (isIn rd) := by
      funext x
      simp only [Cont.only]
      by_cases hx : x = b
      · have h1 : at_ m x = .gone := by rw [hx]; exact hb
        rw [h1]
        split <;> split <;> rfl
      · have e : isIn (b :: rd) x = isIn rd x := by simp [isIn, hx]
        simp only [e]
    have e2 : (at_ m').only (tch (b :: rd) m.length m'.length) = (at_ m').only (tch rd m.length m'.length) := by
      funext x
      simp only [Cont.only]
      by_cases hx : x = b
      · have h1 : at_ m' x = .gone := by rw [hx]; exact hb'
        rw [h1]
        split <;> split <;> rfl
      · have e : tch (b :: rd) m.length m'.length x = tch rd m.length m'.length x := by simp [tch, hx]
        simp only [e]
    refine h.run ι t w hs hdom (by rw [← e1]; exact hsim) next Q fun v' w1 ι' h1 h2 h3 h4 => hn v' w1 ι' h1 ?_ ?_ h4
    · rw [e1, e2]; exact h2
    · rw [e2]; exact h3

section
variable {P : Program} {f : FuncId} {n0 : Nat} {ρ : Type} {E : ρ → Value} {s : VS} {T : Option ρ} {α : Type} [F : Flat α]

/-- An append of one or more elements. -/
theorem L.push (hm : P.follows .mixedOrders = true) (n' : Nat) (b bytes b2 o2 : Nat) (c2 : List Value) (xs ys : List α) (hs : apAt P (vadv P n' s) = some (accV b xs, F.sz, bytes, b2, o2, ys.length, c2)) (hb : (vadv P n' s).mem[b]? = some (accB xs)) (hy : 0 < ys.length)
    (hfit2 : o2 + ys.length * F.sz ≤ c2.length) (hsrc : (c2.drop o2).take (ys.length * F.sz) = rows ys)
    (h : Lifts P f n0 E (afterAp (vadv P n' s) (ownV (vadv P n' s).mem.length (xs ++ ys)) ((vadv P n' s).mem.set b .gone ++ [ownB (xs ++ ys)]) ⟨[b, b2], [b]⟩) T) :
    Lifts P f n0 E s (bif room (xs.length + ys.length) bytes then T else none) := fun r hr => by
  cases hi : room (xs.length + ys.length) bytes with
  | false => rw [hi] at hr; cases hr
  | true =>
    rw [hi] at hr
    simp only [room, Bool.and_eq_true, decide_eq_true_eq] at hi
    have h := h r hr
    have hone : ((c2.drop o2).take (ys.length * F.sz)).all one = true := by rw [hsrc]; exact rows_one ys
    cases xs with
    | nil =>
      refine RunsE.adv hm n' ?_
      obtain ⟨o, so, x, t, tx, e, e', i, z, cap, sz, rw_, ho, hop, hc1, hc2, hse, hu, hu2, hxe, hb2, hinf, hz, hzs, hsz, rfl⟩ := apAt_inv hs
      unfold afterAp at h
      simp only [ho, fv_eq, fl_eq] at h
      have hblt : b < (vadv P n' s).mem.length := (List.getElem?_eq_some_iff.1 hb).1
      have hbg : (vadv P n' s).mem.getD b .gone = .gone := by simp [List.getD_eq_getElem?_getD, hb, accB]
      have hset : (vadv P n' s).mem.set b .gone = (vadv P n' s).mem := by
        apply List.ext_getElem?
        intro j
        by_cases hj : b = j
        · subst hj; rw [List.getElem?_set_self hblt, hb]; rfl
        · rw [List.getElem?_set_ne hj]
      simp only [List.length_nil, Nat.zero_add] at hi
      have hok := OpOk.appendNil (o := o) (a := (vadv P n' s).slots) (m := (vadv P n' s).mem) hop hc1 hc2 hse hy hu (.inl ⟨e', hu2⟩) hinf hz hzs hi.2 hi.1 (.sl hxe hb2 (by rw [hsz]; exact hfit2) (by rw [hsz]; exact hone))
      rw [hsz, hsrc] at hok
      have hok2 := OpOk.widen (b := b) hblt hbg (by
        simp only [List.getD_eq_getElem?_getD]
        rw [List.getElem?_append_left hblt, hb]; rfl) hok
      refine RunsE.op o ho hok2 ?_
      rw [hset] at h
      exact h
    | cons x xs =>
      have hb' : (vadv P n' s).mem[b]? = some (.cells (rows (x :: xs)) F.sz true) := hb
      refine RunsE.adv hm n' (RunsE.appGrow b 0 (xs.length + 1) F.sz bytes b2 o2 ys.length (rows (x :: xs)) c2 (rows ((x :: xs) ++ ys)) hs hb' hy ?_ hfit2 hone ?_ ?_ ?_ ?_)
      · rw [rows_length, Nat.zero_add]; exact Nat.le_refl _
      · simpa using hi.2
      · simpa using hi.1
      · rw [hsrc, List.drop_zero, List.take_of_length_le (by rw [rows_length]; exact Nat.le_refl _), rows_append]
      · have e : (xs.length + 1 + ys.length) = ((x :: xs) ++ ys).length := by simp; omega
        rw [e]
        exact h
/-- The same onto a row that is there. -/
theorem L.app (hm : P.follows .mixedOrders = true) (n' : Nat) (b bytes b2 o2 nn : Nat) (c2 : List Value) (xs ys : List α) (hnn : nn = xs.length) (hs : apAt P (vadv P n' s) = some (.slice (some ⟨b, 0, none⟩) nn nn, F.sz, bytes, b2, o2, ys.length, c2)) (hb : (vadv P n' s).mem[b]? = some (ownB xs)) (hy : 0 < ys.length)
    (hfit2 : o2 + ys.length * F.sz ≤ c2.length) (hsrc : (c2.drop o2).take (ys.length * F.sz) = rows ys)
    (h : Lifts P f n0 E (afterAp (vadv P n' s) (ownV (vadv P n' s).mem.length (xs ++ ys)) ((vadv P n' s).mem.set b .gone ++ [ownB (xs ++ ys)]) ⟨[b, b2], [b]⟩) T) :
    Lifts P f n0 E s (bif room (xs.length + ys.length) bytes then T else none) := fun r hr => by
  subst hnn
  cases hi : room (xs.length + ys.length) bytes with
  | false => rw [hi] at hr; cases hr
  | true =>
    rw [hi] at hr
    simp only [room, Bool.and_eq_true, decide_eq_true_eq] at hi
    have h := h r hr
    have hone : ((c2.drop o2).take (ys.length * F.sz)).all one = true := by rw [hsrc]; exact rows_one ys
    refine RunsE.adv hm n' (RunsE.appGrow b 0 xs.length F.sz bytes b2 o2 ys.length (rows xs) c2 (rows (xs ++ ys)) hs hb hy ?_ hfit2 hone hi.2 hi.1 ?_ ?_)
    · rw [rows_length, Nat.zero_add]; exact Nat.le_refl _
    · rw [hsrc, List.drop_zero, List.take_of_length_le (by rw [rows_length]; exact Nat.le_refl _), rows_append]
    · have e : (xs.length + ys.length) = (xs ++ ys).length := by simp
      rw [e]
      exact h

/-! ### Rows given up -/
theorem RunsE.frzN {s : VS} {v : Value} (d b off n cap sz : Nat) (c l : List Value) (hs : slotV d s = .slice (some ⟨b, off, none⟩) n cap) (hb : s.mem[b]? = some (.cells c sz true))
    (hn : n ≤ cap) (hp : pures l = true) (hfl : off + l.length ≤ c.length) (hl : (c.drop off).take l.length = l) (h0 : n = 0 → l = []) (hns : isNormS s = true) (h : RunsE P f n0 (frzS d b (frz n l) s) v) : RunsE P f n0 s v := by
  obtain ⟨m', h⟩ := h
  cases s with
  | reg => cases hns
  | norm todo a m =>
    refine ⟨m', Runs.frzN d b off n cap sz c hs hb hn l hp hfl hl h0 ?_⟩
    simpa only [frzS, fv_eq, fl_eq] using h
/-! ### Rows of one's own, element by element -/
theorem L.oidx (hm : P.follows .mixedOrders = true) (n' : Nat) (b off len n : Nat) (k : IntKind) (i : Int) (hs : idxAt P (vadv P n' s) = some (b, off, len, n, k, i)) (h : 0 ≤ i → i < len → Lifts P f n0 E (afterOne (vadv P n' s) (.pointer (some ⟨b, off + i.toNat * n, none⟩))) T) :
    Lifts P f n0 E s (bif inR i len then T else none) := fun r hr => by
  cases hi : inR i len with
  | false => rw [hi] at hr; cases hr
  | true =>
    rw [hi] at hr
    simp only [inR, Bool.and_eq_true, decide_eq_true_eq] at hi
    exact R.idx hm n' b off len n k i _ hs hi.1 hi.2 rfl (h hi.1 hi.2 r hr)
theorem L.old1 (hm : P.follows .mixedOrders = true) (n' : Nat) (n b off : Nat) (c : List Value) (u : Value) (hs : ldAt P (vadv P n' s) = some (false, n, b, off, c)) (hu : c[off]? = some u) (h : Lifts P f n0 E (afterRd (vadv P n' s) b u) T) : Lifts P f n0 E s T := fun r hr =>
  R.load1 hm n' n b off c u hs hu (h r hr)
theorem L.ost (hm : P.follows .mixedOrders = true) (n' : Nat) (u : Value) (n b off : Nat) (c c2 : List Value) (sz : Nat) (hs : stAt P (vadv P n' s) = some (n, b, off, c, sz, u)) (hn : u.cells.size = n) (hone : u.cells.toList.all one = true) (hfit : off + n ≤ c.length) (hc2 : splice c off u.cells.toList = c2)
    (h : Lifts P f n0 E (afterWr (vadv P n' s) b (.cells c2 sz true)) T) : Lifts P f n0 E s T := fun r hr => R.store hm n' u n b off c c2 sz hs hn hone hfit hc2 (h r hr)
end

end

section
open Go.RowKit
set_option linter.unusedVariables false
set_option linter.unusedSimpArgs false

def firstReg : Code → Nat
  | .region id _ _ => id
  | .seq (.region id _ _) _ => id
  | .seq a b => match firstReg a with
    | 0 => firstReg b
    | n + 1 => n + 1
  | .block _ c => firstReg c
  | .loop c => firstReg c
  | .scope c => firstReg c
  | .cond _ a b => match firstReg a with
    | 0 => firstReg b
    | n + 1 => n + 1
  | _ => 0
/-- The loops of a text, each with what is to be done from its head on. -/
def lheads : Code → List Item → List (Nat × List Item)
  | .seq a b, k => lheads a (.code b :: k) ++ lheads b k
  | .cond _ a b, k => lheads a k ++ lheads b k
  | .block id c, k => lheads c (.inBlock id :: k)
  | .loop c, k => (firstReg c, .code c :: .inLoop c :: k) :: lheads c (.inLoop c :: k)
  | _, _ => []
def todoL : List (Nat × List Item) → Nat → List Item
  | [], _ => []
  | (i, t) :: l, j => bif Nat.beq i j then t else todoL l j
def todoAt (fn : Func) (key : Nat) : List Item := match fn.body with
  | some c => todoL (lheads c []) key
  | none => []
/-- A loop's head. -/
def headS (fn : Func) (key : Nat) (l : List (Nat × Value)) (m : List Blk) : VS := fl (putA l (List.replicate fn.ntmps undef)) fun a => .norm (todoAt fn key) a m

theorem toNat_lt {i : Int} {n : Nat} (h0 : 0 ≤ i) (h1 : i < n) : i.toNat < n := by omega
theorem in_of {i : Int} {n : Nat} (h : inR i n = true) : 0 ≤ i ∧ i < n := by simpa [inR] using h

section
variable {α : Type} [F : Flat α]
theorem rows_setF : ∀ (xs : List α) (i d off : Nat) (vs : List Value) (v : α), off = i * F.sz + d → i < xs.length → d + vs.length ≤ F.sz → splice (F.cells (getR xs i)) d vs = F.cells v → splice (rows xs) off vs = rows (xs.set i v)
  | [], _, _, _, _, _, _, h, _, _ => by cases h
  | x :: xs, 0, d, off, vs, v, ho, _, hd, h => by
    subst ho
    have hl := F.len x
    have h : splice (F.cells x) d vs = F.cells v := h
    simp only [splice, Nat.zero_mul, Nat.zero_add, rows, List.set_cons_zero] at h ⊢
    rw [← h, List.take_append, List.drop_append]
    have e1 : d - (F.cells x).length = 0 := by omega
    have e2 : d + vs.length - (F.cells x).length = 0 := by omega
    rw [e1, e2]
    simp [List.append_assoc]
  | x :: xs, i + 1, d, off, vs, v, ho, hi, hd, h => by
    subst ho
    rw [getR_cons] at h
    have ih := rows_setF xs i d _ vs v rfl (by simpa using hi) hd h
    have e : (i + 1) * F.sz + d = (F.cells x).length + (i * F.sz + d) := by rw [F.len, Nat.add_mul]; omega
    simp only [splice] at ih ⊢
    rw [List.set_cons_succ, rows, rows, e, List.take_append, List.take_of_length_le (by omega), Nat.add_sub_cancel_left, Nat.add_assoc, ← List.drop_drop, List.drop_left, ← ih]
    simp [List.append_assoc]
theorem rows_sub1 {xs : List α} {i d off : Nat} {v : Value} (ho : off = i * F.sz + d) (hi : i < xs.length) (hd : d < F.sz) (hl : (F.cells (getR xs i))[d]? = some v) : (rows xs)[off]? = some v := by
  subst ho; rw [rows_cell xs i d hi hd, hl]
theorem rows_fitN {xs : List α} {i d k off : Nat} (ho : off = i * F.sz + d) (hi : i < xs.length) (hk : d + k ≤ F.sz) : off + k ≤ (rows xs).length := by
  subst ho; exact rows_fit hi hk
end

/-- A byte of a text. -/
def byteAt (b : ByteArray) (i : Int) : Int := ((b[i.toNat]?).getD 0).toNat
section
variable {P : Program} {f : FuncId} {n0 : Nat} {ρ : Type} {E : ρ → Value} {s : VS} {T : Option ρ} {α : Type} [F : Flat α]

theorem L.strIdx (hm : P.follows .mixedOrders = true) (n' : Nat) (t : TypeId) (b : ByteArray) (k : IntKind) (i : Int) (hs : strAt (vadv P n' s) = some (t, b, k, i)) (ht : P.underlying t = some .string) (h : 0 ≤ i → i < b.size → Lifts P f n0 E (afterOne (vadv P n' s) (.int .u8 (byteAt b i))) T) :
    Lifts P f n0 E s (bif inR i b.size then T else none) := fun r hr => by
  cases hi : inR i b.size with
  | false => rw [hi] at hr; cases hr
  | true =>
    rw [hi] at hr
    obtain ⟨h0, h1⟩ := in_of hi
    have hlt : i.toNat < b.size := by omega
    have hb : b[i.toNat]? = some b[i.toNat] := by simp [hlt]
    have h := h h0 h1 r hr
    have e : byteAt b i = (b[i.toNat]).toNat := by unfold byteAt; rw [hb]; rfl
    rw [e] at h
    exact R.strIndex hm n' t b k i _ hs ht h0 hb h

/-! ### Appends of slices that are known by what they hold -/
end

end

section
open Go.RowKit Go.WideShapes Go.ChangeShapes Go.ChangeAt
set_option linter.unusedVariables false
set_option linter.unusedSimpArgs false

/-- A cell's kind. -/
inductive Ce where
  | int (k : IntKind)
  | bool
  | str
  | sl (l : List Ce)

mutual
def CeOk : Ce → Value → Prop
  | .int k, v => ∃ n, v = .int k n ∧ (Lit.int k n).wf = true
  | .bool, v => ∃ b, v = .bool b
  | .str, v => ∃ s : ByteArray, v = .string s ∧ s.size ≤ maxLen
  | .sl l, v => ∃ rs : List (List Value), v = frz rs.length rs.flatten ∧ rs.length ≤ maxLen ∧ ∀ r, r ∈ rs → CesOk l r
def CesOk : List Ce → List Value → Prop
  | [], [] => True
  | s :: ss, v :: vs => CeOk s v ∧ CesOk ss vs
  | _, _ => False
end

theorem CesOk.length : ∀ {ss : List Ce} {vs : List Value}, CesOk ss vs → vs.length = ss.length
  | [], [], _ => rfl
  | s :: ss, v :: vs, h => by
    unfold CesOk at h
    simp [CesOk.length h.2]
  | [], _ :: _, h => by unfold CesOk at h; exact h.elim
  | _ :: _, [], h => by unfold CesOk at h; exact h.elim
theorem CesOk.append : ∀ {ss ss2 : List Ce} {vs vs2 : List Value}, CesOk ss vs → CesOk ss2 vs2 → CesOk (ss ++ ss2) (vs ++ vs2)
  | [], _, [], _, _, h2 => h2
  | s :: ss, _, v :: vs, _, h, h2 => by
    unfold CesOk at h
    rw [List.cons_append, List.cons_append]
    unfold CesOk
    exact ⟨h.1, CesOk.append h.2 h2⟩
  | [], _, _ :: _, _, h, _ => by unfold CesOk at h; exact h.elim
  | _ :: _, _, [], _, h, _ => by unfold CesOk at h; exact h.elim
theorem CesOk.split : ∀ {ss ss2 : List Ce} {vs : List Value}, CesOk (ss ++ ss2) vs → ∃ a b, vs = a ++ b ∧ CesOk ss a ∧ CesOk ss2 b
  | [], _, vs, h => ⟨[], vs, rfl, by unfold CesOk; trivial, h⟩
  | s :: ss, ss2, [], h => by rw [List.cons_append] at h; unfold CesOk at h; exact h.elim
  | s :: ss, ss2, v :: vs, h => by
    rw [List.cons_append] at h
    unfold CesOk at h
    obtain ⟨a, b, rfl, h1, h2⟩ := CesOk.split h.2
    exact ⟨v :: a, b, rfl, by unfold CesOk; exact ⟨h.1, h1⟩, h2⟩
theorem ces_nil {vs : List Value} (h : CesOk [] vs) : vs = [] := by
  cases vs with
  | nil => rfl
  | cons v vs => unfold CesOk at h; exact h.elim
theorem ces_cons {s : Ce} {ss : List Ce} {vs : List Value} (h : CesOk (s :: ss) vs) : ∃ v vs', vs = v :: vs' ∧ CeOk s v ∧ CesOk ss vs' := by
  cases vs with
  | nil => unfold CesOk at h; exact h.elim
  | cons v vs => unfold CesOk at h; exact ⟨v, vs, rfl, h.1, h.2⟩

/-! ### Out of a heap -/
section
variable {H : Type} {enc : TypeId × Value → H} {P : Program} {w : World} {base : Nat} {spare : Nat → Bool} {held : Bool}

abbrev fm (w : World) : Map := ⟨fun _ => none, froH w⟩

/-- Cells that are of these kinds, and of which a canonical form is known. -/
def Opens (w : World) (ss : List Ce) (cs : List Value) : Prop :=
  ∃ can : List Value, CesOk ss can ∧ pures can = true ∧ can.length = cs.length ∧ ∀ i, i < can.length → RV (fm w) (can.getD i undef) (cs.getD i undef)

theorem Opens.nil : Opens w [] [] := ⟨[], by unfold CesOk; trivial, rfl, rfl, fun i h => by cases h⟩
theorem Opens.append {ss ss2 : List Ce} {cs cs2 : List Value} : Opens w ss cs → Opens w ss2 cs2 → Opens w (ss ++ ss2) (cs ++ cs2)
  | ⟨a, h1, h2, h3, h4⟩, ⟨b, k1, k2, k3, k4⟩ => ⟨a ++ b, h1.append k1, pures_append h2 k2, by simp [h3, k3], fun i hi => by
    simp only [List.getD_eq_getElem?_getD] at *
    rcases Nat.lt_or_ge i a.length with h | h
    · rw [List.getElem?_append_left h, List.getElem?_append_left (by omega)]
      exact h4 i h
    · rw [List.getElem?_append_right h, List.getElem?_append_right (by omega), ← h3]
      exact k4 (i - a.length) (by rw [List.length_append] at hi; omega)⟩
theorem Opens.one {s : Ce} {v u : Value} (h : CeOk s u) (hp : pureV u = true) (hr : RV (fm w) u v) : Opens w [s] [v] :=
  ⟨[u], by unfold CesOk; exact ⟨h, by unfold CesOk; trivial⟩, by simp [pures, hp], rfl, fun i hi => by
    have : i = 0 := by simpa using hi
    subst this
    exact hr⟩

end

/-! ### Typed -/
/-- Of elements that can be read out of cells of known kinds; and what is known of their numbers. -/
class Ope (α : Type) [F : Flat α] where
  ss : List Ce
  ok : α → Prop
  op : ∀ can, CesOk ss can → ∃ x : α, can = F.cells x ∧ ok x

theorem op_field {α : Type} [F : Flat α] [O : Ope α] {r : List Ce} {can : List Value} (h : CesOk (O.ss ++ r) can) : ∃ (x : α) (b : List Value), can = F.cells x ++ b ∧ O.ok x ∧ CesOk r b := by
  obtain ⟨a, b, rfl, h1, h2⟩ := h.split
  obtain ⟨x, rfl, hx⟩ := O.op a h1
  exact ⟨x, b, rfl, hx, h2⟩
theorem op_int {k : IntKind} {r : List Ce} {can : List Value} (h : CesOk (.int k :: r) can) : ∃ (x : Int) (b : List Value), can = .int k x :: b ∧ (Lit.int k x).wf = true ∧ CesOk r b := by
  obtain ⟨v, b, rfl, h1, h2⟩ := ces_cons h
  unfold CeOk at h1
  obtain ⟨n, rfl, hn⟩ := h1
  exact ⟨n, b, rfl, hn, h2⟩
instance opInt : Ope Int := ⟨[.int .i64], fun x => (Lit.int .i64 x).wf = true, fun can h => by
  obtain ⟨x, b, rfl, h1, h2⟩ := op_int h
  obtain rfl := ces_nil h2
  exact ⟨x, rfl, h1⟩⟩
instance opU8 : Ope U8 := ⟨[.int .u8], fun x => (Lit.int .u8 x.n).wf = true, fun can h => by
  obtain ⟨x, b, rfl, h1, h2⟩ := op_int h
  obtain rfl := ces_nil h2
  exact ⟨⟨x⟩, rfl, h1⟩⟩
instance opBool : Ope Bool := ⟨[.bool], fun _ => True, fun can h => by
  obtain ⟨v, b, rfl, h1, h2⟩ := ces_cons h
  obtain rfl := ces_nil h2
  unfold CeOk at h1
  obtain ⟨x, rfl⟩ := h1
  exact ⟨x, rfl, trivial⟩⟩
instance opStr : Ope ByteArray := ⟨[.str], fun s => s.size ≤ maxLen, fun can h => by
  obtain ⟨v, b, rfl, h1, h2⟩ := ces_cons h
  obtain rfl := ces_nil h2
  unfold CeOk at h1
  obtain ⟨x, rfl, hx⟩ := h1
  exact ⟨x, rfl, hx⟩⟩
theorem op_rows {α : Type} [F : Flat α] [O : Ope α] : ∀ (rs : List (List Value)), (∀ r, r ∈ rs → CesOk O.ss r) → ∃ xs : List α, rs.flatten = rows xs ∧ rs.length = xs.length ∧ ∀ x, x ∈ xs → O.ok x
  | [], _ => ⟨[], rfl, rfl, fun x h => by cases h⟩
  | r :: rs, h => by
    obtain ⟨x, h1, h2⟩ := O.op r (h r (by simp))
    obtain ⟨xs, h3, h4, h5⟩ := op_rows rs fun r hr => h r (by simp [hr])
    refine ⟨x :: xs, by rw [List.flatten_cons, h1, h3]; rfl, by simp [h4], fun y hy => ?_⟩
    rcases List.mem_cons.1 hy with rfl | hy
    · exact h2
    · exact h5 y hy
instance opList {α : Type} [F : Flat α] [O : Ope α] : Ope (List α) := ⟨[.sl O.ss], fun xs => xs.length ≤ maxLen ∧ ∀ x, x ∈ xs → O.ok x, fun can h => by
  obtain ⟨v, b, rfl, h1, h2⟩ := ces_cons h
  obtain rfl := ces_nil h2
  unfold CeOk at h1
  obtain ⟨rs, rfl, hl, hr⟩ := h1
  obtain ⟨xs, h3, h4, h5⟩ := op_rows rs hr
  exact ⟨xs, by rw [h3, h4]; rfl, by omega, h5⟩⟩

section
variable {H : Type} {enc : TypeId × Value → H} {P : Program} {w : World} {base : Nat} {spare : Nat → Bool} {held : Bool}
end

/-- A contract, of which it is known that there is an answer. -/
theorem Con.calls {P : Program} {f : FuncId} {args : List Value} {v : Value} (h : Con P f args v) (hv : plain v = true) (args' : Array Value) (w : World) (hsz : args'.size = args.length)
    (hargs : ∀ i, RV (fm w) (args.getD i undef) (args'.getD i undef)) : Calls P f args' w fun e w' => e = .returned v ∧ Below w.heap.size w w' := h.eq.callsF hv args' w hsz hargs

end

end Go.Dt
