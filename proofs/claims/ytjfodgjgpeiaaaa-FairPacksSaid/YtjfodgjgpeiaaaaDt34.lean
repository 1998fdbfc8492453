/- Lifting: rows of one's own: made, appended to, written, given up. -/
import Derived.Test.YtjfodgjgpeiaaaaDt33
namespace Go.Dt
open Go.RowKit
set_option linter.unusedVariables false
set_option linter.unusedSimpArgs false

/-- A row that is nil as long as nothing was appended. -/
def accV {α : Type} (b : Nat) : List α → Value
  | [] => .slice none 0 0
  | x :: xs => .slice (some ⟨b, 0, none⟩) (xs.length + 1) (xs.length + 1)
abbrev ownV {α : Type} (b : Nat) (xs : List α) : Value := .slice (some ⟨b, 0, none⟩) xs.length xs.length
theorem accV_own {α : Type} {b : Nat} {xs : List α} (h : xs ≠ []) : accV b xs = ownV b xs := by
  cases xs with
  | nil => exact absurd rfl h
  | cons x xs => rfl
theorem accV_snoc {α : Type} {b : Nat} {xs : List α} {x : α} : accV b (xs ++ [x]) = ownV b (xs ++ [x]) := accV_own (by simp)
section
variable {α : Type} [F : Flat α]
def accB : List α → Blk
  | [] => .gone
  | x :: xs => .cells (rows (x :: xs)) F.sz true
abbrev ownB (xs : List α) : Blk := .cells (rows xs) F.sz true
theorem accB_own {xs : List α} (h : xs ≠ []) : accB xs = ownB xs := by
  cases xs with
  | nil => exact absurd rfl h
  | cons x xs => rfl
theorem accB_snoc {xs : List α} {x : α} : accB (xs ++ [x]) = ownB (xs ++ [x]) := accB_own (by simp)
theorem rows_set : ∀ (xs : List α) (i : Nat) (v : α), i < xs.length → splice (rows xs) (i * F.sz) (F.cells v) = rows (xs.set i v)
  | [], _, _, h => by cases h
  | x :: xs, 0, v, _ => by
    simp only [splice, Nat.zero_mul, List.take_zero, List.nil_append, Nat.zero_add, rows, List.set_cons_zero, F.len]
    rw [List.drop_left' (F.len x)]
  | x :: xs, i + 1, v, h => by
    have ih := rows_set xs i v (by simpa using h)
    have e : (i + 1) * F.sz = (F.cells x).length + i * F.sz := by rw [F.len, Nat.add_mul]; omega
    simp only [splice] at ih ⊢
    rw [List.set_cons_succ, rows, rows, e, List.take_append, List.take_of_length_le (by omega), Nat.add_sub_cancel_left, Nat.add_assoc, ← List.drop_drop, List.drop_left, ← ih]
    simp [List.append_assoc]
end

theorem OpOk.widen {P : Program} {o : Oper} {a : List Value} {m m' : List Blk} {v : Value} {b : Nat} {rd : List Nat} (hblt : b < m.length) (hb : m.getD b .gone = .gone) (hb' : m'.getD b .gone = .gone) (h : OpOk P o a m v m' ⟨rd, []⟩) : OpOk P o a m v m' ⟨b :: rd, [b]⟩ where
  len := h.len
  sub := by simp
  rdlt := fun x hx => by
    rcases List.mem_cons.1 hx with rfl | hx
    · exact hblt
    · exact h.rdlt x hx
  same := fun x hx _ => h.same x hx (by simp)
  run := fun ι t w hs hdom hsim next Q hn => by
    have e1 : (at_ m).only (isIn (b :: rd)) = (at_ m).only (isIn rd) := by
      funext x
      simp only [Cont.only]
      by_cases hx : x = b
      · have h1 : at_ m x = .gone := by rw [hx]; exact hb
        rw [h1]
        split <;> split <;> rfl
      · have e : isIn (b :: rd) x = isIn rd x := by simp [isIn, hx]
        simp only [e]
    have e2 : (at_ m').only (tch (b :: rd) m.length m'.length) = (at_ m').only (tch rd m.length m'.length) := by
      funext x
      simp only [Cont.only]
      by_cases hx : x = b
      · have h1 : at_ m' x = .gone := by rw [hx]; exact hb'
        rw [h1]
        split <;> split <;> rfl
      · have e : tch (b :: rd) m.length m'.length x = tch rd m.length m'.length x := by simp [tch, hx]
        simp only [e]
    refine h.run ι t w hs hdom (by rw [← e1]; exact hsim) next Q fun v' w1 ι' h1 h2 h3 h4 => hn v' w1 ι' h1 ?_ ?_ h4
    · rw [e1, e2]; exact h2
    · rw [e2]; exact h3

section
variable {P : Program} {f : FuncId} {n0 : Nat} {ρ : Type} {E : ρ → Value} {s : VS} {T : Option ρ} {α : Type} [F : Flat α]

/-- An append of one or more elements. -/
theorem L.push (hm : P.follows .mixedOrders = true) (n' : Nat) (b bytes b2 o2 : Nat) (c2 : List Value) (xs ys : List α) (hs : apAt P (vadv P n' s) = some (accV b xs, F.sz, bytes, b2, o2, ys.length, c2)) (hb : (vadv P n' s).mem[b]? = some (accB xs)) (hy : 0 < ys.length)
    (hfit2 : o2 + ys.length * F.sz ≤ c2.length) (hsrc : (c2.drop o2).take (ys.length * F.sz) = rows ys)
    (h : Lifts P f n0 E (afterAp (vadv P n' s) (ownV (vadv P n' s).mem.length (xs ++ ys)) ((vadv P n' s).mem.set b .gone ++ [ownB (xs ++ ys)]) ⟨[b, b2], [b]⟩) T) :
    Lifts P f n0 E s (bif room (xs.length + ys.length) bytes then T else none) := fun r hr => by
  cases hi : room (xs.length + ys.length) bytes with
  | false => rw [hi] at hr; cases hr
  | true =>
    rw [hi] at hr
    simp only [room, Bool.and_eq_true, decide_eq_true_eq] at hi
    have h := h r hr
    have hone : ((c2.drop o2).take (ys.length * F.sz)).all one = true := by rw [hsrc]; exact rows_one ys
    cases xs with
    | nil =>
      refine RunsE.adv hm n' ?_
      obtain ⟨o, so, x, t, tx, e, e', i, z, cap, sz, rw_, ho, hop, hc1, hc2, hse, hu, hu2, hxe, hb2, hinf, hz, hzs, hsz, rfl⟩ := apAt_inv hs
      unfold afterAp at h
      simp only [ho, fv_eq, fl_eq] at h
      have hblt : b < (vadv P n' s).mem.length := (List.getElem?_eq_some_iff.1 hb).1
      have hbg : (vadv P n' s).mem.getD b .gone = .gone := by simp [List.getD_eq_getElem?_getD, hb, accB]
      have hset : (vadv P n' s).mem.set b .gone = (vadv P n' s).mem := by
        apply List.ext_getElem?
        intro j
        by_cases hj : b = j
        · subst hj; rw [List.getElem?_set_self hblt, hb]; rfl
        · rw [List.getElem?_set_ne hj]
      simp only [List.length_nil, Nat.zero_add] at hi
      have hok := OpOk.appendNil (o := o) (a := (vadv P n' s).slots) (m := (vadv P n' s).mem) hop hc1 hc2 hse hy hu (.inl ⟨e', hu2⟩) hinf hz hzs hi.2 hi.1 (.sl hxe hb2 (by rw [hsz]; exact hfit2) (by rw [hsz]; exact hone))
      rw [hsz, hsrc] at hok
      have hok2 := OpOk.widen (b := b) hblt hbg (by
        simp only [List.getD_eq_getElem?_getD]
        rw [List.getElem?_append_left hblt, hb]; rfl) hok
      refine RunsE.op o ho hok2 ?_
      rw [hset] at h
      exact h
    | cons x xs =>
      have hb' : (vadv P n' s).mem[b]? = some (.cells (rows (x :: xs)) F.sz true) := hb
      refine RunsE.adv hm n' (RunsE.appGrow b 0 (xs.length + 1) F.sz bytes b2 o2 ys.length (rows (x :: xs)) c2 (rows ((x :: xs) ++ ys)) hs hb' hy ?_ hfit2 hone ?_ ?_ ?_ ?_)
      · rw [rows_length, Nat.zero_add]; exact Nat.le_refl _
      · simpa using hi.2
      · simpa using hi.1
      · rw [hsrc, List.drop_zero, List.take_of_length_le (by rw [rows_length]; exact Nat.le_refl _), rows_append]
      · have e : (xs.length + 1 + ys.length) = ((x :: xs) ++ ys).length := by simp; omega
        rw [e]
        exact h
/-- The same onto a row that is there. -/
theorem L.app (hm : P.follows .mixedOrders = true) (n' : Nat) (b bytes b2 o2 nn : Nat) (c2 : List Value) (xs ys : List α) (hnn : nn = xs.length) (hs : apAt P (vadv P n' s) = some (.slice (some ⟨b, 0, none⟩) nn nn, F.sz, bytes, b2, o2, ys.length, c2)) (hb : (vadv P n' s).mem[b]? = some (ownB xs)) (hy : 0 < ys.length)
    (hfit2 : o2 + ys.length * F.sz ≤ c2.length) (hsrc : (c2.drop o2).take (ys.length * F.sz) = rows ys)
    (h : Lifts P f n0 E (afterAp (vadv P n' s) (ownV (vadv P n' s).mem.length (xs ++ ys)) ((vadv P n' s).mem.set b .gone ++ [ownB (xs ++ ys)]) ⟨[b, b2], [b]⟩) T) :
    Lifts P f n0 E s (bif room (xs.length + ys.length) bytes then T else none) := fun r hr => by
  subst hnn
  cases hi : room (xs.length + ys.length) bytes with
  | false => rw [hi] at hr; cases hr
  | true =>
    rw [hi] at hr
    simp only [room, Bool.and_eq_true, decide_eq_true_eq] at hi
    have h := h r hr
    have hone : ((c2.drop o2).take (ys.length * F.sz)).all one = true := by rw [hsrc]; exact rows_one ys
    refine RunsE.adv hm n' (RunsE.appGrow b 0 xs.length F.sz bytes b2 o2 ys.length (rows xs) c2 (rows (xs ++ ys)) hs hb hy ?_ hfit2 hone hi.2 hi.1 ?_ ?_)
    · rw [rows_length, Nat.zero_add]; exact Nat.le_refl _
    · rw [hsrc, List.drop_zero, List.take_of_length_le (by rw [rows_length]; exact Nat.le_refl _), rows_append]
    · have e : (xs.length + ys.length) = (xs ++ ys).length := by simp
      rw [e]
      exact h

/-! ### Rows given up -/
theorem RunsE.frzN {s : VS} {v : Value} (d b off n cap sz : Nat) (c l : List Value) (hs : slotV d s = .slice (some ⟨b, off, none⟩) n cap) (hb : s.mem[b]? = some (.cells c sz true))
    (hn : n ≤ cap) (hp : pures l = true) (hfl : off + l.length ≤ c.length) (hl : (c.drop off).take l.length = l) (h0 : n = 0 → l = []) (hns : isNormS s = true) (h : RunsE P f n0 (frzS d b (frz n l) s) v) : RunsE P f n0 s v := by
  obtain ⟨m', h⟩ := h
  cases s with
  | reg => cases hns
  | norm todo a m =>
    refine ⟨m', Runs.frzN d b off n cap sz c hs hb hn l hp hfl hl h0 ?_⟩
    simpa only [frzS, fv_eq, fl_eq] using h
theorem RunsE.frz0 {s : VS} {v : Value} (d b : Nat) (hs : slotV d s = .slice none 0 0) (hb : s.mem[b]? = some .gone) (hns : isNormS s = true) (h : RunsE P f n0 (frzS d b (frz 0 []) s) v) : RunsE P f n0 s v := by
  obtain ⟨m', h⟩ := h
  cases s with
  | reg => cases hns
  | norm todo a m =>
    refine ⟨m', ?_⟩
    simp only [frzS, fv_eq, fl_eq] at h
    have hb : m[b]? = some .gone := hb
    have hblt : b < m.length := (List.getElem?_eq_some_iff.1 hb).1
    have hset : m.set b .gone = m := by
      apply List.ext_getElem?
      intro j
      by_cases hj : b = j
      · subst hj; rw [List.getElem?_set_self hblt, hb]
      · rw [List.getElem?_set_ne hj]
    rw [hset] at h
    intro ι t w hr
    refine h ι t w ⟨by simpa using hr.size, fun x => ?_, hr.sim, hr.dom⟩
    by_cases hx : d = x
    · subst hx
      by_cases hda : d < a.length
      · have hv := hr.slots d
        rw [show a.getD d undef = .slice none 0 0 from hs] at hv
        rw [show (a.set d (Dt.frz 0 [])).getD d undef = Dt.frz 0 [] by simp [List.getD_eq_getElem?_getD, hda]]
        generalize t.getD d undef = y at hv
        cases hv
        exact .frzN
      · have e : (a.set d (Dt.frz 0 [])) = a := List.set_eq_of_length_le (by omega)
        rw [e]; exact hr.slots d
    · rw [show (a.set d (Dt.frz 0 [])).getD x undef = a.getD x undef by simp [List.getD_eq_getElem?_getD, List.getElem?_set_ne hx]]
      exact hr.slots x

theorem L.frzO (hm : P.follows .mixedOrders = true) (n' d b nn : Nat) (xs : List α) (hnn : nn = xs.length) (hs : slotV d (vadv P n' s) = .slice (some ⟨b, 0, none⟩) nn nn) (hb : (vadv P n' s).mem[b]? = some (ownB xs)) (hns : isNormS (vadv P n' s) = true) (h : Lifts P f n0 E (frzS d b (lst xs) (vadv P n' s)) T) : Lifts P f n0 E s T := fun r hr => by
  subst hnn
  exact RunsE.adv hm n' (RunsE.frzN d b 0 xs.length xs.length F.sz (rows xs) (rows xs) hs hb (Nat.le_refl _) (rows_pure xs) (by omega) (by rw [List.drop_zero, List.take_length]) (fun h => by
    have : xs = [] := List.eq_nil_of_length_eq_zero h
    subst this; rfl) hns (h r hr))
theorem L.frzA (hm : P.follows .mixedOrders = true) (n' d b : Nat) (xs : List α) (hs : slotV d (vadv P n' s) = accV b xs) (hb : (vadv P n' s).mem[b]? = some (accB xs)) (hns : isNormS (vadv P n' s) = true) (h : Lifts P f n0 E (frzS d b (lst xs) (vadv P n' s)) T) : Lifts P f n0 E s T := by
  cases xs with
  | nil => exact fun r hr => RunsE.adv hm n' (RunsE.frz0 d b hs hb hns (h r hr))
  | cons x xs => exact L.frzO hm n' d b _ (x :: xs) rfl hs hb hns h

/-! ### Rows of one's own, element by element -/
theorem L.oidx (hm : P.follows .mixedOrders = true) (n' : Nat) (b off len n : Nat) (k : IntKind) (i : Int) (hs : idxAt P (vadv P n' s) = some (b, off, len, n, k, i)) (h : 0 ≤ i → i < len → Lifts P f n0 E (afterOne (vadv P n' s) (.pointer (some ⟨b, off + i.toNat * n, none⟩))) T) :
    Lifts P f n0 E s (bif inR i len then T else none) := fun r hr => by
  cases hi : inR i len with
  | false => rw [hi] at hr; cases hr
  | true =>
    rw [hi] at hr
    simp only [inR, Bool.and_eq_true, decide_eq_true_eq] at hi
    exact R.idx hm n' b off len n k i _ hs hi.1 hi.2 rfl (h hi.1 hi.2 r hr)
theorem L.old1 (hm : P.follows .mixedOrders = true) (n' : Nat) (n b off : Nat) (c : List Value) (u : Value) (hs : ldAt P (vadv P n' s) = some (false, n, b, off, c)) (hu : c[off]? = some u) (h : Lifts P f n0 E (afterRd (vadv P n' s) b u) T) : Lifts P f n0 E s T := fun r hr =>
  R.load1 hm n' n b off c u hs hu (h r hr)
theorem L.oldN (hm : P.follows .mixedOrders = true) (n' : Nat) (n b off : Nat) (c l : List Value) (hs : ldAt P (vadv P n' s) = some (true, n, b, off, c)) (hfit : off + n ≤ c.length) (hl : (c.drop off).take n = l) (h : Lifts P f n0 E (afterRd (vadv P n' s) b (.agg ⟨l⟩)) T) : Lifts P f n0 E s T := fun r hr =>
  R.loadN hm n' n b off c l hs hfit hl (h r hr)
theorem L.ost (hm : P.follows .mixedOrders = true) (n' : Nat) (u : Value) (n b off : Nat) (c c2 : List Value) (sz : Nat) (hs : stAt P (vadv P n' s) = some (n, b, off, c, sz, u)) (hn : u.cells.size = n) (hone : u.cells.toList.all one = true) (hfit : off + n ≤ c.length) (hc2 : splice c off u.cells.toList = c2)
    (h : Lifts P f n0 E (afterWr (vadv P n' s) b (.cells c2 sz true)) T) : Lifts P f n0 E s T := fun r hr => R.store hm n' u n b off c c2 sz hs hn hone hfit hc2 (h r hr)
end
end Go.Dt
