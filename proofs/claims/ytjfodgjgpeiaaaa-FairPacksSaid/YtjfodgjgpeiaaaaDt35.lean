/- Lifting: heads of loops; rows made; more of what a walk meets. -/
import Derived.Test.YtjfodgjgpeiaaaaDt34
namespace Go.Dt
open Go.RowKit
set_option linter.unusedVariables false
set_option linter.unusedSimpArgs false

def firstReg : Code → Nat
  | .region id _ _ => id
  | .seq (.region id _ _) _ => id
  | .seq a b => match firstReg a with
    | 0 => firstReg b
    | n + 1 => n + 1
  | .block _ c => firstReg c
  | .loop c => firstReg c
  | .scope c => firstReg c
  | .cond _ a b => match firstReg a with
    | 0 => firstReg b
    | n + 1 => n + 1
  | _ => 0
/-- The loops of a text, each with what is to be done from its head on. -/
def lheads : Code → List Item → List (Nat × List Item)
  | .seq a b, k => lheads a (.code b :: k) ++ lheads b k
  | .cond _ a b, k => lheads a k ++ lheads b k
  | .block id c, k => lheads c (.inBlock id :: k)
  | .loop c, k => (firstReg c, .code c :: .inLoop c :: k) :: lheads c (.inLoop c :: k)
  | _, _ => []
def todoL : List (Nat × List Item) → Nat → List Item
  | [], _ => []
  | (i, t) :: l, j => bif Nat.beq i j then t else todoL l j
def todoAt (fn : Func) (key : Nat) : List Item := match fn.body with
  | some c => todoL (lheads c []) key
  | none => []
/-- A loop's head. -/
def headS (fn : Func) (key : Nat) (l : List (Nat × Value)) (m : List Blk) : VS := fl (putA l (List.replicate fn.ntmps undef)) fun a => .norm (todoAt fn key) a m

theorem toNat_lt {i : Int} {n : Nat} (h0 : 0 ≤ i) (h1 : i < n) : i.toNat < n := by omega
theorem in_of {i : Int} {n : Nat} (h : inR i n = true) : 0 ≤ i ∧ i < n := by simpa [inR] using h

section
variable {α : Type} [F : Flat α]
theorem rows_setF : ∀ (xs : List α) (i d off : Nat) (vs : List Value) (v : α), off = i * F.sz + d → i < xs.length → d + vs.length ≤ F.sz → splice (F.cells (getR xs i)) d vs = F.cells v → splice (rows xs) off vs = rows (xs.set i v)
  | [], _, _, _, _, _, _, h, _, _ => by cases h
  | x :: xs, 0, d, off, vs, v, ho, _, hd, h => by
    subst ho
    have hl := F.len x
    have h : splice (F.cells x) d vs = F.cells v := h
    simp only [splice, Nat.zero_mul, Nat.zero_add, rows, List.set_cons_zero] at h ⊢
    rw [← h, List.take_append, List.drop_append]
    have e1 : d - (F.cells x).length = 0 := by omega
    have e2 : d + vs.length - (F.cells x).length = 0 := by omega
    rw [e1, e2]
    simp [List.append_assoc]
  | x :: xs, i + 1, d, off, vs, v, ho, hi, hd, h => by
    subst ho
    rw [getR_cons] at h
    have ih := rows_setF xs i d _ vs v rfl (by simpa using hi) hd h
    have e : (i + 1) * F.sz + d = (F.cells x).length + (i * F.sz + d) := by rw [F.len, Nat.add_mul]; omega
    simp only [splice] at ih ⊢
    rw [List.set_cons_succ, rows, rows, e, List.take_append, List.take_of_length_le (by omega), Nat.add_sub_cancel_left, Nat.add_assoc, ← List.drop_drop, List.drop_left, ← ih]
    simp [List.append_assoc]
theorem rows_subN {xs : List α} {i d k off : Nat} {l : List Value} (ho : off = i * F.sz + d) (hi : i < xs.length) (hk : d + k ≤ F.sz) (hl : ((F.cells (getR xs i)).drop d).take k = l) : ((rows xs).drop off).take k = l := by
  subst ho; rw [rows_sub xs i d k hi hk, hl]
theorem rows_sub1 {xs : List α} {i d off : Nat} {v : Value} (ho : off = i * F.sz + d) (hi : i < xs.length) (hd : d < F.sz) (hl : (F.cells (getR xs i))[d]? = some v) : (rows xs)[off]? = some v := by
  subst ho; rw [rows_cell xs i d hi hd, hl]
theorem rows_fitN {xs : List α} {i d k off : Nat} (ho : off = i * F.sz + d) (hi : i < xs.length) (hk : d + k ≤ F.sz) : off + k ≤ (rows xs).length := by
  subst ho; exact rows_fit hi hk
theorem rows_rep (n : Nat) (z : α) (j : Nat) (h : j < n * F.sz) : (rows (List.replicate n z)).getD j undef = (F.cells z).getD (j % F.sz) undef := by
  have hp := F.pos
  have hi : j / F.sz < n := Nat.div_lt_of_lt_mul (by rw [Nat.mul_comm]; exact h)
  have e : j = j / F.sz * F.sz + j % F.sz := by rw [Nat.mul_comm]; exact (Nat.div_add_mod j F.sz).symm
  have := rows_cell (List.replicate n z) (j / F.sz) (j % F.sz) (by simpa using hi) (Nat.mod_lt _ hp)
  rw [← e] at this
  rw [List.getD_eq_getElem?_getD, this, List.getD_eq_getElem?_getD]
  congr 2
  have : getR (List.replicate n z) (j / F.sz) = z := by simp [getR, List.getD_eq_getElem?_getD, hi]
  rw [this]
end

/-- A byte of a text. -/
def byteAt (b : ByteArray) (i : Int) : Int := ((b[i.toNat]?).getD 0).toNat
def mkOk (l c : Int) (bytes : Nat) : Bool := decide (0 ≤ l) && decide (l ≤ c) && decide ((bytes : Int) * c ≤ 281474976710656) && decide (c ≤ 9223372036854775807)

section
variable {P : Program} {f : FuncId} {n0 : Nat} {ρ : Type} {E : ρ → Value} {s : VS} {T : Option ρ} {α : Type} [F : Flat α]

theorem L.push0 (hm : P.follows .mixedOrders = true) (n' : Nat) (bytes b2 o2 : Nat) (c2 : List Value) (ys : List α) (hs : apAt P (vadv P n' s) = some (.slice none 0 0, F.sz, bytes, b2, o2, ys.length, c2)) (hy : 0 < ys.length)
    (hfit2 : o2 + ys.length * F.sz ≤ c2.length) (hsrc : (c2.drop o2).take (ys.length * F.sz) = rows ys)
    (h : Lifts P f n0 E (afterAp (vadv P n' s) (ownV (vadv P n' s).mem.length ys) ((vadv P n' s).mem ++ [ownB ys]) ⟨[b2], []⟩) T) :
    Lifts P f n0 E s (bif room (([] : List α).length + ys.length) bytes then T else none) := fun r hr => by
  cases hi : room (([] : List α).length + ys.length) bytes with
  | false => rw [hi] at hr; cases hr
  | true =>
    rw [hi] at hr
    simp only [room, Bool.and_eq_true, decide_eq_true_eq, List.length_nil, Nat.zero_add] at hi
    exact RunsE.adv hm n' (RunsE.appNil F.sz bytes b2 o2 ys.length c2 (rows ys) hs hy hfit2 (by rw [hsrc]; exact rows_one ys) hi.2 hi.1 hsrc (h r hr))

def frz1 (d : Nat) : VS → VS
  | .norm todo a m => fl (a.set d (frz 0 [])) fun a' => .norm todo a' m
  | s => s
theorem L.frzNil (hm : P.follows .mixedOrders = true) (n' d : Nat) (hs : slotV d (vadv P n' s) = .slice none 0 0) (h : Lifts P f n0 E (frz1 d (vadv P n' s)) T) : Lifts P f n0 E s T := fun r hr => by
  refine RunsE.adv hm n' ?_
  obtain ⟨m', h⟩ := h r hr
  generalize vadv P n' s = s' at hs h
  cases s' with
  | reg => exact ⟨m', h⟩
  | norm todo a m =>
    refine ⟨m', ?_⟩
    simp only [frz1, fl_eq] at h
    intro ι t w hr
    refine h ι t w ⟨by simpa using hr.size, fun x => ?_, hr.sim, hr.dom⟩
    by_cases hx : d = x
    · subst hx
      by_cases hda : d < a.length
      · have hv := hr.slots d
        rw [show a.getD d undef = .slice none 0 0 from hs] at hv
        rw [show (a.set d (Dt.frz 0 [])).getD d undef = Dt.frz 0 [] by simp [List.getD_eq_getElem?_getD, hda]]
        generalize t.getD d undef = y at hv
        cases hv
        exact .frzN
      · have e : (a.set d (Dt.frz 0 [])) = a := List.set_eq_of_length_le (by omega)
        rw [e]; exact hr.slots d
    · rw [show (a.set d (Dt.frz 0 [])).getD x undef = a.getD x undef by simp [List.getD_eq_getElem?_getD, List.getElem?_set_ne hx]]
      exact hr.slots x

theorem L.strIdx (hm : P.follows .mixedOrders = true) (n' : Nat) (t : TypeId) (b : ByteArray) (k : IntKind) (i : Int) (hs : strAt (vadv P n' s) = some (t, b, k, i)) (ht : P.underlying t = some .string) (h : 0 ≤ i → i < b.size → Lifts P f n0 E (afterOne (vadv P n' s) (.int .u8 (byteAt b i))) T) :
    Lifts P f n0 E s (bif inR i b.size then T else none) := fun r hr => by
  cases hi : inR i b.size with
  | false => rw [hi] at hr; cases hr
  | true =>
    rw [hi] at hr
    obtain ⟨h0, h1⟩ := in_of hi
    have hlt : i.toNat < b.size := by omega
    have hb : b[i.toNat]? = some b[i.toNat] := by simp [hlt]
    have h := h h0 h1 r hr
    have e : byteAt b i = (b[i.toNat]).toNat := by unfold byteAt; rw [hb]; rfl
    rw [e] at h
    exact R.strIndex hm n' t b k i _ hs ht h0 hb h

/-! ### Appends of slices that are known by what they hold -/
def apfAt (P : Program) (s : VS) : Option (Value × Nat × Nat × Nat × List Value) := match opAt s with
  | some o => match o.op with
    | .call ⟨.builtin .append, xs, ts⟩ => match xs.toList, ts.toList with
      | [sv, x], [t, tx] => bif okConst sv && okConst x then (match P.underlying t, P.underlying tx, asFrz (evalC s.slots x) with
        | some (.slice e), some (.slice _), some (n, c) => (match P.info? e with
          | some i => (match i.zero with
            | some z => bif Nat.beq z.cells.size i.size then some (evalC s.slots sv, i.size, i.bytes, n, c) else none
            | none => none)
          | none => none)
        | _, _, _ => none) else none
      | _, _ => none
    | _ => none
  | none => none
theorem apfAt_inv {s : VS} {sv : Value} {size bytes n : Nat} {c : List Value} (hs : apfAt P s = some (sv, size, bytes, n, c)) :
    ∃ o so x t tx e e' i z, opAt s = some o ∧ o.op = .call { callee := .builtin .append, args := #[so, x], argTypes := #[t, tx] } ∧ okConst so = true ∧ okConst x = true ∧ evalC s.slots so = sv ∧ P.underlying t = some (.slice e) ∧ P.underlying tx = some (.slice e') ∧
      evalC s.slots x = frz n c ∧ P.info? e = some i ∧ i.zero = some z ∧ z.cells.size = i.size ∧ i.size = size ∧ i.bytes = bytes := by
  unfold apfAt at hs
  split at hs
  · rename_i o ho
    split at hs
    · rename_i xs ts hop
      split at hs
      · rename_i so x t tx hx ht
        cases hc : (okConst so && okConst x) with
        | false => simp [hc] at hs
        | true =>
          rw [hc, cond_true] at hs
          rw [Bool.and_eq_true] at hc
          split at hs
          · rename_i e e' n' c' hu hu2 hxe
            split at hs
            · rename_i i hi
              split at hs
              · rename_i z hz
                cases hb2 : Nat.beq z.cells.size i.size with
                | false => simp [hb2] at hs
                | true =>
                  rw [hb2, cond_true] at hs
                  cases hs
                  have e1 := arr_two hx
                  have e2 := arr_two ht
                  subst e1 e2
                  exact ⟨o, so, x, t, tx, e, e', i, z, ho, hop, hc.1, hc.2, rfl, hu, hu2, asFrz_ok hxe, hi, hz, Nat.eq_of_beq_eq_true hb2, rfl, rfl⟩
              · cases hs
            · cases hs
          · cases hs
      · cases hs
    · cases hs
  · cases hs

/-- A copy: append(s[:0:0], s...). -/
theorem L.clone (hm : P.follows .mixedOrders = true) (n' bytes : Nat) (xs : List α) (hs : apfAt P (vadv P n' s) = some (emp, F.sz, bytes, xs.length, rows xs))
    (h : Lifts P f n0 E (afterAp (vadv P n' s) (lst xs) ((vadv P n' s).mem ++ [.gone]) ⟨[], []⟩) T) : Lifts P f n0 E s (bif room xs.length bytes then T else none) := fun r hr => by
  cases hi : room xs.length bytes with
  | false => rw [hi] at hr; cases hr
  | true =>
    rw [hi] at hr
    simp only [room, Bool.and_eq_true, decide_eq_true_eq] at hi
    have h := h r hr
    refine RunsE.adv hm n' ?_
    obtain ⟨o, so, x, t, tx, e, e', i, z, ho, hop, hc1, hc2, hse, hu, hu2, hxe, hinf, hz, hzs, hsz, rfl⟩ := apfAt_inv hs
    unfold afterAp at h
    simp only [ho, fv_eq, fl_eq] at h
    have hsrc : SrcC P (vadv P n' s).slots (vadv P n' s).mem i.size x xs.length (rows xs) [] := .frz hxe (by rw [hsz]; exact rows_length xs) (rows_one xs)
    cases xs with
    | nil => exact RunsE.op o ho ((OpOk.appendEmp0 hop hc1 hc2 hse hu (.inl ⟨e', hu2⟩) hinf hsrc).padR rfl) h
    | cons y ys => exact RunsE.op o ho (OpOk.frzOut rfl (rows_pure _) (fun h => by cases h) (OpOk.appendEmp hop hc1 hc2 hse (by simp) hu (.inl ⟨e', hu2⟩) hinf hz hzs hi.2 hi.1 hsrc)) h

/-- Onto a row of one's own that is empty. -/
theorem L.cat0 (hm : P.follows .mixedOrders = true) (n' b bytes : Nat) (xs : List α) (hs : apfAt P (vadv P n' s) = some (.slice (some ⟨b, 0, none⟩) 0 0, F.sz, bytes, xs.length, rows xs)) (hb : (vadv P n' s).mem[b]? = some (.cells [] F.sz true))
    (h : Lifts P f n0 E (afterAp (vadv P n' s) (lst xs) ((vadv P n' s).mem.set b .gone ++ [.gone]) ⟨[b], [b]⟩) T) : Lifts P f n0 E s (bif room xs.length bytes then T else none) := fun r hr => by
  cases hi : room xs.length bytes with
  | false => rw [hi] at hr; cases hr
  | true =>
    rw [hi] at hr
    simp only [room, Bool.and_eq_true, decide_eq_true_eq] at hi
    have h := h r hr
    refine RunsE.adv hm n' ?_
    obtain ⟨o, so, x, t, tx, e, e', i, z, ho, hop, hc1, hc2, hse, hu, hu2, hxe, hinf, hz, hzs, hsz, rfl⟩ := apfAt_inv hs
    unfold afterAp at h
    simp only [ho, fv_eq, fl_eq] at h
    have hblt : b < (vadv P n' s).mem.length := (List.getElem?_eq_some_iff.1 hb).1
    have hsrc : SrcC P (vadv P n' s).slots (vadv P n' s).mem i.size x xs.length (rows xs) [] := .frz hxe (by rw [hsz]; exact rows_length xs) (rows_one xs)
    cases xs with
    | nil =>
      have h1 := OpOk.append0 hop hc1 hc2 hse (Nat.le_refl _) hu (.inl ⟨e', hu2⟩) hinf hsrc
      have h2 := h1.weakenV (u := frz 0 []) (fun ι x hx => by
        cases hx with
        | slice0 p q => exact .frzE q 0
        | slice hL hc hr => exact .frzE _ _)
      have h3 := (h2.padR rfl).forget hblt
      have e4 : ((vadv P n' s).mem ++ [Blk.gone]).set b .gone = (vadv P n' s).mem.set b .gone ++ [.gone] := by rw [List.set_append_left _ _ hblt]
      rw [e4] at h3
      exact RunsE.op o ho h3 h
    | cons y ys =>
      have h1 := OpOk.appendGrow (l := 0) (off := 0) hop hc1 hc2 hse (by rw [hsz]; exact hb) (by simp : 0 < (y :: ys).length) (by simp) hu (.inl ⟨e', hu2⟩) hinf hz hzs (by rw [Nat.zero_add]; exact hi.2) (by rw [Nat.zero_add]; exact hi.1) hsrc
      simp only [List.drop_nil, List.take_nil, List.nil_append, Nat.zero_add] at h1
      exact RunsE.op o ho (OpOk.frzOut (by simp) (rows_pure _) (fun h => by cases h) h1) h

/-- A row of zeros. -/
theorem L.make (hm : P.follows .mixedOrders = true) (n' : Nat) (l : Int) (bytes : Nat) (z : α) (hz : plains (F.cells z) = true) (hs : mkAt P (vadv P n' s) = some (l, l, F.sz, bytes, F.cells z))
    (h : Lifts P f n0 E (afterAp (vadv P n' s) (ownV (vadv P n' s).mem.length (List.replicate l.toNat z)) ((vadv P n' s).mem ++ [ownB (List.replicate l.toNat z)]) ⟨[], []⟩) T) :
    Lifts P f n0 E s (bif mkOk l l bytes then T else none) := fun r hr => by
  cases hi : mkOk l l bytes with
  | false => rw [hi] at hr; cases hr
  | true =>
    rw [hi] at hr
    simp only [mkOk, Bool.and_eq_true, decide_eq_true_eq] at hi
    obtain ⟨⟨⟨h0, hlc⟩, hby⟩, h63⟩ := hi
    have h := h r hr
    refine RunsE.adv hm n' ?_
    unfold mkAt at hs
    unfold afterAp at h
    split at hs
    · rename_i o ho
      simp only [ho, fv_eq, fl_eq] at h
      split at hs
      · rename_i t x y hop
        cases hc : (okConst x && okConst y) with
        | false => simp [hc] at hs
        | true =>
          rw [hc, cond_true] at hs
          rw [Bool.and_eq_true] at hc
          split at hs
          · rename_i e kl l' kc c' hu hx hy
            split at hs
            · rename_i i hi
              split at hs
              · rename_i zv hzv
                simp only [Option.some.injEq, Prod.mk.injEq] at hs
                obtain ⟨rfl, rfl, hsz, rfl, hzc⟩ := hs
                have hzs : zv.cells.size = i.size := by
                  have := congrArg List.length hzc
                  rw [F.len, ← hsz] at this
                  simpa using this
                have hok := OpOk.makeSlice (o := o) (a := (vadv P n' s).slots) (m := (vadv P n' s).mem) (cs := rows (List.replicate c'.toNat z)) hop hc.1 hc.2 hx hy hu hi hzv h0 hlc hby h63 (by rw [rows_length, hsz]; simp) (by rw [hzc]; exact hz) (fun j hj => by
                  rw [rows_length] at hj
                  have hj' : j < c'.toNat * F.sz := by simpa using hj
                  rw [rows_rep _ _ _ hj', Array.getD_eq_getD_getElem?, ← Array.getElem?_toList, hzc, hzs, hsz, List.getD_eq_getElem?_getD]) (by have := F.pos; omega)
                rw [hsz] at hok
                have e2 : (ownV (vadv P n' s).mem.length (List.replicate c'.toNat z)) = .slice (some ⟨(vadv P n' s).mem.length, 0, none⟩) c'.toNat c'.toNat := by simp [ownV]
                rw [e2] at h
                exact RunsE.op o ho hok h
              · cases hs
            · cases hs
          · cases hs
      · cases hs
    · cases hs
end
end Go.Dt
