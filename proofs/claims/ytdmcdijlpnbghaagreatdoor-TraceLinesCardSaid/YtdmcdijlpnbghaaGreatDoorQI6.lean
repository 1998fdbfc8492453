/- Several texts in one: Dt10, Dt51, DtF. -/
import Derived.Test.YtdmcdijlpnbghaaGreatDoorQI5
import Derived.RangeFuncCalls
import Derived.RangeFuncLeaves
import Derived.RangeFuncRecord
import Derived.RangeFuncIn
import Derived.OrdersIn
namespace Go.Dt

section


/-- What an operation touched; sf: the block that it may have read behind another one (with what that one leaves there); outs: what it left. -/
structure Rec where
  fp : Fp
  lo : Nat
  hi : Nat
  sf : Option (Nat × Blk)
  outs : List (Nat × Blk)
abbrev rec3 (fp : Fp) (lo hi : Nat) : Rec := ⟨fp, lo, hi, none, []⟩

/-- What of an operation counts for the order. -/
structure Row where
  rs : List Nat
  dst : Option Nat
  rec_ : Rec
  mask : Nat

def inNew (r : Rec) (b : Nat) : Bool := Nat.ble r.lo b && Nat.blt b r.hi
/-- Does x write what y touches? -/
def hits (x y : Rec) : Bool :=
  x.fp.wr.any (fun b => y.fp.rd.contains b || inNew y b) || y.fp.rd.any (inNew x) || (Nat.blt x.lo x.hi && Nat.blt y.lo y.hi && Nat.blt x.lo y.hi && Nat.blt y.lo x.hi)
def clash (x y : Row) : Bool :=
  (match x.dst with | some d => y.rs.contains d || y.dst == some d | none => false) || (match y.dst with | some d => x.rs.contains d | none => false) || hits x.rec_ y.rec_ || hits y.rec_ x.rec_

theorem hits_of {x y : Rec} {b : Nat} (h1 : b ∈ x.fp.wr ∨ (x.lo ≤ b ∧ b < x.hi)) (h2 : b ∈ y.fp.rd ∨ (y.lo ≤ b ∧ b < y.hi)) : hits x y = true := by
  have new : ∀ {r : Rec}, r.lo ≤ b → b < r.hi → inNew r b = true := fun {r} h h' => by
    simp [inNew, Nat.ble_eq_true_of_le h, Nat.blt, Nat.ble_eq_true_of_le (Nat.succ_le_of_lt h')]
  unfold hits
  rcases h1 with h1 | ⟨h1, h1'⟩
  · have : (x.fp.wr.any fun b => y.fp.rd.contains b || inNew y b) = true := by
      rw [List.any_eq_true]
      refine ⟨b, h1, ?_⟩
      rcases h2 with h2 | ⟨h2, h2'⟩
      · simp [h2]
      · simp [new h2 h2']
    rw [this, Bool.true_or, Bool.true_or]
  · rcases h2 with h2 | ⟨h2, h2'⟩
    · have : y.fp.rd.any (inNew x) = true := by
        rw [List.any_eq_true]
        exact ⟨b, h2, new h1 h1'⟩
      rw [this, Bool.or_true, Bool.true_or]
    · have b1 : Nat.blt x.lo x.hi = true := Nat.ble_eq_true_of_le (by omega)
      have b2 : Nat.blt y.lo y.hi = true := Nat.ble_eq_true_of_le (by omega)
      have b3 : Nat.blt x.lo y.hi = true := Nat.ble_eq_true_of_le (by omega)
      have b4 : Nat.blt y.lo x.hi = true := Nat.ble_eq_true_of_le (by omega)
      simp [b1, b2, b3, b4]

/-- Edges that bind. -/
def edgeMask (acc : List Nat) (n : Nat) (s : Nat) (e : Edge) : Nat :=
  if Region.binds .any e && Nat.blt e.on n then s ||| (2 ^ e.on ||| acc.getD (n - 1 - e.on) 0) else s

/-- One mask an operation, the newest first. -/
def masks : List Nat → Nat → List Oper → List Nat
  | acc, _, [] => acc
  | acc, n, o :: l => masks (o.after.toList.foldl (edgeMask acc n) 0 :: acc) (n + 1) l

def MaskOk (ops : Array Oper) (acc : List Nat) (n : Nat) : Prop := acc.length = n ∧ ∀ j i, j < n → (acc.getD (n - 1 - j) 0).testBit i = true → Bef ops j i

theorem edgeMask_ok {ops : Array Oper} {acc : List Nat} {n : Nat} {o : Oper} (h : MaskOk ops acc n) (ho : ops[n]? = some o) : ∀ (l : List Edge) (s : Nat), (∀ e, e ∈ l → e ∈ o.after) →
    (∀ i, s.testBit i = true → Bef ops n i) → ∀ i, (l.foldl (edgeMask acc n) s).testBit i = true → Bef ops n i
  | [], _, _, hs, i, hi => hs i hi
  | e :: l, s, hl, hs, i, hi => by
    refine edgeMask_ok h ho l _ (fun x hx => hl x (List.mem_cons_of_mem _ hx)) (fun k hk => ?_) i hi
    unfold edgeMask at hk
    split at hk
    · rename_i hc
      rw [Bool.and_eq_true] at hc
      have hlt : e.on < n := Nat.lt_of_succ_le (Nat.le_of_ble_eq_true hc.2)
      rw [Nat.testBit_or, Nat.testBit_or, Bool.or_eq_true, Bool.or_eq_true] at hk
      rcases hk with hk | hk | hk
      · exact hs k hk
      · have : e.on = k := by
          rw [Nat.testBit_two_pow] at hk
          simpa using hk
        rw [← this]
        exact .edge ho (hl e (by simp)) hc.1
      · exact .far ho (hl e (by simp)) hc.1 (h.2 e.on k hlt hk)
    · exact hs k hk

theorem masks_ok {ops : Array Oper} : ∀ (l : List Oper) (acc : List Nat) (n : Nat), MaskOk ops acc n → (∀ k, l[k]? = ops[n + k]?) → MaskOk ops (masks acc n l) (n + l.length)
  | [], acc, n, h, _ => by simpa [masks] using h
  | o :: l, acc, n, h, hl => by
    have ho : ops[n]? = some o := by simpa using (hl 0).symm
    have := masks_ok (ops := ops) l (o.after.toList.foldl (edgeMask acc n) 0 :: acc) (n + 1) ⟨by simp [h.1], fun j i hj hi => by
      by_cases hjn : j = n
      · subst hjn
        have e : j + 1 - 1 - j = 0 := by omega
        rw [e] at hi
        exact edgeMask_ok h ho o.after.toList 0 (fun e he => by simpa using he) (fun i hi => by simp at hi) i (by simpa using hi)
      · have e : n + 1 - 1 - j = (n - 1 - j) + 1 := by omega
        rw [e, List.getD_cons_succ] at hi
        exact h.2 j i (by omega) hi⟩ (fun k => by have := hl (k + 1); simpa [Nat.add_assoc, Nat.add_comm 1 k] using this)
    simpa [masks, Nat.add_assoc, Nat.add_comm 1] using this

/-- A row against those ahead of it, the newest first; i: how many are ahead. -/
def chk (y : Row) : Nat → List Row → Bool
  | _, [] => true
  | i, x :: xs => (!(clash x y) || y.mask.testBit (i - 1)) && chk y (i - 1) xs
def ordGo : List Row → Nat → List Row → Bool
  | _, _, [] => true
  | es, n, y :: ys => chk y n es && ordGo (y :: es) (n + 1) ys

theorem chk_ok {y : Row} : ∀ (xs : List Row) (n : Nat), xs.length = n → chk y n xs = true → ∀ k x, xs[k]? = some x → clash x y = true → y.mask.testBit (n - 1 - k) = true
  | [], _, _, _, k, x, hx, _ => by simp at hx
  | z :: zs, n, hl, h, k, x, hx, hc => by
    simp only [chk, Bool.and_eq_true] at h
    cases k with
    | zero =>
      have : z = x := by simpa using hx
      subst this
      have := h.1
      rw [hc] at this
      simpa using this
    | succ k =>
      have := chk_ok zs (n - 1) (by simp at hl; omega) h.2 k x (by simpa using hx) hc
      rwa [show n - 1 - 1 - k = n - 1 - (k + 1) by omega] at this

theorem ordGo_ok : ∀ (ys es : List Row) (n : Nat), es.length = n → ordGo es n ys = true → ∀ i j x y, i < j → (es.reverse ++ ys)[i]? = some x → (es.reverse ++ ys)[j]? = some y → n ≤ j → clash x y = true → y.mask.testBit i = true
  | [], es, n, hl, _, i, j, x, y, _, _, hy, hn, _ => by
    have := (List.getElem?_eq_some_iff.1 hy).1
    simp [hl] at this
    omega
  | z :: zs, es, n, hl, h, i, j, x, y, hij, hx, hy, hn, hc => by
    simp only [ordGo, Bool.and_eq_true] at h
    by_cases hj : j = n
    · subst hj
      have hyz : z = y := by
        rw [List.getElem?_append_right (by simp [hl])] at hy
        simpa [hl] using hy
      subst hyz
      rw [List.getElem?_append_left (by simp; omega), List.getElem?_reverse (by omega)] at hx
      have := chk_ok es j hl h.1 (es.length - 1 - i) x hx hc
      rwa [show j - 1 - (es.length - 1 - i) = i by omega] at this
    · exact ordGo_ok zs (z :: es) (n + 1) (by simp [hl]) h.2 i j x y hij (by simpa using hx) (by simpa using hy) (by omega) hc

def rowsOf (ops : Array Oper) : List Oper → List Rec → List Nat → List Row
  | o :: l, r :: rs, k :: ks => ⟨slotsOf o ++ (guardSlot ops o).toList, o.dst, r, k⟩ :: rowsOf ops l rs ks
  | _, _, _ => []

theorem rowsOf_get {ops : Array Oper} : ∀ (l : List Oper) (rs : List Rec) (ks : List Nat) (i : Nat) (o : Oper) (r : Rec) (k : Nat), l[i]? = some o → rs[i]? = some r → ks[i]? = some k →
    (rowsOf ops l rs ks)[i]? = some ⟨slotsOf o ++ (guardSlot ops o).toList, o.dst, r, k⟩
  | [], _, _, i, _, _, _, h, _, _ => by simp at h
  | _ :: _, [], _, i, _, _, _, _, h, _ => by simp at h
  | _ :: _, _ :: _, [], i, _, _, _, _, _, h => by simp at h
  | o :: l, r :: rs, k :: ks, 0, o', r', k', h1, h2, h3 => by simp at h1 h2 h3; subst h1 h2 h3; rfl
  | o :: l, r :: rs, k :: ks, i + 1, o', r', k', h1, h2, h3 => by
    simp only [rowsOf, List.getElem?_cons_succ]
    exact rowsOf_get l rs ks i o' r' k' (by simpa using h1) (by simpa using h2) (by simpa using h3)

def backOk : Nat → List Oper → Bool
  | _, [] => true
  | n, o :: l => o.after.toList.all (fun e => !Region.binds .any e || Nat.blt e.on n) && backOk (n + 1) l

theorem backOk_ok : ∀ (l : List Oper) (n j : Nat) (o : Oper) (e : Edge), backOk n l = true → l[j]? = some o → e ∈ o.after → Region.binds .any e = true → e.on < n + j
  | [], _, j, _, _, _, h, _, _ => by simp at h
  | o :: l, n, 0, o', e, h, ho, he, hb => by
    simp only [backOk, Bool.and_eq_true] at h
    have : o = o' := by simpa using ho
    subst this
    have := List.all_eq_true.1 h.1 e (by simpa using he)
    rw [hb] at this
    have h2 : Nat.blt e.on n = true := by simpa using this
    exact Nat.lt_of_succ_le (Nat.le_of_ble_eq_true h2)
  | o :: l, n, j + 1, o', e, h, ho, he, hb => by
    simp only [backOk, Bool.and_eq_true] at h
    have := backOk_ok l (n + 1) j o' e h.2 (by simpa using ho) he hb
    omega

/-- The check: 'recs': what each operation touched, the last one first. -/
def ordOk (ops : Array Oper) (recs : List Rec) : Bool :=
  backOk 0 ops.toList && ordGo [] 0 (rowsOf ops ops.toList recs.reverse (masks [] 0 ops.toList).reverse)

section
variable {P : Program} {ops : Array Oper}

/-! ### Blocks that are read before or behind another one's writing -/
def wrR (r : Rec) (b : Nat) : Bool := r.fp.wr.contains b || inNew r b
/-- All that write b, from place k on, stand behind operation i (but for j). -/
def softLater (i j b : Nat) : Nat → List Row → Bool
  | _, [] => true
  | k, y :: ys => (Nat.ble k i || Nat.beq k j || !wrR y.rec_ b || y.mask.testBit i) && softLater i j b (k + 1) ys
/-- All that write b ahead of operation i must come ahead of it. -/
def softAhead (mask i b : Nat) : Nat → List Row → Bool
  | _, [] => true
  | k, y :: ys => (Nat.ble i k || !wrR y.rec_ b || mask.testBit k) && softAhead mask i b (k + 1) ys
/-- The first one behind i that writes b and need not stand behind it. -/
def softJ (i b : Nat) : Nat → List Row → Nat
  | k, [] => k
  | k, y :: ys => if Nat.blt i k && wrR y.rec_ b && !y.mask.testBit i then k else softJ i b (k + 1) ys
def outOf (r : Rec) (b : Nat) : Option Blk := (r.outs.find? (fun p => Nat.beq p.1 b)).map (·.2)
/-- What is left to be shown of the softly read: a block is as foretold. -/
def SoftOk (rows : List Row) : Nat → List Row → Prop
  | _, [] => True
  | i, y :: ys => (match y.rec_.sf with
    | none => True
    | some (b, x) => softAhead y.mask i b 0 rows = true ∧ softLater i (softJ i b 0 rows) b 0 rows = true ∧ i < softJ i b 0 rows ∧
      (∀ r, rows[softJ i b 0 rows]? = some r → outOf r.rec_ b = some x)) ∧ SoftOk rows (i + 1) ys

theorem softLater_ok {i j b : Nat} : ∀ (ys : List Row) (k0 : Nat), softLater i j b k0 ys = true → ∀ n y, ys[n]? = some y → i < k0 + n → k0 + n ≠ j → wrR y.rec_ b = true → y.mask.testBit i = true
  | [], _, _, n, y, h, _, _, _ => by simp at h
  | z :: zs, k0, h, n, y, hy, hi, hj, hw => by
    simp only [softLater, Bool.and_eq_true] at h
    cases n with
    | zero =>
      have e : z = y := by simpa using hy
      subst e
      have h1 := h.1
      rw [Nat.add_zero] at hi hj
      have e1 : Nat.ble k0 i = false := by
        cases hb : Nat.ble k0 i with
        | false => rfl
        | true => have := Nat.le_of_ble_eq_true hb; omega
      have e2 : Nat.beq k0 j = false := by
        cases hb : Nat.beq k0 j with
        | false => rfl
        | true => exact absurd (Nat.eq_of_beq_eq_true hb) hj
      rw [e1, e2, hw] at h1
      simpa using h1
    | succ n => exact softLater_ok zs (k0 + 1) h.2 n y (by simpa using hy) (by omega) (by omega) hw
theorem softAhead_ok {mask i b : Nat} : ∀ (ys : List Row) (k0 : Nat), softAhead mask i b k0 ys = true → ∀ n y, ys[n]? = some y → k0 + n < i → wrR y.rec_ b = true → mask.testBit (k0 + n) = true
  | [], _, _, n, y, h, _, _ => by simp at h
  | z :: zs, k0, h, n, y, hy, hi, hw => by
    simp only [softAhead, Bool.and_eq_true] at h
    cases n with
    | zero =>
      have e : z = y := by simpa using hy
      subst e
      have h1 := h.1
      rw [Nat.add_zero] at hi ⊢
      have e1 : Nat.ble i k0 = false := by
        cases hb : Nat.ble i k0 with
        | false => rfl
        | true => have := Nat.le_of_ble_eq_true hb; omega
      rw [e1, hw] at h1
      simpa using h1
    | succ n =>
      have := softAhead_ok zs (k0 + 1) h.2 n y (by simpa using hy) (by omega) hw
      rwa [show k0 + 1 + n = k0 + (n + 1) by omega] at this
theorem SoftOk.get {rows : List Row} : ∀ (ys : List Row) (i0 : Nat), SoftOk rows i0 ys → ∀ n y b x, ys[n]? = some y → y.rec_.sf = some (b, x) →
    softAhead y.mask (i0 + n) b 0 rows = true ∧ softLater (i0 + n) (softJ (i0 + n) b 0 rows) b 0 rows = true ∧ i0 + n < softJ (i0 + n) b 0 rows ∧ (∀ r, rows[softJ (i0 + n) b 0 rows]? = some r → outOf r.rec_ b = some x)
  | [], _, _, n, y, _, _, h, _ => by simp at h
  | z :: zs, i0, h, 0, y, b, x, hy, hs => by
    have e : z = y := by simpa using hy
    subst e
    have h1 := h.1
    rw [hs] at h1
    exact h1
  | z :: zs, i0, h, n + 1, y, b, x, hy, hs => by
    have := SoftOk.get zs (i0 + 1) h.2 n y b x (by simpa using hy) hs
    rwa [show i0 + 1 + n = i0 + (n + 1) by omega] at this

/-- Is nothing read softly? -/
def noSoft (recs : List Rec) : Bool := recs.all fun r => match r.sf with | none => true | some _ => false
def rowsAll (ops : Array Oper) (recs : List Rec) : List Row := rowsOf ops ops.toList recs.reverse (masks [] 0 ops.toList).reverse
theorem softOk_of_none : ∀ (ops : Array Oper) (l : List Oper) (rs : List Rec) (ks : List Nat) (rows : List Row) (i : Nat), rs.all (fun r => match r.sf with | none => true | some _ => false) = true → SoftOk rows i (rowsOf ops l rs ks)
  | _, [], _, _, _, _, _ => trivial
  | _, _ :: _, [], _, _, _, _ => trivial
  | _, _ :: _, _ :: _, [], _, _, _ => trivial
  | ops, o :: l, r :: rs, k :: ks, rows, i, h => by
    simp only [List.all_cons, Bool.and_eq_true] at h
    refine ⟨?_, softOk_of_none ops l rs ks rows (i + 1) h.2⟩
    have h1 := h.1
    show (match r.sf with | none => True | some (b, x) => _)
    cases hs : r.sf with
    | none => trivial
    | some p => rw [hs] at h1; cases h1
theorem noSoft_ok {ops : Array Oper} {recs : List Rec} (h : noSoft recs = true) : SoftOk (rowsAll ops recs) 0 (rowsAll ops recs) :=
  softOk_of_none ops _ _ _ _ 0 (by
    unfold noSoft at h
    rw [List.all_reverse]; exact h)

/-- What a row of the list says of a step. -/
def RecOk (r : Rec) (F : Fp) (lo hi : Nat) (sf : Option (Nat × Blk)) (m' : List Blk) : Prop := r.fp = F ∧ r.lo = lo ∧ r.hi = hi ∧ r.sf = sf ∧ ∀ p, p ∈ r.outs → m'.getD p.1 .gone = p.2

/-- Operations 0 .. i-1 of a region have been gone through. -/
def RegOk (P : Program) (ops : Array Oper) (a0 : List Value) (m0 : List Blk) (i : Nat) (a : List Value) (m : List Blk) (recs : List Rec) : Prop :=
  ∃ (A : Nat → List Value) (M : Nat → List Blk) (F : Nat → Fp) (SF : Nat → Option (Nat × Blk)), A 0 = a0 ∧ M 0 = m0 ∧ A i = a ∧ M i = m ∧ (∀ k, k < i → StepS P ops k (A k) (M k) (A (k + 1)) (M (k + 1)) (F k) (SF k)) ∧
    recs.length = i ∧ ∀ k, k < i → ∃ r, recs.reverse[k]? = some r ∧ RecOk r (F k) (M k).length (M (k + 1)).length (SF k) (M (k + 1))

theorem RegOk.start (a0 : List Value) (m0 : List Blk) : RegOk P ops a0 m0 0 a0 m0 [] :=
  ⟨fun _ => a0, fun _ => m0, fun _ => ⟨[], []⟩, fun _ => none, rfl, rfl, rfl, rfl, fun k hk => by omega, rfl, fun k hk => by omega⟩

theorem RegOk.nextS {a0 a a' : List Value} {m0 m m' : List Blk} {i : Nat} {recs : List Rec} {fp : Fp} {sf : Option (Nat × Blk)} {r : Rec} (h : RegOk P ops a0 m0 i a m recs) (hs : StepS P ops i a m a' m' fp sf) (hr : RecOk r fp m.length m'.length sf m') :
    RegOk P ops a0 m0 (i + 1) a' m' (r :: recs) := by
  obtain ⟨A, M, F, SF, h1, h2, h3, h4, h5, h6, h7⟩ := h
  refine ⟨fun k => if k ≤ i then A k else a', fun k => if k ≤ i then M k else m', fun k => if k < i then F k else fp, fun k => if k < i then SF k else sf, by simp [h1], by simp [h2], if_neg (by omega), if_neg (by omega), fun k hk => ?_, by simp [h6], fun k hk => ?_⟩
  · by_cases hki : k < i
    · have e1 : k ≤ i := by omega
      have e2 : k + 1 ≤ i := by omega
      simp only [e1, e2, hki, if_true]
      exact h5 k hki
    · have : k = i := by omega
      subst this
      have e2 : ¬ k + 1 ≤ k := by omega
      simp only [Nat.le_refl, e2, if_true, if_false, Nat.lt_irrefl, h3, h4]
      exact hs
  · by_cases hki : k < i
    · have e1 : k ≤ i := by omega
      have e2 : k + 1 ≤ i := by omega
      simp only [e1, e2, hki, if_true, List.reverse_cons]
      rw [List.getElem?_append_left (by simp; omega)]
      exact h7 k hki
    · have : k = i := by omega
      subst this
      have e2 : ¬ k + 1 ≤ k := by omega
      simp only [Nat.le_refl, e2, if_true, if_false, Nat.lt_irrefl, h4, List.reverse_cons]
      rw [List.getElem?_append_right (by simp [h6])]
      exact ⟨r, by simp [h6], hr⟩

theorem RegOk.next {a0 a a' : List Value} {m0 m m' : List Blk} {i : Nat} {recs : List Rec} {fp : Fp} (h : RegOk P ops a0 m0 i a m recs) (hs : StepAt P ops i a m a' m' fp) :
    RegOk P ops a0 m0 (i + 1) a' m' (rec3 fp m.length m'.length :: recs) := h.nextS (.hard hs) ⟨rfl, rfl, rfl, rfl, fun p hp => by cases hp⟩

/-- What a state of the canonical machine asks of a real one. -/
structure Rel (ι : Map) (a : List Value) (m : List Blk) (t : Array Value) (w : World) : Prop where
  size : a.length ≤ t.size
  slots : ∀ x, RV ι (a.getD x undef) (t.getD x undef)
  sim : Sim ι (at_ m) w
  dom : ∀ b, ι b ≠ none → b < m.length

theorem conflict_clash {M : Nat → List Blk} {F : Nat → Fp} {i j : Nat} {o o' : Oper} (ho : ops[i]? = some o) (ho' : ops[j]? = some o') {k k' : Nat} {s s' : Option (Nat × Blk)} {us us' : List (Nat × Blk)} (h : conflict ops M F i j) :
    clash ⟨slotsOf o ++ (guardSlot ops o).toList, o.dst, ⟨F i, (M i).length, (M (i + 1)).length, s, us⟩, k⟩ ⟨slotsOf o' ++ (guardSlot ops o').toList, o'.dst, ⟨F j, (M j).length, (M (j + 1)).length, s', us'⟩, k'⟩ = true := by
  have hd : dstOf ops i = o.dst := by simp [dstOf, ho]
  have hd' : dstOf ops j = o'.dst := by simp [dstOf, ho']
  have hr : rdS ops i = slotsOf o ++ (guardSlot ops o).toList := by simp [rdS, ho]
  have hr' : rdS ops j = slotsOf o' ++ (guardSlot ops o').toList := by simp [rdS, ho']
  unfold clash
  rcases h with ⟨x, h1, h2⟩ | ⟨x, h1, h2⟩ | ⟨b, h1, h2⟩ | ⟨b, h1, h2⟩
  · rw [hd] at h1
    rw [hr', hd'] at h2
    simp only [h1]
    rcases h2 with h2 | h2
    · have : (slotsOf o' ++ (guardSlot ops o').toList).contains x = true := by simpa using h2
      simp only [this, Bool.true_or]
    · simp [h2]
  · rw [hd'] at h1
    rw [hr] at h2
    simp only [h1]
    have : (slotsOf o ++ (guardSlot ops o).toList).contains x = true := by simpa using h2
    simp only [this, Bool.true_or, Bool.or_true]
  · simp only [wrB, Bool.or_eq_true, Bool.and_eq_true, decide_eq_true_eq, List.contains_eq_mem] at h1
    rw [hits_of (x := ⟨F i, (M i).length, (M (i + 1)).length, s, us⟩) (y := ⟨F j, (M j).length, (M (j + 1)).length, s', us'⟩) h1 h2]
    simp
  · simp only [wrB, Bool.or_eq_true, Bool.and_eq_true, decide_eq_true_eq, List.contains_eq_mem] at h1
    rw [hits_of (x := ⟨F j, (M j).length, (M (j + 1)).length, s', us'⟩) (y := ⟨F i, (M i).length, (M (i + 1)).length, s, us⟩) h1 h2]
    simp

/-- A REGION, GONE THROUGH: in whatever order. -/
theorem RegOk.wp {a0 a : List Value} {m0 m : List Blk} {recs : List Rec} {id : Nat} {draw : Bool} (hm : P.follows .mixedOrders = true) (h : RegOk P ops a0 m0 ops.size a m recs) (hord : draw = true → ordOk ops recs = true ∧ SoftOk (rowsAll ops recs) 0 (rowsAll ops recs))
    {ι : Map} {t : Array Value} {w : World} (hr : Rel ι a0 m0 t w) {Q : Exit → Act → World → Prop} (hQ : ∀ t' w' ι', Rel ι' a m t' w' → Ext ι (at_ m0) w ι' (at_ m) w' → Q .normal (act t') w') :
    (Code.region id ops draw).wp P Q (act t) w := by
  obtain ⟨A, M, F, SF, rfl, rfl, rfl, rfl, h5, h6, h7⟩ := h
  have lenA : ∀ k, k ≤ ops.size → (A k).length = (A 0).length := by
    intro k
    induction k with
    | zero => intro _; rfl
    | succ k ih => intro hk; rw [(step_facts (h5 k (by omega))).2.2.2.2.1]; exact ih (by omega)
  have fin : ∀ t' w' ι', (A 0).length ≤ t'.size → (∀ x, RV ι' ((A ops.size).getD x undef) (t'.getD x undef)) → Sim ι' (at_ (M ops.size)) w' → (∀ b, ι' b ≠ none → b < (M ops.size).length) →
      Ext ι (at_ (M 0)) w ι' (at_ (M ops.size)) w' → Q .normal (act t') w' := fun t' w' ι' h1 h2 h3 h4 h5 => hQ t' w' ι' ⟨by rw [lenA _ (Nat.le_refl _)]; exact h1, h2, h3, h4⟩ h5
  cases draw with
  | false => exact wp_region (region_seq h5 hr.size hr.slots hr.sim hr.dom fin)
  | true =>
    obtain ⟨hord, hsoft⟩ := hord rfl
    simp only [ordOk, Bool.and_eq_true] at hord
    have hmask := masks_ok (ops := ops) ops.toList [] 0 ⟨rfl, fun j i hj => by omega⟩ (fun k => by simp)
    simp only [Array.length_toList, Nat.zero_add] at hmask
    have gi : ∀ k, k < ops.size → (masks [] 0 ops.toList).reverse[k]? = some ((masks [] 0 ops.toList).getD (ops.size - 1 - k) 0) := fun k hk => by
      rw [List.getElem?_reverse (by rw [hmask.1]; exact hk), hmask.1, List.getD_eq_getElem?_getD]
      have : ops.size - 1 - k < (masks [] 0 ops.toList).length := by rw [hmask.1]; omega
      simp [this]
    have row : ∀ k, k < ops.size → ∃ r, RecOk r (F k) (M k).length (M (k + 1)).length (SF k) (M (k + 1)) ∧
        (rowsAll ops recs)[k]? = some ⟨slotsOf (ops.getD k default) ++ (guardSlot ops (ops.getD k default)).toList, (ops.getD k default).dst, r, (masks [] 0 ops.toList).getD (ops.size - 1 - k) 0⟩ := fun k hk => by
      obtain ⟨r, hr1, hr2⟩ := h7 k hk
      exact ⟨r, hr2, rowsOf_get (ops := ops) ops.toList recs.reverse (masks [] 0 ops.toList).reverse k (ops.getD k default) r _ (by simp [hk]) hr1 (gi k hk)⟩
    refine region_draw hm h5 (fun j o e ho he hb => ?_) (fun i j hij hj hc => ?_) (fun i b x hi hs => ?_) hr.size hr.slots hr.sim hr.dom fin
    · have := backOk_ok ops.toList 0 j o e hord.1 (by simpa using ho) he hb
      omega
    · have hi : i < ops.size := by omega
      obtain ⟨r1, ⟨e1, e2, e3, _⟩, ri⟩ := row i hi
      obtain ⟨r2, ⟨e5, e6, e7, _⟩, rj⟩ := row j hj
      have := ordGo_ok _ [] 0 rfl hord.2 i j _ _ hij (by exact ri) (by exact rj) (by omega) (by
        have := conflict_clash (k := (masks [] 0 ops.toList).getD (ops.size - 1 - i) 0) (k' := (masks [] 0 ops.toList).getD (ops.size - 1 - j) 0) (s := r1.sf) (us := r1.outs) (s' := r2.sf) (us' := r2.outs) (o := ops.getD i default) (o' := ops.getD j default) (by simp [hi]) (by simp [hj]) hc
        rw [← e1, ← e2, ← e3, ← e5, ← e6, ← e7] at this
        exact this)
      exact hmask.2 j i hj this
    · obtain ⟨r1, ⟨e1, e2, e3, e4, _⟩, ri⟩ := row i hi
      have hS := SoftOk.get _ 0 hsoft i _ b x ri (by rw [← hs, ← e4])
      simp only [Nat.zero_add] at hS
      obtain ⟨s1, s2, s3, s4⟩ := hS
      have wr : ∀ k, k < ops.size → ∀ r, RecOk r (F k) (M k).length (M (k + 1)).length (SF k) (M (k + 1)) → wrB M F b k = true → wrR r b = true := fun k _ r ⟨f1, f2, f3, _⟩ hw => by
        simp only [wrB, Bool.or_eq_true, Bool.and_eq_true, decide_eq_true_eq] at hw
        unfold wrR
        rw [Bool.or_eq_true, f1]
        rcases hw with hw | ⟨hw1, hw2⟩
        · exact .inl hw
        · right
          unfold inNew
          rw [f2, f3, Nat.ble_eq_true_of_le hw1, Nat.blt, Nat.ble_eq_true_of_le (Nat.succ_le_of_lt hw2)]; rfl
      refine ⟨fun k hk hw => ?_, _, s3, fun k hk hks hkj hw => ?_, fun hj => ?_⟩
      · obtain ⟨rk, hrk, gk⟩ := row k (by omega)
        have := softAhead_ok _ 0 s1 k _ gk (by omega) (wr k (by omega) rk hrk hw)
        rw [Nat.zero_add] at this
        exact hmask.2 i k hi this
      · obtain ⟨rk, hrk, gk⟩ := row k hks
        have := softLater_ok _ 0 s2 k _ gk (by omega) (by omega) (wr k hks rk hrk hw)
        exact hmask.2 k i hks this
      · obtain ⟨rk, ⟨_, _, _, _, hout⟩, gk⟩ := row _ hj
        have h1 := s4 _ gk
        unfold outOf at h1
        rw [Option.map_eq_some_iff] at h1
        obtain ⟨p, hp, rfl⟩ := h1
        have h2 := hout p (List.mem_of_find?_eq_some hp)
        have h3 := List.find?_some hp
        have h4 : p.1 = b := Nat.eq_of_beq_eq_true h3
        rw [h4] at h2; exact h2

end

end

section
set_option linter.unusedVariables false
set_option linter.unusedSimpArgs false

/-- The wide fence, of a frame of a round or of none. -/
abbrev Fw (r : Option Nat) : Fence := { Fence.wide with round := r }
def actD (ds : List Deferred) (t : Array Value) : Act := ⟨t, ds⟩

/-- A word on the world that no step on blocks of one's own breaks. -/
def Keeps (J : Map → World → Prop) : Prop := ∀ ι C w ι' C' w', Sim ι C w → Ext ι C w ι' C' w' → J ι w → J ι' w'

def Drawn (J : Map → World → Prop) : Prop := ∀ ι w n, J ι w → J ι { w with drawn := n }
/-- The same, and: of the first blocks, none has come that was not there. -/
def JN (J : Map → World → Prop) (ι0 : Map) (n : Nat) : Map → World → Prop := fun ι w => J ι w ∧ ∀ b, b < n → ι0 b = none → ι b = none
theorem JN.drawn {J : Map → World → Prop} (h : Drawn J) (ι0 : Map) (n : Nat) : Drawn (JN J ι0 n) := fun ι w k hj => ⟨h ι w k hj.1, hj.2⟩

structure OpOkJ (P : Program) (J : Map → World → Prop) (o : Oper) (a : List Value) (m : List Blk) (v : Value) (m' : List Blk) (fp : Fp) : Prop where
  len : m.length ≤ m'.length
  sub : ∀ b, b ∈ fp.wr → b ∈ fp.rd
  rdlt : ∀ b, b ∈ fp.rd → b < m.length
  same : ∀ b, b < m.length → b ∉ fp.wr → m'.getD b .gone = m.getD b .gone
  run : ∀ (ι : Map) (t : Array Value) (ds : List Deferred) (w : World), (∀ x, x ∈ slotsOf o → RV ι (a.getD x undef) (t.getD x undef)) →
    (∀ b, m.length ≤ b → b < m'.length → ι b = none) → Sim ι ((at_ m).only (isIn fp.rd)) w → J ι w →
    ∀ (r : Option Nat) (next : Act → World → Prop) (Q : Exit → Act → World → Prop),
      (∀ v' w1 ι', RV ι' v v' → Ext ι ((at_ m).only (isIn fp.rd)) w ι' ((at_ m').only (tch fp.rd m.length m'.length)) w1 →
        Sim ι' ((at_ m').only (tch fp.rd m.length m'.length)) w1 → (∀ b, ι b = none → ι' b ≠ none → m.length ≤ b ∧ b < m'.length) → J ι' w1 → next ((actD ds t).put o.dst v') w1) →
      o.wpIn (Fw r) 0 P (actD ds t) w next Q

theorem rowsIn_w {P : Program} {row : String} {args : Array Value} {w : World} {R : Value → World → Prop} (r : Option Nat) (h : _root_.Go.Rows P row args w R) : RowsIn (Fw r) 0 P row args w R :=
  fun c cs _ => let ⟨v, w', h1, h2⟩ := h c cs; ⟨v, w', h1, stepsIn_wide.2 h2⟩

theorem eval_actD (t : Array Value) (ds : List Deferred) : (actD ds t).eval = (act t).eval := by
  funext x; cases x <;> rfl

/-- What is so everywhere is so in a round, whatever calls have been put off. -/
theorem wpIn_of_wp {P : Program} {o : Oper} {t : Array Value} {ds : List Deferred} {w : World} {r : Option Nat} {next : Act → World → Prop} {Q : Exit → Act → World → Prop}
    (h : o.wp P (act t) w (fun a' w' => a'.defers = [] ∧ next ⟨a'.tmps, ds⟩ w') (fun _ _ _ => False)) : o.wpIn (Fw r) 0 P (actD ds t) w next Q := by
  refine ⟨fun _ _ => trivial, ?_⟩
  unfold Oper.wp at h
  rw [eval_actD]
  have hput : ∀ v : Value, (⟨((act t).put o.dst v).tmps, ds⟩ : Act) = (actD ds t).put o.dst v := fun v => by cases o.dst <;> rfl
  by_cases hd : ∃ c, o.op = .defer c
  · exfalso
    obtain ⟨c, hc⟩ := hd
    have hx : ∃ d : Sem Deferred, execOp (act t).eval o = (do let x ← d; pure (.defer x)) := by
      unfold execOp; rw [hc]; exact ⟨_, rfl⟩
    obtain ⟨d, hx⟩ := hx
    rw [hx, Sem.run_bind] at h
    cases hr : d.run P w with
    | ok x w' =>
      rw [hr] at h
      simp only [Result.andThen_ok, Sem.run_pure, Oper.upon] at h
      have := h.1
      cases hdst : o.dst <;> simp [Act.put, hdst] at this
    | halt x w' =>
      rw [hr] at h
      cases x <;> exact h
  · rw [Oper.semAt_eq _ _ _ (fun c hc => hd ⟨c, hc⟩)]
    generalize (execOp (act t).eval o).run P w = res at h
    cases res with
    | ok x w' =>
      cases x with
      | value v =>
        show next ((actD ds t).put o.dst v) w'
        rw [← hput]; exact h.2
      | skip =>
        show next ((actD ds t).put o.dst undef) w'
        rw [← hput]; exact h.2
      | defer d =>
        exfalso
        have := h.1
        cases hdst : o.dst <;> simp [Act.put, hdst] at this
      | enter f args =>
        refine And.intro (fun h => by simp [Fence.wide] at h) ?_
        refine (callsIn_wide (n := 0 - 1)).2 (Calls.mono h fun e w'' he => ?_)
        cases e with
        | returned v =>
          show next ((actD ds t).put o.dst v) w''
          rw [← hput]; exact he.2
        | panicked chain => exact he.elim
        | outgrown => obtain ⟨_, _, hq⟩ := he; exact hq.elim
      | row row args =>
        refine And.intro (fun h => by simp [Fence.wide] at h) ?_
        exact rowsIn_w r (_root_.Go.Rows.mono h fun v w'' hv => by
          show next ((actD ds t).put o.dst v) w''
          rw [← hput]; exact hv.2)
      | _ => exact h.elim
    | halt x w' => cases x <;> exact h.elim

section
variable {P : Program} {J : Map → World → Prop}
theorem OpOk.toJ {o : Oper} {a : List Value} {m m' : List Blk} {v : Value} {fp : Fp} (hK : Keeps J) (ι0 : Map) (n : Nat) (hn0 : n ≤ m.length) (h : OpOk P o a m v m' fp) : OpOkJ P (JN J ι0 n) o a m v m' fp where
  len := h.len
  sub := h.sub
  rdlt := h.rdlt
  same := h.same
  run := fun ι t ds w hs hdom hsim hj r next Q hn => wpIn_of_wp (h.run ι t w hs hdom hsim _ _ (fun v' w1 ι' h1 h2 h3 h4 => by
    have hput : (⟨((act t).put o.dst v').tmps, ds⟩ : Act) = (actD ds t).put o.dst v' := by cases o.dst <;> rfl
    refine ⟨by cases o.dst <;> rfl, ?_⟩
    rw [hput]
    refine hn v' w1 ι' h1 h2 h3 h4 ⟨hK _ _ _ _ _ _ hsim h2 hj.1, fun b hb h0 => ?_⟩
    cases hx : ι' b with
    | none => rfl
    | some L => have := h4 b (hj.2 b hb h0) (by rw [hx]; simp); omega))

/-- One step of a region: operation i. -/
inductive StepJ (P : Program) (J : Map → World → Prop) (ops : Array Oper) (i : Nat) (a : List Value) (m : List Blk) : List Value → List Blk → Fp → Prop
  | skip {o : Oper} (ho : ops[i]? = some o) (hw : wantedC ops o a = some false) : StepJ P J ops i a m (put a o.dst (.chan none)) m ⟨[], []⟩
  | op {o : Oper} {v : Value} {m' : List Blk} {fp : Fp} (ho : ops[i]? = some o) (hw : wantedC ops o a = some true) (h : OpOkJ P J o a m v m' fp) :
      StepJ P J ops i a m (put a o.dst v) m' fp
end

section
variable {P : Program} {ops : Array Oper} {A : Nat → List Value} {M : Nat → List Blk} {F : Nat → Fp} {J : Map → World → Prop} {r : Option Nat} {ds : List Deferred}

theorem step_factsJ {i : Nat} (h : StepJ P J ops i (A i) (M i) (A (i + 1)) (M (i + 1)) (F i)) :
    (M i).length ≤ (M (i + 1)).length ∧ (∀ b, b ∈ (F i).wr → b ∈ (F i).rd) ∧ (∀ b, b ∈ (F i).rd → b < (M i).length) ∧
    (∀ b, b < (M i).length → b ∉ (F i).wr → (M (i + 1)).getD b .gone = (M i).getD b .gone) ∧ (A (i + 1)).length = (A i).length ∧
    ∀ x, dstOf ops i ≠ some x → (A (i + 1)).getD x undef = (A i).getD x undef := by
  generalize hA : A (i + 1) = A' at *
  generalize hM : M (i + 1) = M' at *
  generalize hF : F i = F' at *
  cases h with
  | skip ho hw =>
    refine ⟨Nat.le_refl _, by simp, by simp, fun _ _ _ => rfl, length_put _ _ _, fun x hx => getD_put ?_⟩
    simpa [dstOf, ho] using hx
  | op ho hw h =>
    refine ⟨h.len, h.sub, h.rdlt, h.same, length_put _ _ _, fun x hx => getD_put ?_⟩
    simpa [dstOf, ho] using hx

theorem inv_stepJ {ι0 : Map} {w0 : World} {S : Nat → Bool} {ι : Map} {t : Array Value} {w : World} {i : Nat} (hall : ∀ k, k < ops.size → StepJ P J ops k (A k) (M k) (A (k + 1)) (M (k + 1)) (F k))
    (hi : i < ops.size) (hS : S i = false) (hf : Fits ops M F S i) (hK : Drawn J) (hj : J ι w) (hinv : Inv ops A M F ι0 w0 S ι t w) (next : Act → World → Prop) (Q : Exit → Act → World → Prop)
    (hn : ∀ t' w' ι', Inv ops A M F ι0 w0 (ins S i) ι' t' w' → J ι' w' → next (actD ds t') w') : wpOpIn (Fw r) 0 P ops Q i next (actD ds t) w := by
  have lenM : ∀ k, k ≤ ops.size → ∀ j, j ≤ k → (M j).length ≤ (M k).length := by
    intro k
    induction k with
    | zero => intro _ j hj; rw [Nat.le_zero.1 hj]; exact Nat.le_refl _
    | succ k ih =>
      intro hk j hj
      rcases Nat.eq_or_lt_of_le hj with e | hlt
      · rw [e]; exact Nat.le_refl _
      · exact Nat.le_trans (ih (by omega) j (by omega)) (step_factsJ (hall k (by omega))).1
  have lenA : ∀ k, k ≤ ops.size → (A k).length = (A 0).length := by
    intro k
    induction k with
    | zero => intro _; rfl
    | succ k ih => intro hk; rw [(step_factsJ (hall k (by omega))).2.2.2.2.1]; exact ih (by omega)
  have stS : ∀ x k, k < ops.size → wrS ops x k = false → (A (k + 1)).getD x undef = (A k).getD x undef := fun x k hk hw =>
    (step_factsJ (hall k hk)).2.2.2.2.2 x (by simpa [wrS] using hw)
  have stB : ∀ b k, k < ops.size → wrB M F b k = false → (M (k + 1)).getD b .gone = (M k).getD b .gone := fun b k hk hw => by
    simp only [wrB, Bool.or_eq_false_iff, Bool.and_eq_false_iff, decide_eq_false_iff_not] at hw
    obtain ⟨hw1, hw2⟩ := hw
    by_cases hb : b < (M k).length
    · exact (step_factsJ (hall k hk)).2.2.2.1 b hb (by simpa using hw1)
    · have h2 : ¬ b < (M (k + 1)).length := by omega
      simp [List.getD_eq_getElem?_getD, List.getElem?_eq_none (Nat.le_of_not_lt hb), List.getElem?_eq_none (Nat.le_of_not_lt h2)]
  have slotNow : ∀ x, (x ∈ rdS ops i ∨ dstOf ops i = some x) → slotAt ops A S x = (A i).getD x undef := fun x hx => by
    unfold slotAt
    rw [cur_read (Nat.le_of_lt hi) (hf.slot x hx).1 (fun k h1 h2 hw => by
      rcases Nat.eq_or_lt_of_le h1 with e | h1
      · rw [← e]; exact hS
      · exact (hf.slot x hx).2 k h1 h2 hw)]
    exact cur_state (X := fun k => (A k).getD x undef) i (fun k hk hw => stS x k (by omega) hw)
  have blockNow : ∀ b, (b ∈ (F i).rd ∨ ((M i).length ≤ b ∧ b < (M (i + 1)).length)) → contAt ops M F S b = (M i).getD b .gone := fun b hb => by
    unfold contAt
    rw [cur_read (Nat.le_of_lt hi) (hf.block b hb).1 (fun k h1 h2 hw => by
      rcases Nat.eq_or_lt_of_le h1 with e | h1
      · rw [← e]; exact hS
      · exact (hf.block b hb).2 k h1 h2 hw)]
    exact cur_state (X := fun k => (M k).getD b .gone) i (fun k hk hw => stB b k (by omega) hw)
  have slotThen : ∀ x, slotAt ops A (ins S i) x = if wrS ops x i then (A (i + 1)).getD x undef else slotAt ops A S x := fun x => by
    unfold slotAt
    cases hw : wrS ops x i with
    | true => simp only [if_true]; rw [cur_ins_self hi hw ((hf.slot x (.inr (by simpa [wrS] using hw))).2)]
    | false => simp only [Bool.false_eq_true, if_false]; rw [cur_ins_other hw]
  have facts := step_factsJ (hall i hi)
  have blockThen : ∀ b, contAt ops M F (ins S i) b = if wrB M F b i then (M (i + 1)).getD b .gone else contAt ops M F S b := fun b => by
    unfold contAt
    cases hw : wrB M F b i with
    | true =>
      simp only [if_true]
      rw [cur_ins_self hi hw ((hf.block b ?_).2)]
      simp only [wrB, Bool.or_eq_true, Bool.and_eq_true, decide_eq_true_eq, List.contains_eq_mem] at hw
      exact hw.imp (facts.2.1 b) id
    | false => simp only [Bool.false_eq_true, if_false]; rw [cur_ins_other hw]
  have lenAt : ∀ k, k ≤ ops.size → (A k).length ≤ t.size := fun k hk => by rw [lenA k hk]; exact hinv.size
  have domLt : ∀ b, ι b ≠ none → b < (M i).length ∨ (M (i + 1)).length ≤ b := fun b hb => by
    rcases hinv.dom b hb with h | ⟨k, hk, hSk, h1, h2⟩
    · exact .inl (Nat.lt_of_lt_of_le h (lenM i (by omega) 0 (by omega)))
    · have hne : k ≠ i := fun e => by rw [e, hS] at hSk; cases hSk
      rcases Nat.lt_or_gt_of_ne hne with h | h
      · exact .inl (Nat.lt_of_lt_of_le h2 (lenM i (by omega) (k + 1) (by omega)))
      · exact .inr (Nat.le_trans (lenM k (by omega) (i + 1) (by omega)) h1)
  -- what is left to show of the invariant behind the step
  have close : ∀ (t' : Array Value) (w' : World) (ι' : Map), t'.size = t.size → (∀ x, RV ι' (slotAt ops A (ins S i) x) (t'.getD x undef)) → Sim ι' (contAt ops M F (ins S i)) w' →
      (∀ b, ι b = none → ι' b ≠ none → (M i).length ≤ b ∧ b < (M (i + 1)).length) → Ext ι (contAt ops M F S) w ι' (contAt ops M F (ins S i)) w' → J ι' w' → next (actD ds t') w' := fun t' w' ι' h1 h2 h3 h4 h5 h6 => by
    refine hn t' w' ι' ⟨by rw [h1]; exact hinv.size, h2, h3, fun b hb => ?_, hinv.ext.trans h5⟩ h6
    cases hb0 : ι b with
    | none => exact .inr ⟨i, hi, by simp [ins], h4 b hb0 hb⟩
    | some L => exact (hinv.dom b (by simp [hb0])).imp id (fun ⟨k, hk, hSk, h⟩ => ⟨k, hk, by simp [ins, hSk], h⟩)
  have hstep := hall i hi
  unfold wpOpIn
  cases hstep' : ops[i]? with
  | none => exact absurd hstep' (by simp [hi])
  | some o =>
    simp only []
    have hd : dstOf ops i = o.dst := by simp [dstOf, hstep']
    have hwi : ∀ x, wrS ops x i = (o.dst == some x) := fun x => by simp [wrS, hd]
    have hrd : rdS ops i = slotsOf o ++ (guardSlot ops o).toList := by simp [rdS, hstep']
    have rvNow : ∀ x, x ∈ rdS ops i → RV ι ((A i).getD x undef) (t.getD x undef) := fun x hx => by rw [← slotNow x (.inl hx)]; exact hinv.slots x
    have guardOk : ∀ x, guardSlot ops o = some x → RV ι ((A i).getD x undef) (t.getD x undef) := fun x hx => rvNow x (by rw [hrd]; simp [hx])
    have newSlots : ∀ (v v' : Value) (ι' : Map), A (i + 1) = put (A i) o.dst v → Le ι ι' → RV ι' v v' → ∀ x, RV ι' (slotAt ops A (ins S i) x) (((actD ds t).put o.dst v').tmps.getD x undef) := fun v v' ι' hA hle hv x => by
      rw [slotThen x, hwi]
      by_cases hx : o.dst = some x
      · simp only [hx, beq_self_eq_true, if_true]
        rw [hA, hx]
        exact rv_put (lenAt i (by omega)) hv x ((by rw [← slotNow x (.inr (by rw [hd, hx]))]; exact (hinv.slots x).mono hle))
      · have : (o.dst == some x) = false := by simpa using hx
        simp only [this, Bool.false_eq_true, if_false]
        have h2 : ((actD ds t).put o.dst v').tmps.getD x undef = t.getD x undef := by
          cases hdd : o.dst with
          | none => rfl
          | some d =>
            have : d ≠ x := fun e => hx (by rw [hdd, e])
            simp [Act.put, actD, Array.getElem?_setIfInBounds_ne this]
        rw [h2]
        exact (hinv.slots x).mono hle
    have putSize : ∀ v', ((actD ds t).put o.dst v').tmps.size = t.size := fun v' => by cases o.dst <;> simp [Act.put, actD]
    have putAct : ∀ v', (actD ds t).put o.dst v' = actD ds ((actD ds t).put o.dst v').tmps := fun v' => by cases o.dst <;> rfl
    generalize hA' : A (i + 1) = A' at *
    generalize hM' : M (i + 1) = M' at *
    generalize hF' : F i = F' at *
    cases hstep with
    | skip ho hw =>
      rw [hstep'] at ho; cases ho
      have hwant : Region.wanted o (yielded ops (actD ds t).tmps) = false := wanted_of hw guardOk
      rw [if_neg (by rw [hwant]; exact Bool.false_ne_true)]
      refine ⟨fun _ _ => trivial, ?_⟩
      rw [putAct]
      have hcont : contAt ops M F (ins S i) = contAt ops M F S := by
        funext b
        rw [blockThen b]
        have : wrB M F b i = false := by
          simp only [wrB, hF', hM', List.contains_nil, Bool.false_or, Bool.and_eq_false_iff, decide_eq_false_iff_not]
          omega
        simp [this]
      refine close _ w ι (putSize _) (newSlots (.chan none) undef ι rfl (Le.refl _) .skip) (by rw [hcont]; exact hinv.sim) (fun b h1 h2 => absurd h1 h2) (by rw [hcont]; exact Ext.refl _ _ _) hj
    | op ho hw hop =>
      rename_i o2 v
      rw [hstep'] at ho; cases ho
      have hwant : Region.wanted o (yielded ops (actD ds t).tmps) = true := wanted_of hw guardOk
      rw [if_pos hwant]
      have hCin : (contAt ops M F S).only (isIn F'.rd) = (at_ (M i)).only (isIn F'.rd) := by
        funext b
        unfold Cont.only isIn
        split
        · rename_i hb
          exact blockNow b (.inl (by simpa using hb))
        · rfl
      refine hop.run ι t ds w (fun x hx => rvNow x (by rw [hrd]; exact List.mem_append_left _ hx)) (fun b h1 h2 => ?_) (by rw [← hCin]; exact hinv.sim.only _) hj r next Q ?_
      · cases hb : ι b with
        | none => rfl
        | some L => have := domLt b (by simp [hb]); omega
      · intro v' w1 ι' hv hext hsim hdom hj1
        have hfr := Sim.frame (C := contAt ops M F S) (C' := at_ M') (D := contAt ops M F (ins S i)) (R := isIn F'.rd) (T := tch F'.rd (M i).length M'.length) hinv.sim
          (fun b hb => by simp only [isIn] at hb; unfold tch; rw [hb]; rfl) (by rw [hCin]; exact hext) hsim (fun b => by
            rw [blockThen b]
            cases hT : tch F'.rd (M i).length M'.length b with
            | true =>
              simp only [if_true]
              cases hwb : wrB M F b i with
              | true => simp [at_]
              | false =>
                simp only [Bool.false_eq_true, if_false]
                have hbr : b ∈ F'.rd := by
                  simp only [tch, Bool.or_eq_true, Bool.and_eq_true, decide_eq_true_eq, List.contains_eq_mem] at hT
                  simp only [wrB, hF', hM', Bool.or_eq_false_iff, Bool.and_eq_false_iff, decide_eq_false_iff_not] at hwb
                  rcases hT with h | h
                  · exact h
                  · have := hwb.2; omega
                rw [blockNow b (.inl hbr)]
                have := stB b i hi hwb
                rw [hM'] at this
                exact this.symm
            | false =>
              simp only [Bool.false_eq_true, if_false]
              have : wrB M F b i = false := by
                cases hwb : wrB M F b i with
                | false => rfl
                | true =>
                  simp only [wrB, hF', hM', Bool.or_eq_true, Bool.and_eq_true, decide_eq_true_eq, List.contains_eq_mem] at hwb
                  simp only [tch, Bool.or_eq_false_iff, Bool.and_eq_false_iff, decide_eq_false_iff_not, List.contains_eq_mem] at hT
                  rcases hwb with h | h
                  · exact absurd (hop.sub b h) hT.1
                  · omega
              simp [this])
        rw [putAct]
        exact close _ w1 ι' (putSize _) (newSlots v v' ι' rfl hext.le hv) hfr.1 (fun b h1 h2 => by have := hdom b h1 h2; omega) hfr.2 hj1

/-- The end: all of it has been. -/
theorem inv_endJ {ι0 ι : Map} {w0 w : World} {t : Array Value} {S : Nat → Bool} (hall : ∀ k, k < ops.size → StepJ P J ops k (A k) (M k) (A (k + 1)) (M (k + 1)) (F k))
    (hS : ∀ k, k < ops.size → S k = true) (h : Inv ops A M F ι0 w0 S ι t w) :
    (A 0).length ≤ t.size ∧ (∀ x, RV ι ((A ops.size).getD x undef) (t.getD x undef)) ∧ Sim ι (at_ (M ops.size)) w ∧ (∀ b, ι b ≠ none → b < (M ops.size).length) ∧ Ext ι0 (at_ (M 0)) w0 ι (at_ (M ops.size)) w := by
  have lenM : ∀ k, k ≤ ops.size → ∀ j, j ≤ k → (M j).length ≤ (M k).length := by
    intro k
    induction k with
    | zero => intro _ j hj; rw [Nat.le_zero.1 hj]; exact Nat.le_refl _
    | succ k ih =>
      intro hk j hj
      rcases Nat.eq_or_lt_of_le hj with e | hlt
      · rw [e]; exact Nat.le_refl _
      · exact Nat.le_trans (ih (by omega) j (by omega)) (step_factsJ (hall k (by omega))).1
  have hc : contAt ops M F S = at_ (M ops.size) := by
    funext b
    unfold contAt
    rw [cur_congr_wr (S' := fun _ => true) _ hS]
    exact cur_state (X := fun k => (M k).getD b .gone) ops.size (fun k hk hw => by
      simp only [wrB, Bool.or_eq_false_iff, Bool.and_eq_false_iff, decide_eq_false_iff_not] at hw
      obtain ⟨hw1, hw2⟩ := hw
      by_cases hb : b < (M k).length
      · exact (step_factsJ (hall k hk)).2.2.2.1 b hb (by simpa using hw1)
      · have h2 : ¬ b < (M (k + 1)).length := by omega
        simp [List.getD_eq_getElem?_getD, List.getElem?_eq_none (Nat.le_of_not_lt hb), List.getElem?_eq_none (Nat.le_of_not_lt h2)])
  have hs : ∀ x, slotAt ops A S x = (A ops.size).getD x undef := fun x => by
    unfold slotAt
    rw [cur_congr_wr (S' := fun _ => true) _ hS]
    exact cur_state (X := fun k => (A k).getD x undef) ops.size (fun k hk hw => (step_factsJ (hall k hk)).2.2.2.2.2 x (by simpa [wrS] using hw))
  refine ⟨h.size, fun x => by rw [← hs x]; exact h.slots x, by rw [← hc]; exact h.sim, fun b hb => ?_, by rw [← hc]; exact h.ext⟩
  rcases h.dom b hb with h | ⟨k, hk, _, _, h2⟩
  · exact Nat.lt_of_lt_of_le h (lenM _ (Nat.le_refl _) 0 (Nat.zero_le _))
  · exact Nat.lt_of_lt_of_le h2 (lenM _ (Nat.le_refl _) (k + 1) hk)

/-- A region that is carried out in the order of its text. -/
theorem region_seqJ {ι : Map} {t : Array Value} {w : World} {Q : Exit → Act → World → Prop} (hK : Drawn J) (hall : ∀ k, k < ops.size → StepJ P J ops k (A k) (M k) (A (k + 1)) (M (k + 1)) (F k))
    (hl : (A 0).length ≤ t.size) (hs : ∀ x, RV ι ((A 0).getD x undef) (t.getD x undef)) (hm : Sim ι (at_ (M 0)) w) (hd : ∀ b, ι b ≠ none → b < (M 0).length) (hj : J ι w)
    (hQ : ∀ t' w' ι', (A 0).length ≤ t'.size → (∀ x, RV ι' ((A ops.size).getD x undef) (t'.getD x undef)) → Sim ι' (at_ (M ops.size)) w' → (∀ b, ι' b ≠ none → b < (M ops.size).length) →
      Ext ι (at_ (M 0)) w ι' (at_ (M ops.size)) w' → J ι' w' → Q .normal (actD ds t') w') : wpOpsIn (Fw r) 0 P ops Q (List.range ops.size) (actD ds t) w := by
  have key : ∀ d i, d + i = ops.size → ∀ ι' t' w', Inv ops A M F ι w (fun k => decide (k < i)) ι' t' w' → J ι' w' → wpOpsIn (Fw r) 0 P ops Q (List.range' i d) (actD ds t') w' := by
    intro d
    induction d with
    | zero =>
      intro i hi ι' t' w' hinv hj'
      obtain ⟨h1, h2, h3, h4, h5⟩ := inv_endJ hall (fun k hk => by simp; omega) hinv
      exact hQ t' w' ι' h1 h2 h3 h4 h5 hj'
    | succ d ih =>
      intro i hi ι' t' w' hinv hj'
      rw [List.range'_succ, wpOpsIn_cons]
      refine inv_stepJ hall (by omega) (by simp) ⟨fun x _ => ⟨fun k hk _ => by simpa using hk, fun k hk _ _ => by simp; omega⟩, fun x _ => ⟨fun k hk _ => by simpa using hk, fun k hk _ _ => by simp; omega⟩⟩ hK hj' hinv _ _ (fun t2 w2 ι2 h2 hj2 => ?_)
      refine ih (i + 1) (by omega) ι2 t2 w2 ?_ hj2
      have : (ins (fun k => decide (k < i)) i) = fun k => decide (k < i + 1) := by
        funext k
        by_cases hk : k < i
        · have : k < i + 1 := by omega
          simp [ins, hk, this]
        · by_cases hk2 : k = i
          · simp [ins, hk2]
          · have : ¬ k < i + 1 := by omega
            simp [ins, hk, hk2, this]
      rwa [this] at h2
  have h0 := inv_start (ops := ops) (A := A) (M := M) (F := F) (n := w.drawn) hl hs hm hd
  have := key ops.size 0 (by omega) ι t w (by
    have e : (fun k => decide (k < 0)) = fun _ : Nat => false := by funext k; simp
    rw [e]; exact h0) hj
  rw [List.range_eq_range']
  exact this

theorem region_drawJ {id : Nat} {ι : Map} {t : Array Value} {w : World} {Q : Exit → Act → World → Prop} (hm : P.follows .mixedOrders = true) (hK : Drawn J) (hall : ∀ k, k < ops.size → StepJ P J ops k (A k) (M k) (A (k + 1)) (M (k + 1)) (F k))
    (hback : ∀ (j : Nat) (o : Oper) (e : Edge), ops[j]? = some o → e ∈ o.after → Region.binds .any e = true → e.on < j)
    (hord : ∀ i j, i < j → j < ops.size → conflict ops M F i j → Bef ops j i)
    (hl : (A 0).length ≤ t.size) (hs : ∀ x, RV ι ((A 0).getD x undef) (t.getD x undef)) (hsim : Sim ι (at_ (M 0)) w) (hd : ∀ b, ι b ≠ none → b < (M 0).length) (hj : J ι w)
    (hQ : ∀ t' w' ι', (A 0).length ≤ t'.size → (∀ x, RV ι' ((A ops.size).getD x undef) (t'.getD x undef)) → Sim ι' (at_ (M ops.size)) w' → (∀ b, ι' b ≠ none → b < (M ops.size).length) →
      Ext ι (at_ (M 0)) w ι' (at_ (M ops.size)) w' → J ι' w' → Q .normal (actD ds t') w') : (Code.region id ops true).wpIn (Fw r) 0 P Q (actD ds t) w := by
  refine wpIn_region_any hm ?_
  -- the listed operations; what is ahead of a listed one is listed
  have key : ∀ fuel (listed : Array Bool), listed.size = ops.size → (∀ j o e, ops[j]? = some o → listed.getD j false = true → e ∈ o.after → Region.binds .any e = true → listed.getD e.on false = true) →
      (List.range ops.size).countP (fun i => !listed.getD i false) ≤ fuel → ∀ ι' t' w', Inv ops A M F ι w (fun k => listed.getD k false) ι' t' w' → J ι' w' → wpAnyIn (Fw r) 0 P .any ops Q fuel listed (actD ds t') w' := by
    have none_left : ∀ (listed : Array Bool), listed.size = ops.size → (∀ j o e, ops[j]? = some o → listed.getD j false = true → e ∈ o.after → Region.binds .any e = true → listed.getD e.on false = true) →
        Region.ready .any ops listed = [] → ∀ k, k < ops.size → listed.getD k false = true := by
      intro listed hsz _ hr k
      induction k using Nat.strongRecOn with
      | _ k ih =>
        intro hk
        cases hlk : listed.getD k false with
        | true => rfl
        | false =>
          have : k ∈ Region.ready .any ops listed := by
            rw [mem_ready]
            refine ⟨?_, ops[k], by simp [hk], fun e he hb => ?_⟩
            · have : k < listed.size := by omega
              simp [this] at hlk ⊢
              exact hlk
            · have hlt := hback k ops[k] e (by simp [hk]) he hb
              exact ih e.on hlt (by omega)
          rw [hr] at this
          cases this
    intro fuel
    induction fuel with
    | zero =>
      intro listed hsz hdc hcnt ι' t' w' hinv hj'
      have hall2 : ∀ k, k < ops.size → listed.getD k false = true := fun k hk => by
        have h0 := Nat.le_zero.1 hcnt
        rw [List.countP_eq_zero] at h0
        have := h0 k (by simpa using hk)
        simpa using this
      refine ⟨?_, ?_⟩
      · cases hr : Region.ready .any ops listed with
        | nil => rfl
        | cons x xs =>
          have hx : x ∈ Region.ready .any ops listed := by rw [hr]; simp
          obtain ⟨h1, o, ho, _⟩ := mem_ready.1 hx
          have hlt : x < ops.size := (Array.getElem?_eq_some_iff.1 ho).1
          have h2 := hall2 x hlt
          have : x < listed.size := by omega
          simp [this] at h1 h2
          rw [h1] at h2; cases h2
      · obtain ⟨h1, h2, h3, h4, h5⟩ := inv_endJ hall hall2 hinv
        exact hQ t' w' ι' h1 h2 h3 h4 h5 hj'
    | succ fuel ih =>
      intro listed hsz hdc hcnt ι' t' w' hinv hj'
      refine ⟨fun hr => ?_, fun i hi => ?_⟩
      · obtain ⟨h1, h2, h3, h4, h5⟩ := inv_endJ hall (none_left listed hsz hdc hr) hinv
        exact hQ t' w' ι' h1 h2 h3 h4 h5 hj'
      · obtain ⟨h1, o, ho, hedges⟩ := mem_ready.1 hi
        have hlt : i < ops.size := (Array.getElem?_eq_some_iff.1 ho).1
        have hlt' : i < listed.size := by omega
        have hun : listed.getD i false = false := by
          simp [hlt'] at h1 ⊢
          exact h1
        -- what is ahead of a listed operation is listed, however far
        have far : ∀ j k, Bef ops j k → listed.getD j false = true → listed.getD k false = true := by
          intro j k hb
          induction hb with
          | edge ho he hb => exact fun hj => hdc _ _ _ ho hj he hb
          | far ho he hb _ ih => exact fun hj => ih (hdc _ _ _ ho hj he hb)
        have mine : ∀ k, Bef ops i k → listed.getD k false = true := by
          intro k hb
          cases hb with
          | edge ho' he hb => rw [ho] at ho'; cases ho'; exact hedges _ he hb
          | far ho' he hb h => rw [ho] at ho'; cases ho'; exact far _ _ h (hedges _ he hb)
        have hfit : Fits ops M F (fun k => listed.getD k false) i := by
          refine ⟨fun x hx => ⟨fun k hk hw => mine k ?_, fun k hk hks hw => ?_⟩, fun b hb => ⟨fun k hk hw => mine k ?_, fun k hk hks hw => ?_⟩⟩
          · exact hord k i hk hlt (.inl ⟨x, by simpa [wrS] using hw, hx⟩)
          · cases hlk : listed.getD k false with
            | false => rfl
            | true =>
              have : Bef ops k i := by
                refine hord i k hk hks ?_
                rcases hx with hx | hx
                · exact .inr (.inl ⟨x, by simpa [wrS] using hw, hx⟩)
                · exact .inl ⟨x, hx, .inr (by simpa [wrS] using hw)⟩
              have := far k i this hlk
              rw [hun] at this; cases this
          · exact hord k i hk hlt (.inr (.inr (.inl ⟨b, hw, hb⟩)))
          · cases hlk : listed.getD k false with
            | false => rfl
            | true =>
              have : Bef ops k i := hord i k hk hks (.inr (.inr (.inr ⟨b, hw, hb⟩)))
              have := far k i this hlk
              rw [hun] at this; cases this
        refine inv_stepJ hall hlt hun hfit hK hj' hinv _ _ (fun t2 w2 ι2 h2 hj2 => ?_)
        have hset : ∀ k, (listed.setIfInBounds i true).getD k false = (listed.getD k false || k == i) := fun k => by
          by_cases hki : i = k
          · subst hki; simp [hlt']
          · have : (k == i) = false := by simpa using fun e => hki e.symm
            rw [this, Bool.or_false]
            simp [Array.getElem?_setIfInBounds_ne hki]
        refine ih (listed.setIfInBounds i true) (by simpa using hsz) (fun j o' e ho' hj he hb => ?_) ?_ ι2 t2 w2 ?_ hj2
        · rw [hset] at hj ⊢
          rw [Bool.or_eq_true] at hj ⊢
          rcases hj with hj | hj
          · exact .inl (hdc j o' e ho' hj he hb)
          · have : j = i := by simpa using hj
            subst this
            rw [ho] at ho'; cases ho'
            exact .inl (hedges e he hb)
        · have hlt2 : (List.range ops.size).countP (fun k => !(listed.setIfInBounds i true).getD k false) < (List.range ops.size).countP (fun k => !listed.getD k false) := by
            refine countP_lt (x := i) (by simpa using hlt) (by rw [hset]; simp) (by rw [hun]; rfl) (fun k _ hk => ?_)
            rw [hset] at hk
            simp only [Bool.not_eq_true', Bool.or_eq_false_iff] at hk
            rw [hk.1]; rfl
          omega
        · have : (ins (fun k => listed.getD k false) i) = fun k => (listed.setIfInBounds i true).getD k false := by
            funext k
            rw [hset]; rfl
          rwa [this] at h2
  refine key ops.size (Array.replicate ops.size false) (by simp) (fun j o e ho hj _ _ => ?_) ?_ ι t _ ?_ (hK _ _ _ hj)
  · simp [Array.getElem?_replicate] at hj
    split at hj <;> simp at hj
  · exact Nat.le_trans List.countP_le_length (by simp)
  · have e : (fun k => (Array.replicate ops.size false).getD k false) = fun _ : Nat => false := by
      funext k
      simp [Array.getElem?_replicate]
      split <;> simp
    rw [e]
    exact inv_start hl hs hsim hd

end

section
variable {P : Program} {ops : Array Oper} {J : Map → World → Prop} {r : Option Nat} {ds : List Deferred}

/-- Operations 0 .. i-1 of a region have been gone through. -/
def RegOkJ (P : Program) (J : Map → World → Prop) (ops : Array Oper) (a0 : List Value) (m0 : List Blk) (i : Nat) (a : List Value) (m : List Blk) (recs : List Rec) : Prop :=
  ∃ (A : Nat → List Value) (M : Nat → List Blk) (F : Nat → Fp), A 0 = a0 ∧ M 0 = m0 ∧ A i = a ∧ M i = m ∧ (∀ k, k < i → StepJ P J ops k (A k) (M k) (A (k + 1)) (M (k + 1)) (F k)) ∧
    recs.length = i ∧ ∀ k, k < i → recs.reverse[k]? = some (rec3 (F k) (M k).length (M (k + 1)).length)

theorem RegOkJ.start (a0 : List Value) (m0 : List Blk) : RegOkJ P J ops a0 m0 0 a0 m0 [] :=
  ⟨fun _ => a0, fun _ => m0, fun _ => ⟨[], []⟩, rfl, rfl, rfl, rfl, fun k hk => by omega, rfl, fun k hk => by omega⟩

theorem RegOkJ.next {a0 a a' : List Value} {m0 m m' : List Blk} {i : Nat} {recs : List Rec} {fp : Fp} (h : RegOkJ P J ops a0 m0 i a m recs) (hs : StepJ P J ops i a m a' m' fp) :
    RegOkJ P J ops a0 m0 (i + 1) a' m' (rec3 fp m.length m'.length :: recs) := by
  obtain ⟨A, M, F, h1, h2, h3, h4, h5, h6, h7⟩ := h
  refine ⟨fun k => if k ≤ i then A k else a', fun k => if k ≤ i then M k else m', fun k => if k < i then F k else fp, by simp [h1], by simp [h2], if_neg (by omega), if_neg (by omega), fun k hk => ?_, by simp [h6], fun k hk => ?_⟩
  · by_cases hki : k < i
    · have e1 : k ≤ i := by omega
      have e2 : k + 1 ≤ i := by omega
      simp only [e1, e2, hki, if_true]
      exact h5 k hki
    · have : k = i := by omega
      subst this
      have e2 : ¬ k + 1 ≤ k := by omega
      simp only [Nat.le_refl, e2, if_true, if_false, Nat.lt_irrefl, h3, h4]
      exact hs
  · by_cases hki : k < i
    · have e1 : k ≤ i := by omega
      have e2 : k + 1 ≤ i := by omega
      simp only [e1, e2, hki, if_true, List.reverse_cons]
      rw [List.getElem?_append_left (by simp; omega)]
      exact h7 k hki
    · have : k = i := by omega
      subst this
      have e2 : ¬ k + 1 ≤ k := by omega
      simp only [Nat.le_refl, e2, if_true, if_false, Nat.lt_irrefl, h4, List.reverse_cons]
      rw [List.getElem?_append_right (by simp [h6])]
      simp [h6]

/-- A REGION, GONE THROUGH: in whatever order. -/
theorem RegOkJ.wp {a0 a : List Value} {m0 m : List Blk} {recs : List Rec} {id : Nat} {draw : Bool} (hm : P.follows .mixedOrders = true) (hK : Drawn J) (h : RegOkJ P J ops a0 m0 ops.size a m recs) (hord : draw = true → ordOk ops recs = true)
    {ι : Map} {t : Array Value} {w : World} (hr : Rel ι a0 m0 t w) (hj : J ι w) {Q : Exit → Act → World → Prop} (hQ : ∀ t' w' ι', Rel ι' a m t' w' → Ext ι (at_ m0) w ι' (at_ m) w' → J ι' w' → Q .normal (actD ds t') w') :
    (Code.region id ops draw).wpIn (Fw r) 0 P Q (actD ds t) w := by
  obtain ⟨A, M, F, rfl, rfl, rfl, rfl, h5, h6, h7⟩ := h
  have lenA : ∀ k, k ≤ ops.size → (A k).length = (A 0).length := by
    intro k
    induction k with
    | zero => intro _; rfl
    | succ k ih => intro hk; rw [(step_factsJ (h5 k (by omega))).2.2.2.2.1]; exact ih (by omega)
  have fin : ∀ t' w' ι', (A 0).length ≤ t'.size → (∀ x, RV ι' ((A ops.size).getD x undef) (t'.getD x undef)) → Sim ι' (at_ (M ops.size)) w' → (∀ b, ι' b ≠ none → b < (M ops.size).length) →
      Ext ι (at_ (M 0)) w ι' (at_ (M ops.size)) w' → J ι' w' → Q .normal (actD ds t') w' := fun t' w' ι' h1 h2 h3 h4 h5 h6 => hQ t' w' ι' ⟨by rw [lenA _ (Nat.le_refl _)]; exact h1, h2, h3, h4⟩ h5 h6
  cases draw with
  | false => exact wpIn_region (region_seqJ hK h5 hr.size hr.slots hr.sim hr.dom hj fin)
  | true =>
    have hord := hord rfl
    simp only [ordOk, Bool.and_eq_true] at hord
    refine region_drawJ hm hK h5 (fun j o e ho he hb => ?_) (fun i j hij hj hc => ?_) hr.size hr.slots hr.sim hr.dom hj fin
    · have := backOk_ok ops.toList 0 j o e hord.1 (by simpa using ho) he hb
      omega
    · have hi : i < ops.size := by omega
      have hmask := masks_ok (ops := ops) ops.toList [] 0 ⟨rfl, fun j i hj => by omega⟩ (fun k => by simp)
      simp only [Array.length_toList, Nat.zero_add] at hmask
      have gi : ∀ k, k < ops.size → (masks [] 0 ops.toList).reverse[k]? = some ((masks [] 0 ops.toList).getD (ops.size - 1 - k) 0) := fun k hk => by
        rw [List.getElem?_reverse (by rw [hmask.1]; exact hk), hmask.1, List.getD_eq_getElem?_getD]
        have : ops.size - 1 - k < (masks [] 0 ops.toList).length := by rw [hmask.1]; omega
        simp [this]
      have ri := rowsOf_get (ops := ops) ops.toList recs.reverse (masks [] 0 ops.toList).reverse i ops[i] _ _ (by simp) (h7 i hi) (gi i hi)
      have rj := rowsOf_get (ops := ops) ops.toList recs.reverse (masks [] 0 ops.toList).reverse j ops[j] _ _ (by simp) (h7 j hj) (gi j hj)
      have := ordGo_ok _ [] 0 rfl hord.2 i j _ _ hij (by simpa using ri) (by simpa using rj) (by omega) (conflict_clash (by simp [hi]) (by simp [hj]) hc)
      exact hmask.2 j i hj this

end

end

section
set_option linter.unusedVariables false
set_option linter.unusedSimpArgs false

theorem not_live {ι : Map} {C : Cont} {w : World} {k : Nat} {o : Obj} (hs : Sim ι C w) (h : w.heap[k]? = some o) (h1 : ∀ c t fz, o ≠ .cells c t fz) (h2 : ∀ es ck, o ≠ .map es ck) : ¬ LiveR ι C k := by
  rintro ⟨b, L, hl, hL, hk⟩
  have hB := hs.blk b
  generalize C b = x at hl hB
  cases x with
  | cells c sz rw_ =>
    obtain ⟨L', c', t, fz, hL', hh, _⟩ := hB
    rw [hL] at hL'; cases hL'
    rw [hk, h] at hh
    exact h1 _ _ _ (Option.some.inj hh)
  | map es ck =>
    obtain ⟨L', es', hL', hh, _⟩ := hB
    rw [hL] at hL'; cases hL'
    rw [hk, h] at hh
    exact h2 _ _ (Option.some.inj hh)
  | gone => cases hl
theorem own_live {ι : Map} {C : Cont} {k : Nat} (h : OwnR ι C k) : LiveR ι C k := let ⟨b, L, ho, hL, hk⟩ := h; ⟨b, L, Blk.live_of_own ho, hL, hk⟩

theorem Sim.putObj {ι : Map} {C : Cont} {w : World} {l : Nat} {o o' : Obj} (hs : Sim ι C w) (h : w.heap[l]? = some o) (h1 : ∀ c t fz, o ≠ .cells c t fz) (h2 : ∀ es ck, o ≠ .map es ck) : Sim ι C (w.putObj l o') where
  blk := fun b => (hs.blk b).keep (Le.refl _) fun hl L hL => by
    have hne : L.blk ≠ l := fun e => not_live hs h h1 h2 ⟨b, L, hl, hL, e⟩
    exact World.putObj_heap_other hne
  sep := hs.sep
  fro := fun r c hr => by
    obtain ⟨t, fz, hh⟩ := hs.fro r c hr
    have hne : r ≠ l := fun e => by rw [e, h] at hh; exact h1 _ _ _ (Option.some.inj hh)
    exact ⟨t, fz, (World.putObj_heap_other hne).trans hh⟩
  apart := hs.apart
  glo := hs.glo
theorem Rel.putObj {ι : Map} {a : List Value} {m : List Blk} {t : Array Value} {w : World} {l : Nat} {o o' : Obj} (hr : Rel ι a m t w) (h : w.heap[l]? = some o) (h1 : ∀ c t fz, o ≠ .cells c t fz) (h2 : ∀ es ck, o ≠ .map es ck) : Rel ι a m t (w.putObj l o') :=
  ⟨hr.size, hr.slots, hr.sim.putObj h h1 h2, hr.dom⟩

def mark (r : Nat) : Deferred := { target := .collected r, args := #[] }
/-- The blocks for the rounds' deferred calls lie open and empty. -/
def JM (D : List Nat) : Map → World → Prop := fun ι w => ∀ d, d ∈ D → w.heap[d]? = some (.deferred (some []))
theorem JM.lt {D : List Nat} {ι : Map} {w : World} (h : JM D ι w) {d : Nat} (hd : d ∈ D) : d < w.heap.size := (Array.getElem?_eq_some_iff.1 (h d hd)).1
theorem not_own_def {ι : Map} {C : Cont} {w : World} {d : Nat} {x : Option (List Deferred)} (hs : Sim ι C w) (h : w.heap[d]? = some (.deferred x)) : ¬ OwnR ι C d :=
  fun ho => not_live hs h (fun _ _ _ e => by cases e) (fun _ _ e => by cases e) (own_live ho)
theorem not_own_loop {ι : Map} {C : Cont} {w : World} {d : Nat} {x : Loop} (hs : Sim ι C w) (h : w.heap[d]? = some (.loop x)) : ¬ OwnR ι C d :=
  fun ho => not_live hs h (fun _ _ _ e => by cases e) (fun _ _ e => by cases e) (own_live ho)
theorem JM.keeps (D : List Nat) : Keeps (JM D) := fun ι C w ι' C' w' hs he h d hd => (he.frame _ (h.lt hd) (not_own_def hs (h d hd))).trans (h d hd)
theorem JM.drawn (D : List Nat) : Drawn (JM D) := fun ι w n h => h

/-- As 'Done', but the blocks D may be shut. -/
structure DoneX (D : List Nat) (n0 : Nat) (ι : Map) (C : Cont) (w : World) (ι' : Map) (C' : Cont) (w' : World) : Prop where
  le : ∀ b L, b < n0 → ι b = some L → ι' b = some L
  size : w.heap.size ≤ w'.heap.size
  os : w'.os = w.os
  tape : w'.tape = w.tape
  output : w'.output = w.output
  frame : ∀ k, k < w.heap.size → ¬ OwnR ι C k → k ∉ D → w'.heap[k]? = w.heap[k]?
  own : ∀ k, OwnR ι' C' k → OwnR ι C k ∨ w.heap.size ≤ k
  live : ∀ k, LiveR ι' C' k → LiveR ι C k ∨ w.heap.size ≤ k
  lef : ∀ r c, ι.fro r = some c → ι'.fro r = some c
  fro : ∀ r c, ι'.fro r = some c → ι.fro r = some c ∨ OwnR ι C r ∨ w.heap.size ≤ r

theorem DoneX.ahead {D : List Nat} {n0 : Nat} {ι ι' ι'' : Map} {C C' C'' : Cont} {w w' w'' : World} (h : Ext ι C w ι' C' w') (k : DoneX D n0 ι' C' w' ι'' C'' w'') : DoneX D n0 ι C w ι'' C'' w'' where
  le := fun b L hb hL => k.le b L hb (h.le b L hL)
  size := Nat.le_trans h.size k.size
  os := k.os.trans h.os
  tape := k.tape.trans h.tape
  output := k.output.trans h.output
  frame := fun x hx hn hD => (k.frame x (Nat.lt_of_lt_of_le hx h.size) (fun ho => (h.own x ho).elim hn (fun hge => absurd hx (Nat.not_lt.2 hge))) hD).trans (h.frame x hx hn)
  own := fun x ho => (k.own x ho).elim (h.own x) (fun hge => .inr (Nat.le_trans h.size hge))
  live := fun x ho => (k.live x ho).elim (h.live x) (fun hge => .inr (Nat.le_trans h.size hge))
  lef := fun r c hr => k.lef r c (h.le.fro r c hr)
  fro := fun r c hr => by
    rcases k.fro r c hr with h1 | h1 | h1
    · exact h.fro r c h1
    · exact (h.own r h1).elim (fun h2 => .inr (.inl h2)) (fun h2 => .inr (.inr h2))
    · exact .inr (.inr (Nat.le_trans h.size h1))
theorem DoneX.less {D : List Nat} {d n0 : Nat} {ι ι' : Map} {C C' : Cont} {w w' : World} (h : DoneX (d :: D) n0 ι C w ι' C' w') (hd : w.heap.size ≤ d) : DoneX D n0 ι C w ι' C' w' :=
  ⟨h.le, h.size, h.os, h.tape, h.output, fun k hk hn hD => h.frame k hk hn (fun hm => by
    rcases List.mem_cons.1 hm with e | hm
    · omega
    · exact hD hm), h.own, h.live, h.lef, h.fro⟩

/-! ### The marks on the way out -/
def shut : List Nat → World → World
  | [], w => w
  | d :: D, w => shut D (w.putObj d (.deferred none))

theorem JM.put {D : List Nat} {d : Nat} {ι : Map} {w : World} {o : Obj} (h : JM D ι w) (hd : d ∉ D) : JM D ι (w.putObj d o) := fun x hx => by
  have : x ≠ d := fun e => hd (e ▸ hx)
  exact (World.putObj_heap_other this).trans (h x hx)

theorem shut_rel {ι : Map} {a : List Value} {m : List Blk} {t : Array Value} : ∀ (D : List Nat) (w : World), D.Nodup → JM D ι w → Rel ι a m t w → Rel ι a m t (shut D w)
  | [], w, _, _, h => h
  | d :: D, w, hn, hj, h => by
    rw [List.nodup_cons] at hn
    exact shut_rel D _ hn.2 (JM.put (fun x hx => hj x (List.mem_cons_of_mem _ hx)) hn.1) (h.putObj (hj d (by simp)) (fun _ _ _ e => by cases e) (fun _ _ e => by cases e))
theorem shut_heap : ∀ (D : List Nat) (w : World) (k : Nat), k ∉ D → (shut D w).heap[k]? = w.heap[k]?
  | [], w, _, _ => rfl
  | d :: D, w, k, h => by
    rw [List.mem_cons, not_or] at h
    exact (shut_heap D _ k h.2).trans (World.putObj_heap_other h.1)
theorem shut_size : ∀ (D : List Nat) (w : World), (shut D w).heap.size = w.heap.size
  | [], w => rfl
  | d :: D, w => (shut_size D _).trans (by simp)
theorem shut_os : ∀ (D : List Nat) (w : World), (shut D w).os = w.os
  | [], w => rfl
  | d :: D, w => (shut_os D _).trans rfl
theorem shut_tape : ∀ (D : List Nat) (w : World), (shut D w).tape = w.tape
  | [], w => rfl
  | d :: D, w => (shut_tape D _).trans rfl
theorem shut_output : ∀ (D : List Nat) (w : World), (shut D w).output = w.output
  | [], w => rfl
  | d :: D, w => (shut_output D _).trans rfl
theorem shut_done {ι : Map} {C : Cont} {n0 : Nat} (D : List Nat) (w : World) : DoneX D n0 ι C w ι C (shut D w) :=
  ⟨fun _ _ _ h => h, by rw [shut_size]; exact Nat.le_refl _, shut_os D w, shut_tape D w, shut_output D w, fun k _ _ h => shut_heap D w k h, fun _ h => .inl h, fun _ h => .inl h, fun _ _ h => h, fun _ _ h => .inl h⟩

section
variable {P : Program} {f : FuncId} {n0 : Nat}

theorem leave_marks {ι : Map} : ∀ (D : List Nat) (w : World) (fr : Frame) (cs : List Frame), fr.mode = .returning → fr.defers = D.map mark → D.Nodup → JM D ι w →
    Steps P (lone fr cs w) (lone { fr with defers := [] } cs (shut D w))
  | [], w, fr, cs, hm, hd, hn, hj => by
    have : ({ fr with defers := [] } : Frame) = fr := by
      cases fr
      simp only [List.map_nil] at hd
      subst hd; rfl
    rw [this]; exact Steps.refl _ _
  | d :: D, w, fr, cs, hm, hd, hn, hj => by
    rw [List.nodup_cons] at hn
    have h1 := step_collected (P := P) (cs := cs) (fr := fr) (w := w) (d := mark d) (r := d) (ds := D.map mark) (by rw [hm]; intro h; cases h) (by rw [hd]; rfl) rfl (run_takeDeferred (hj d (by simp)))
    have h2 := leave_marks (ι := ι) D (w.putObj d (.deferred none)) { fr with defers := [] ++ D.map mark } cs hm (by simp) hn.2 (JM.put (fun x hx => hj x (List.mem_cons_of_mem _ hx)) hn.1)
    exact .head h1 h2

end

end

end Go.Dt
