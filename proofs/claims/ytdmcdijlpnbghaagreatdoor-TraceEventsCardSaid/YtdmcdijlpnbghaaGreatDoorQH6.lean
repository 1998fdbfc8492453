/- Several texts in one: Dt10, Dt11, Dt12. -/
import Derived.Test.YtdmcdijlpnbghaaGreatDoorQH5
namespace Go.Dt

section


/-- What an operation touched; sf: the block that it may have read behind another one (with what that one leaves there); outs: what it left. -/
structure Rec where
  fp : Fp
  lo : Nat
  hi : Nat
  sf : Option (Nat × Blk)
  outs : List (Nat × Blk)
abbrev rec3 (fp : Fp) (lo hi : Nat) : Rec := ⟨fp, lo, hi, none, []⟩

/-- What of an operation counts for the order. -/
structure Row where
  rs : List Nat
  dst : Option Nat
  rec_ : Rec
  mask : Nat

def inNew (r : Rec) (b : Nat) : Bool := Nat.ble r.lo b && Nat.blt b r.hi
/-- Does x write what y touches? -/
def hits (x y : Rec) : Bool :=
  x.fp.wr.any (fun b => y.fp.rd.contains b || inNew y b) || y.fp.rd.any (inNew x) || (Nat.blt x.lo x.hi && Nat.blt y.lo y.hi && Nat.blt x.lo y.hi && Nat.blt y.lo x.hi)
def clash (x y : Row) : Bool :=
  (match x.dst with | some d => y.rs.contains d || y.dst == some d | none => false) || (match y.dst with | some d => x.rs.contains d | none => false) || hits x.rec_ y.rec_ || hits y.rec_ x.rec_

theorem hits_of {x y : Rec} {b : Nat} (h1 : b ∈ x.fp.wr ∨ (x.lo ≤ b ∧ b < x.hi)) (h2 : b ∈ y.fp.rd ∨ (y.lo ≤ b ∧ b < y.hi)) : hits x y = true := by
  have new : ∀ {r : Rec}, r.lo ≤ b → b < r.hi → inNew r b = true := fun {r} h h' => by
    simp [inNew, Nat.ble_eq_true_of_le h, Nat.blt, Nat.ble_eq_true_of_le (Nat.succ_le_of_lt h')]
  unfold hits
  rcases h1 with h1 | ⟨h1, h1'⟩
  · have : (x.fp.wr.any fun b => y.fp.rd.contains b || inNew y b) = true := by
      rw [List.any_eq_true]
      refine ⟨b, h1, ?_⟩
      rcases h2 with h2 | ⟨h2, h2'⟩
      · simp [h2]
      · simp [new h2 h2']
    rw [this, Bool.true_or, Bool.true_or]
  · rcases h2 with h2 | ⟨h2, h2'⟩
    · have : y.fp.rd.any (inNew x) = true := by
        rw [List.any_eq_true]
        exact ⟨b, h2, new h1 h1'⟩
      rw [this, Bool.or_true, Bool.true_or]
    · have b1 : Nat.blt x.lo x.hi = true := Nat.ble_eq_true_of_le (by omega)
      have b2 : Nat.blt y.lo y.hi = true := Nat.ble_eq_true_of_le (by omega)
      have b3 : Nat.blt x.lo y.hi = true := Nat.ble_eq_true_of_le (by omega)
      have b4 : Nat.blt y.lo x.hi = true := Nat.ble_eq_true_of_le (by omega)
      simp [b1, b2, b3, b4]

/-- Edges that bind. -/
def edgeMask (acc : List Nat) (n : Nat) (s : Nat) (e : Edge) : Nat :=
  if Region.binds .any e && Nat.blt e.on n then s ||| (2 ^ e.on ||| acc.getD (n - 1 - e.on) 0) else s

/-- One mask an operation, the newest first. -/
def masks : List Nat → Nat → List Oper → List Nat
  | acc, _, [] => acc
  | acc, n, o :: l => masks (o.after.toList.foldl (edgeMask acc n) 0 :: acc) (n + 1) l

def MaskOk (ops : Array Oper) (acc : List Nat) (n : Nat) : Prop := acc.length = n ∧ ∀ j i, j < n → (acc.getD (n - 1 - j) 0).testBit i = true → Bef ops j i

theorem edgeMask_ok {ops : Array Oper} {acc : List Nat} {n : Nat} {o : Oper} (h : MaskOk ops acc n) (ho : ops[n]? = some o) : ∀ (l : List Edge) (s : Nat), (∀ e, e ∈ l → e ∈ o.after) →
    (∀ i, s.testBit i = true → Bef ops n i) → ∀ i, (l.foldl (edgeMask acc n) s).testBit i = true → Bef ops n i
  | [], _, _, hs, i, hi => hs i hi
  | e :: l, s, hl, hs, i, hi => by
    refine edgeMask_ok h ho l _ (fun x hx => hl x (List.mem_cons_of_mem _ hx)) (fun k hk => ?_) i hi
    unfold edgeMask at hk
    split at hk
    · rename_i hc
      rw [Bool.and_eq_true] at hc
      have hlt : e.on < n := Nat.lt_of_succ_le (Nat.le_of_ble_eq_true hc.2)
      rw [Nat.testBit_or, Nat.testBit_or, Bool.or_eq_true, Bool.or_eq_true] at hk
      rcases hk with hk | hk | hk
      · exact hs k hk
      · have : e.on = k := by
          rw [Nat.testBit_two_pow] at hk
          simpa using hk
        rw [← this]
        exact .edge ho (hl e (by simp)) hc.1
      · exact .far ho (hl e (by simp)) hc.1 (h.2 e.on k hlt hk)
    · exact hs k hk

theorem masks_ok {ops : Array Oper} : ∀ (l : List Oper) (acc : List Nat) (n : Nat), MaskOk ops acc n → (∀ k, l[k]? = ops[n + k]?) → MaskOk ops (masks acc n l) (n + l.length)
  | [], acc, n, h, _ => by simpa [masks] using h
  | o :: l, acc, n, h, hl => by
    have ho : ops[n]? = some o := by simpa using (hl 0).symm
    have := masks_ok (ops := ops) l (o.after.toList.foldl (edgeMask acc n) 0 :: acc) (n + 1) ⟨by simp [h.1], fun j i hj hi => by
      by_cases hjn : j = n
      · subst hjn
        have e : j + 1 - 1 - j = 0 := by omega
        rw [e] at hi
        exact edgeMask_ok h ho o.after.toList 0 (fun e he => by simpa using he) (fun i hi => by simp at hi) i (by simpa using hi)
      · have e : n + 1 - 1 - j = (n - 1 - j) + 1 := by omega
        rw [e, List.getD_cons_succ] at hi
        exact h.2 j i (by omega) hi⟩ (fun k => by have := hl (k + 1); simpa [Nat.add_assoc, Nat.add_comm 1 k] using this)
    simpa [masks, Nat.add_assoc, Nat.add_comm 1] using this

/-- A row against those ahead of it, the newest first; i: how many are ahead. -/
def chk (y : Row) : Nat → List Row → Bool
  | _, [] => true
  | i, x :: xs => (!(clash x y) || y.mask.testBit (i - 1)) && chk y (i - 1) xs
def ordGo : List Row → Nat → List Row → Bool
  | _, _, [] => true
  | es, n, y :: ys => chk y n es && ordGo (y :: es) (n + 1) ys

theorem chk_ok {y : Row} : ∀ (xs : List Row) (n : Nat), xs.length = n → chk y n xs = true → ∀ k x, xs[k]? = some x → clash x y = true → y.mask.testBit (n - 1 - k) = true
  | [], _, _, _, k, x, hx, _ => by simp at hx
  | z :: zs, n, hl, h, k, x, hx, hc => by
    simp only [chk, Bool.and_eq_true] at h
    cases k with
    | zero =>
      have : z = x := by simpa using hx
      subst this
      have := h.1
      rw [hc] at this
      simpa using this
    | succ k =>
      have := chk_ok zs (n - 1) (by simp at hl; omega) h.2 k x (by simpa using hx) hc
      rwa [show n - 1 - 1 - k = n - 1 - (k + 1) by omega] at this

theorem ordGo_ok : ∀ (ys es : List Row) (n : Nat), es.length = n → ordGo es n ys = true → ∀ i j x y, i < j → (es.reverse ++ ys)[i]? = some x → (es.reverse ++ ys)[j]? = some y → n ≤ j → clash x y = true → y.mask.testBit i = true
  | [], es, n, hl, _, i, j, x, y, _, _, hy, hn, _ => by
    have := (List.getElem?_eq_some_iff.1 hy).1
    simp [hl] at this
    omega
  | z :: zs, es, n, hl, h, i, j, x, y, hij, hx, hy, hn, hc => by
    simp only [ordGo, Bool.and_eq_true] at h
    by_cases hj : j = n
    · subst hj
      have hyz : z = y := by
        rw [List.getElem?_append_right (by simp [hl])] at hy
        simpa [hl] using hy
      subst hyz
      rw [List.getElem?_append_left (by simp; omega), List.getElem?_reverse (by omega)] at hx
      have := chk_ok es j hl h.1 (es.length - 1 - i) x hx hc
      rwa [show j - 1 - (es.length - 1 - i) = i by omega] at this
    · exact ordGo_ok zs (z :: es) (n + 1) (by simp [hl]) h.2 i j x y hij (by simpa using hx) (by simpa using hy) (by omega) hc

def rowsOf (ops : Array Oper) : List Oper → List Rec → List Nat → List Row
  | o :: l, r :: rs, k :: ks => ⟨slotsOf o ++ (guardSlot ops o).toList, o.dst, r, k⟩ :: rowsOf ops l rs ks
  | _, _, _ => []

theorem rowsOf_get {ops : Array Oper} : ∀ (l : List Oper) (rs : List Rec) (ks : List Nat) (i : Nat) (o : Oper) (r : Rec) (k : Nat), l[i]? = some o → rs[i]? = some r → ks[i]? = some k →
    (rowsOf ops l rs ks)[i]? = some ⟨slotsOf o ++ (guardSlot ops o).toList, o.dst, r, k⟩
  | [], _, _, i, _, _, _, h, _, _ => by simp at h
  | _ :: _, [], _, i, _, _, _, _, h, _ => by simp at h
  | _ :: _, _ :: _, [], i, _, _, _, _, _, h => by simp at h
  | o :: l, r :: rs, k :: ks, 0, o', r', k', h1, h2, h3 => by simp at h1 h2 h3; subst h1 h2 h3; rfl
  | o :: l, r :: rs, k :: ks, i + 1, o', r', k', h1, h2, h3 => by
    simp only [rowsOf, List.getElem?_cons_succ]
    exact rowsOf_get l rs ks i o' r' k' (by simpa using h1) (by simpa using h2) (by simpa using h3)

def backOk : Nat → List Oper → Bool
  | _, [] => true
  | n, o :: l => o.after.toList.all (fun e => !Region.binds .any e || Nat.blt e.on n) && backOk (n + 1) l

theorem backOk_ok : ∀ (l : List Oper) (n j : Nat) (o : Oper) (e : Edge), backOk n l = true → l[j]? = some o → e ∈ o.after → Region.binds .any e = true → e.on < n + j
  | [], _, j, _, _, _, h, _, _ => by simp at h
  | o :: l, n, 0, o', e, h, ho, he, hb => by
    simp only [backOk, Bool.and_eq_true] at h
    have : o = o' := by simpa using ho
    subst this
    have := List.all_eq_true.1 h.1 e (by simpa using he)
    rw [hb] at this
    have h2 : Nat.blt e.on n = true := by simpa using this
    exact Nat.lt_of_succ_le (Nat.le_of_ble_eq_true h2)
  | o :: l, n, j + 1, o', e, h, ho, he, hb => by
    simp only [backOk, Bool.and_eq_true] at h
    have := backOk_ok l (n + 1) j o' e h.2 (by simpa using ho) he hb
    omega

/-- The check: 'recs': what each operation touched, the last one first. -/
def ordOk (ops : Array Oper) (recs : List Rec) : Bool :=
  backOk 0 ops.toList && ordGo [] 0 (rowsOf ops ops.toList recs.reverse (masks [] 0 ops.toList).reverse)

section
variable {P : Program} {ops : Array Oper}

/-! ### Blocks that are read before or behind another one's writing -/
def wrR (r : Rec) (b : Nat) : Bool := r.fp.wr.contains b || inNew r b
/-- All that write b, from place k on, stand behind operation i (but for j). -/
def softLater (i j b : Nat) : Nat → List Row → Bool
  | _, [] => true
  | k, y :: ys => (Nat.ble k i || Nat.beq k j || !wrR y.rec_ b || y.mask.testBit i) && softLater i j b (k + 1) ys
/-- All that write b ahead of operation i must come ahead of it. -/
def softAhead (mask i b : Nat) : Nat → List Row → Bool
  | _, [] => true
  | k, y :: ys => (Nat.ble i k || !wrR y.rec_ b || mask.testBit k) && softAhead mask i b (k + 1) ys
/-- The first one behind i that writes b and need not stand behind it. -/
def softJ (i b : Nat) : Nat → List Row → Nat
  | k, [] => k
  | k, y :: ys => if Nat.blt i k && wrR y.rec_ b && !y.mask.testBit i then k else softJ i b (k + 1) ys
def outOf (r : Rec) (b : Nat) : Option Blk := (r.outs.find? (fun p => Nat.beq p.1 b)).map (·.2)
/-- What is left to be shown of the softly read: a block is as foretold. -/
def SoftOk (rows : List Row) : Nat → List Row → Prop
  | _, [] => True
  | i, y :: ys => (match y.rec_.sf with
    | none => True
    | some (b, x) => softAhead y.mask i b 0 rows = true ∧ softLater i (softJ i b 0 rows) b 0 rows = true ∧ i < softJ i b 0 rows ∧
      (∀ r, rows[softJ i b 0 rows]? = some r → outOf r.rec_ b = some x)) ∧ SoftOk rows (i + 1) ys

theorem softLater_ok {i j b : Nat} : ∀ (ys : List Row) (k0 : Nat), softLater i j b k0 ys = true → ∀ n y, ys[n]? = some y → i < k0 + n → k0 + n ≠ j → wrR y.rec_ b = true → y.mask.testBit i = true
  | [], _, _, n, y, h, _, _, _ => by simp at h
  | z :: zs, k0, h, n, y, hy, hi, hj, hw => by
    simp only [softLater, Bool.and_eq_true] at h
    cases n with
    | zero =>
      have e : z = y := by simpa using hy
      subst e
      have h1 := h.1
      rw [Nat.add_zero] at hi hj
      have e1 : Nat.ble k0 i = false := by
        cases hb : Nat.ble k0 i with
        | false => rfl
        | true => have := Nat.le_of_ble_eq_true hb; omega
      have e2 : Nat.beq k0 j = false := by
        cases hb : Nat.beq k0 j with
        | false => rfl
        | true => exact absurd (Nat.eq_of_beq_eq_true hb) hj
      rw [e1, e2, hw] at h1
      simpa using h1
    | succ n => exact softLater_ok zs (k0 + 1) h.2 n y (by simpa using hy) (by omega) (by omega) hw
theorem softAhead_ok {mask i b : Nat} : ∀ (ys : List Row) (k0 : Nat), softAhead mask i b k0 ys = true → ∀ n y, ys[n]? = some y → k0 + n < i → wrR y.rec_ b = true → mask.testBit (k0 + n) = true
  | [], _, _, n, y, h, _, _ => by simp at h
  | z :: zs, k0, h, n, y, hy, hi, hw => by
    simp only [softAhead, Bool.and_eq_true] at h
    cases n with
    | zero =>
      have e : z = y := by simpa using hy
      subst e
      have h1 := h.1
      rw [Nat.add_zero] at hi ⊢
      have e1 : Nat.ble i k0 = false := by
        cases hb : Nat.ble i k0 with
        | false => rfl
        | true => have := Nat.le_of_ble_eq_true hb; omega
      rw [e1, hw] at h1
      simpa using h1
    | succ n =>
      have := softAhead_ok zs (k0 + 1) h.2 n y (by simpa using hy) (by omega) hw
      rwa [show k0 + 1 + n = k0 + (n + 1) by omega] at this
theorem SoftOk.get {rows : List Row} : ∀ (ys : List Row) (i0 : Nat), SoftOk rows i0 ys → ∀ n y b x, ys[n]? = some y → y.rec_.sf = some (b, x) →
    softAhead y.mask (i0 + n) b 0 rows = true ∧ softLater (i0 + n) (softJ (i0 + n) b 0 rows) b 0 rows = true ∧ i0 + n < softJ (i0 + n) b 0 rows ∧ (∀ r, rows[softJ (i0 + n) b 0 rows]? = some r → outOf r.rec_ b = some x)
  | [], _, _, n, y, _, _, h, _ => by simp at h
  | z :: zs, i0, h, 0, y, b, x, hy, hs => by
    have e : z = y := by simpa using hy
    subst e
    have h1 := h.1
    rw [hs] at h1
    exact h1
  | z :: zs, i0, h, n + 1, y, b, x, hy, hs => by
    have := SoftOk.get zs (i0 + 1) h.2 n y b x (by simpa using hy) hs
    rwa [show i0 + 1 + n = i0 + (n + 1) by omega] at this

/-- Is nothing read softly? -/
def noSoft (recs : List Rec) : Bool := recs.all fun r => match r.sf with | none => true | some _ => false
def rowsAll (ops : Array Oper) (recs : List Rec) : List Row := rowsOf ops ops.toList recs.reverse (masks [] 0 ops.toList).reverse
theorem softOk_of_none : ∀ (ops : Array Oper) (l : List Oper) (rs : List Rec) (ks : List Nat) (rows : List Row) (i : Nat), rs.all (fun r => match r.sf with | none => true | some _ => false) = true → SoftOk rows i (rowsOf ops l rs ks)
  | _, [], _, _, _, _, _ => trivial
  | _, _ :: _, [], _, _, _, _ => trivial
  | _, _ :: _, _ :: _, [], _, _, _ => trivial
  | ops, o :: l, r :: rs, k :: ks, rows, i, h => by
    simp only [List.all_cons, Bool.and_eq_true] at h
    refine ⟨?_, softOk_of_none ops l rs ks rows (i + 1) h.2⟩
    have h1 := h.1
    show (match r.sf with | none => True | some (b, x) => _)
    cases hs : r.sf with
    | none => trivial
    | some p => rw [hs] at h1; cases h1
theorem noSoft_ok {ops : Array Oper} {recs : List Rec} (h : noSoft recs = true) : SoftOk (rowsAll ops recs) 0 (rowsAll ops recs) :=
  softOk_of_none ops _ _ _ _ 0 (by
    unfold noSoft at h
    rw [List.all_reverse]; exact h)

/-- What a row of the list says of a step. -/
def RecOk (r : Rec) (F : Fp) (lo hi : Nat) (sf : Option (Nat × Blk)) (m' : List Blk) : Prop := r.fp = F ∧ r.lo = lo ∧ r.hi = hi ∧ r.sf = sf ∧ ∀ p, p ∈ r.outs → m'.getD p.1 .gone = p.2

/-- Operations 0 .. i-1 of a region have been gone through. -/
def RegOk (P : Program) (ops : Array Oper) (a0 : List Value) (m0 : List Blk) (i : Nat) (a : List Value) (m : List Blk) (recs : List Rec) : Prop :=
  ∃ (A : Nat → List Value) (M : Nat → List Blk) (F : Nat → Fp) (SF : Nat → Option (Nat × Blk)), A 0 = a0 ∧ M 0 = m0 ∧ A i = a ∧ M i = m ∧ (∀ k, k < i → StepS P ops k (A k) (M k) (A (k + 1)) (M (k + 1)) (F k) (SF k)) ∧
    recs.length = i ∧ ∀ k, k < i → ∃ r, recs.reverse[k]? = some r ∧ RecOk r (F k) (M k).length (M (k + 1)).length (SF k) (M (k + 1))

theorem RegOk.start (a0 : List Value) (m0 : List Blk) : RegOk P ops a0 m0 0 a0 m0 [] :=
  ⟨fun _ => a0, fun _ => m0, fun _ => ⟨[], []⟩, fun _ => none, rfl, rfl, rfl, rfl, fun k hk => by omega, rfl, fun k hk => by omega⟩

theorem RegOk.nextS {a0 a a' : List Value} {m0 m m' : List Blk} {i : Nat} {recs : List Rec} {fp : Fp} {sf : Option (Nat × Blk)} {r : Rec} (h : RegOk P ops a0 m0 i a m recs) (hs : StepS P ops i a m a' m' fp sf) (hr : RecOk r fp m.length m'.length sf m') :
    RegOk P ops a0 m0 (i + 1) a' m' (r :: recs) := by
  obtain ⟨A, M, F, SF, h1, h2, h3, h4, h5, h6, h7⟩ := h
  refine ⟨fun k => if k ≤ i then A k else a', fun k => if k ≤ i then M k else m', fun k => if k < i then F k else fp, fun k => if k < i then SF k else sf, by simp [h1], by simp [h2], if_neg (by omega), if_neg (by omega), fun k hk => ?_, by simp [h6], fun k hk => ?_⟩
  · by_cases hki : k < i
    · have e1 : k ≤ i := by omega
      have e2 : k + 1 ≤ i := by omega
      simp only [e1, e2, hki, if_true]
      exact h5 k hki
    · have : k = i := by omega
      subst this
      have e2 : ¬ k + 1 ≤ k := by omega
      simp only [Nat.le_refl, e2, if_true, if_false, Nat.lt_irrefl, h3, h4]
      exact hs
  · by_cases hki : k < i
    · have e1 : k ≤ i := by omega
      have e2 : k + 1 ≤ i := by omega
      simp only [e1, e2, hki, if_true, List.reverse_cons]
      rw [List.getElem?_append_left (by simp; omega)]
      exact h7 k hki
    · have : k = i := by omega
      subst this
      have e2 : ¬ k + 1 ≤ k := by omega
      simp only [Nat.le_refl, e2, if_true, if_false, Nat.lt_irrefl, h4, List.reverse_cons]
      rw [List.getElem?_append_right (by simp [h6])]
      exact ⟨r, by simp [h6], hr⟩

theorem RegOk.next {a0 a a' : List Value} {m0 m m' : List Blk} {i : Nat} {recs : List Rec} {fp : Fp} (h : RegOk P ops a0 m0 i a m recs) (hs : StepAt P ops i a m a' m' fp) :
    RegOk P ops a0 m0 (i + 1) a' m' (rec3 fp m.length m'.length :: recs) := h.nextS (.hard hs) ⟨rfl, rfl, rfl, rfl, fun p hp => by cases hp⟩

/-- What a state of the canonical machine asks of a real one. -/
structure Rel (ι : Map) (a : List Value) (m : List Blk) (t : Array Value) (w : World) : Prop where
  size : a.length ≤ t.size
  slots : ∀ x, RV ι (a.getD x undef) (t.getD x undef)
  sim : Sim ι (at_ m) w
  dom : ∀ b, ι b ≠ none → b < m.length

theorem conflict_clash {M : Nat → List Blk} {F : Nat → Fp} {i j : Nat} {o o' : Oper} (ho : ops[i]? = some o) (ho' : ops[j]? = some o') {k k' : Nat} {s s' : Option (Nat × Blk)} {us us' : List (Nat × Blk)} (h : conflict ops M F i j) :
    clash ⟨slotsOf o ++ (guardSlot ops o).toList, o.dst, ⟨F i, (M i).length, (M (i + 1)).length, s, us⟩, k⟩ ⟨slotsOf o' ++ (guardSlot ops o').toList, o'.dst, ⟨F j, (M j).length, (M (j + 1)).length, s', us'⟩, k'⟩ = true := by
  have hd : dstOf ops i = o.dst := by simp [dstOf, ho]
  have hd' : dstOf ops j = o'.dst := by simp [dstOf, ho']
  have hr : rdS ops i = slotsOf o ++ (guardSlot ops o).toList := by simp [rdS, ho]
  have hr' : rdS ops j = slotsOf o' ++ (guardSlot ops o').toList := by simp [rdS, ho']
  unfold clash
  rcases h with ⟨x, h1, h2⟩ | ⟨x, h1, h2⟩ | ⟨b, h1, h2⟩ | ⟨b, h1, h2⟩
  · rw [hd] at h1
    rw [hr', hd'] at h2
    simp only [h1]
    rcases h2 with h2 | h2
    · have : (slotsOf o' ++ (guardSlot ops o').toList).contains x = true := by simpa using h2
      simp only [this, Bool.true_or]
    · simp [h2]
  · rw [hd'] at h1
    rw [hr] at h2
    simp only [h1]
    have : (slotsOf o ++ (guardSlot ops o).toList).contains x = true := by simpa using h2
    simp only [this, Bool.true_or, Bool.or_true]
  · simp only [wrB, Bool.or_eq_true, Bool.and_eq_true, decide_eq_true_eq, List.contains_eq_mem] at h1
    rw [hits_of (x := ⟨F i, (M i).length, (M (i + 1)).length, s, us⟩) (y := ⟨F j, (M j).length, (M (j + 1)).length, s', us'⟩) h1 h2]
    simp
  · simp only [wrB, Bool.or_eq_true, Bool.and_eq_true, decide_eq_true_eq, List.contains_eq_mem] at h1
    rw [hits_of (x := ⟨F j, (M j).length, (M (j + 1)).length, s', us'⟩) (y := ⟨F i, (M i).length, (M (i + 1)).length, s, us⟩) h1 h2]
    simp

/-- A REGION, GONE THROUGH: in whatever order. -/
theorem RegOk.wp {a0 a : List Value} {m0 m : List Blk} {recs : List Rec} {id : Nat} {draw : Bool} (hm : P.follows .mixedOrders = true) (h : RegOk P ops a0 m0 ops.size a m recs) (hord : draw = true → ordOk ops recs = true ∧ SoftOk (rowsAll ops recs) 0 (rowsAll ops recs))
    {ι : Map} {t : Array Value} {w : World} (hr : Rel ι a0 m0 t w) {Q : Exit → Act → World → Prop} (hQ : ∀ t' w' ι', Rel ι' a m t' w' → Ext ι (at_ m0) w ι' (at_ m) w' → Q .normal (act t') w') :
    (Code.region id ops draw).wp P Q (act t) w := by
  obtain ⟨A, M, F, SF, rfl, rfl, rfl, rfl, h5, h6, h7⟩ := h
  have lenA : ∀ k, k ≤ ops.size → (A k).length = (A 0).length := by
    intro k
    induction k with
    | zero => intro _; rfl
    | succ k ih => intro hk; rw [(step_facts (h5 k (by omega))).2.2.2.2.1]; exact ih (by omega)
  have fin : ∀ t' w' ι', (A 0).length ≤ t'.size → (∀ x, RV ι' ((A ops.size).getD x undef) (t'.getD x undef)) → Sim ι' (at_ (M ops.size)) w' → (∀ b, ι' b ≠ none → b < (M ops.size).length) →
      Ext ι (at_ (M 0)) w ι' (at_ (M ops.size)) w' → Q .normal (act t') w' := fun t' w' ι' h1 h2 h3 h4 h5 => hQ t' w' ι' ⟨by rw [lenA _ (Nat.le_refl _)]; exact h1, h2, h3, h4⟩ h5
  cases draw with
  | false => exact wp_region (region_seq h5 hr.size hr.slots hr.sim hr.dom fin)
  | true =>
    obtain ⟨hord, hsoft⟩ := hord rfl
    simp only [ordOk, Bool.and_eq_true] at hord
    have hmask := masks_ok (ops := ops) ops.toList [] 0 ⟨rfl, fun j i hj => by omega⟩ (fun k => by simp)
    simp only [Array.length_toList, Nat.zero_add] at hmask
    have gi : ∀ k, k < ops.size → (masks [] 0 ops.toList).reverse[k]? = some ((masks [] 0 ops.toList).getD (ops.size - 1 - k) 0) := fun k hk => by
      rw [List.getElem?_reverse (by rw [hmask.1]; exact hk), hmask.1, List.getD_eq_getElem?_getD]
      have : ops.size - 1 - k < (masks [] 0 ops.toList).length := by rw [hmask.1]; omega
      simp [this]
    have row : ∀ k, k < ops.size → ∃ r, RecOk r (F k) (M k).length (M (k + 1)).length (SF k) (M (k + 1)) ∧
        (rowsAll ops recs)[k]? = some ⟨slotsOf (ops.getD k default) ++ (guardSlot ops (ops.getD k default)).toList, (ops.getD k default).dst, r, (masks [] 0 ops.toList).getD (ops.size - 1 - k) 0⟩ := fun k hk => by
      obtain ⟨r, hr1, hr2⟩ := h7 k hk
      exact ⟨r, hr2, rowsOf_get (ops := ops) ops.toList recs.reverse (masks [] 0 ops.toList).reverse k (ops.getD k default) r _ (by simp [hk]) hr1 (gi k hk)⟩
    refine region_draw hm h5 (fun j o e ho he hb => ?_) (fun i j hij hj hc => ?_) (fun i b x hi hs => ?_) hr.size hr.slots hr.sim hr.dom fin
    · have := backOk_ok ops.toList 0 j o e hord.1 (by simpa using ho) he hb
      omega
    · have hi : i < ops.size := by omega
      obtain ⟨r1, ⟨e1, e2, e3, _⟩, ri⟩ := row i hi
      obtain ⟨r2, ⟨e5, e6, e7, _⟩, rj⟩ := row j hj
      have := ordGo_ok _ [] 0 rfl hord.2 i j _ _ hij (by exact ri) (by exact rj) (by omega) (by
        have := conflict_clash (k := (masks [] 0 ops.toList).getD (ops.size - 1 - i) 0) (k' := (masks [] 0 ops.toList).getD (ops.size - 1 - j) 0) (s := r1.sf) (us := r1.outs) (s' := r2.sf) (us' := r2.outs) (o := ops.getD i default) (o' := ops.getD j default) (by simp [hi]) (by simp [hj]) hc
        rw [← e1, ← e2, ← e3, ← e5, ← e6, ← e7] at this
        exact this)
      exact hmask.2 j i hj this
    · obtain ⟨r1, ⟨e1, e2, e3, e4, _⟩, ri⟩ := row i hi
      have hS := SoftOk.get _ 0 hsoft i _ b x ri (by rw [← hs, ← e4])
      simp only [Nat.zero_add] at hS
      obtain ⟨s1, s2, s3, s4⟩ := hS
      have wr : ∀ k, k < ops.size → ∀ r, RecOk r (F k) (M k).length (M (k + 1)).length (SF k) (M (k + 1)) → wrB M F b k = true → wrR r b = true := fun k _ r ⟨f1, f2, f3, _⟩ hw => by
        simp only [wrB, Bool.or_eq_true, Bool.and_eq_true, decide_eq_true_eq] at hw
        unfold wrR
        rw [Bool.or_eq_true, f1]
        rcases hw with hw | ⟨hw1, hw2⟩
        · exact .inl hw
        · right
          unfold inNew
          rw [f2, f3, Nat.ble_eq_true_of_le hw1, Nat.blt, Nat.ble_eq_true_of_le (Nat.succ_le_of_lt hw2)]; rfl
      refine ⟨fun k hk hw => ?_, _, s3, fun k hk hks hkj hw => ?_, fun hj => ?_⟩
      · obtain ⟨rk, hrk, gk⟩ := row k (by omega)
        have := softAhead_ok _ 0 s1 k _ gk (by omega) (wr k (by omega) rk hrk hw)
        rw [Nat.zero_add] at this
        exact hmask.2 i k hi this
      · obtain ⟨rk, hrk, gk⟩ := row k hks
        have := softLater_ok _ 0 s2 k _ gk (by omega) (by omega) (wr k hks rk hrk hw)
        exact hmask.2 k i hks this
      · obtain ⟨rk, ⟨_, _, _, _, hout⟩, gk⟩ := row _ hj
        have h1 := s4 _ gk
        unfold outOf at h1
        rw [Option.map_eq_some_iff] at h1
        obtain ⟨p, hp, rfl⟩ := h1
        have h2 := hout p (List.mem_of_find?_eq_some hp)
        have h3 := List.find?_some hp
        have h4 : p.1 = b := Nat.eq_of_beq_eq_true h3
        rw [h4] at h2; exact h2

end

end

section


inductive VS where
  | norm (todo : List Item) (a : List Value) (m : List Blk)
  | reg (k : List Item) (id : Nat) (ops : Array Oper) (draw : Bool) (a0 : List Value) (m0 : List Blk) (i : Nat) (a : List Value) (m : List Blk) (recs : List Rec)

def VS.slots : VS → List Value
  | .norm _ a _ => a
  | .reg _ _ _ _ _ _ _ a _ _ => a
def VS.mem : VS → List Blk
  | .norm _ _ m => m
  | .reg _ _ _ _ _ _ _ _ m _ => m

def ctl (a : List Value) : List Item → Option (List Item)
  | .code .skip :: k => some k
  | .code (.label _) :: k => some k
  | .inBlock _ :: k => some k
  | .code (.seq x y) :: k => some (.code x :: .code y :: k)
  | .code (.cond c x y) :: k => match evalC a c with
      | .bool true => some (.code x :: k)
      | .bool false => some (.code y :: k)
      | _ => none
  | .code (.block id c) :: k => some (.code c :: .inBlock id :: k)
  | .code (.loop c) :: k => some (.code c :: .inLoop c :: k)
  | .inLoop c :: k => some (.code c :: .inLoop c :: k)
  | .code (.exit id) :: k => exitTo id k
  | _ => none

def vstep (P : Program) : VS → Option VS
  | .norm todo a m => match todo with
    | .code (.region id ops draw) :: k => some (.reg k id ops draw a m 0 a m [])
    | td => match ctl a td with
      | some td' => some (.norm td' a m)
      | none => none
  | .reg k id ops draw a0 m0 i a m recs => match ops[i]? with
    | none => if Nat.beq i ops.size && (!draw || (ordOk ops recs && noSoft recs)) then some (.norm k a m) else none
    | some o => match wantedC ops o a with
      | some false => fl (put a o.dst (.chan none)) fun a' => some (.reg k id ops draw a0 m0 (i + 1) a' m (rec3 ⟨[], []⟩ m.length m.length :: recs))
      | some true => match opA P o a m with
        | some (v, m', fp) => fv v fun v' => fl (put a o.dst v') fun a' => fl m' fun m'' => some (.reg k id ops draw a0 m0 (i + 1) a' m'' (rec3 fp m.length m''.length :: recs))
        | none => none
      | none => none

def vadv (P : Program) : Nat → VS → VS
  | 0, s => s
  | n + 1, s => match vstep P s with
    | some s' => vadv P n s'
    | none => s

section
variable {P : Program} {f : FuncId} {n0 : Nat}

/-- What a run has done: as 'Ext', but only the first blocks keep their places. -/
structure Done (n0 : Nat) (ι : Map) (C : Cont) (w : World) (ι' : Map) (C' : Cont) (w' : World) : Prop where
  le : ∀ b L, b < n0 → ι b = some L → ι' b = some L
  size : w.heap.size ≤ w'.heap.size
  os : w'.os = w.os
  tape : w'.tape = w.tape
  output : w'.output = w.output
  frame : ∀ k, k < w.heap.size → ¬ OwnR ι C k → w'.heap[k]? = w.heap[k]?
  own : ∀ k, OwnR ι' C' k → OwnR ι C k ∨ w.heap.size ≤ k
  live : ∀ k, LiveR ι' C' k → LiveR ι C k ∨ w.heap.size ≤ k
  lef : ∀ r c, ι.fro r = some c → ι'.fro r = some c
  fro : ∀ r c, ι'.fro r = some c → ι.fro r = some c ∨ OwnR ι C r ∨ w.heap.size ≤ r

theorem Done.refl (n0 : Nat) (ι : Map) (C : Cont) (w : World) : Done n0 ι C w ι C w := ⟨fun _ _ _ h => h, Nat.le_refl _, rfl, rfl, rfl, fun _ _ _ => rfl, fun _ h => .inl h, fun _ h => .inl h, fun _ _ h => h, fun _ _ h => .inl h⟩

theorem Done.ahead {n0 : Nat} {ι ι' ι'' : Map} {C C' C'' : Cont} {w w' w'' : World} (h : Ext ι C w ι' C' w') (k : Done n0 ι' C' w' ι'' C'' w'') : Done n0 ι C w ι'' C'' w'' where
  le := fun b L hb hL => k.le b L hb (h.le b L hL)
  size := Nat.le_trans h.size k.size
  os := k.os.trans h.os
  tape := k.tape.trans h.tape
  output := k.output.trans h.output
  frame := fun x hx hn => (k.frame x (Nat.lt_of_lt_of_le hx h.size) (fun ho => (h.own x ho).elim hn (fun hge => absurd hx (Nat.not_lt.2 hge)))).trans (h.frame x hx hn)
  own := fun x ho => (k.own x ho).elim (h.own x) (fun hge => .inr (Nat.le_trans h.size hge))
  live := fun x ho => (k.live x ho).elim (h.live x) (fun hge => .inr (Nat.le_trans h.size hge))
  lef := fun r c hr => k.lef r c (h.le.fro r c hr)
  fro := fun r c hr => by
    rcases k.fro r c hr with h1 | h1 | h1
    · exact h.fro r c h1
    · exact (h.own r h1).elim (fun h2 => .inr (.inl h2)) (fun h2 => .inr (.inr h2))
    · exact .inr (.inr (Nat.le_trans h.size h1))

def RunsN (P : Program) (f : FuncId) (n0 : Nat) (todo : List Item) (a : List Value) (m : List Blk) (v : Value) (m' : List Blk) : Prop :=
  ∀ (ι : Map) (t : Array Value) (w : World), Rel ι a m t w → ∀ (b : Frame) (cs : List Frame), b.fn = f → b.kind = .normal →
    ∃ v' w' fr ι', Steps P (lone (b.at (act t) todo) cs w) (lone fr cs w') ∧ fr.fn = f ∧ fr.leaving P w' (.returned v') ∧ RV ι' v v' ∧ Sim ι' (at_ m') w' ∧ (∀ x, ι' x ≠ none → x < m'.length) ∧
      Done n0 ι (at_ m) w ι' (at_ m') w'

def Runs (P : Program) (f : FuncId) (n0 : Nat) : VS → Value → List Blk → Prop
  | .norm todo a m, v, m' => RunsN P f n0 todo a m v m'
  | .reg k id ops draw a0 m0 i a m recs, v, m' => RegOk P ops a0 m0 i a m recs → RunsN P f n0 (.code (.region id ops draw) :: k) a0 m0 v m'

/-- One move of the real machine that turns the list of what is to be done alone. -/
theorem RunsN.move {todo todo' : List Item} {a : List Value} {m : List Blk} {v : Value} {m' : List Blk} (h : RunsN P f n0 todo' a m v m')
    (hs : ∀ (ι : Map) (t : Array Value) (w : World), Rel ι a m t w → ∀ (b : Frame) (cs : List Frame), step P (lone (b.at (act t) todo) cs w) = .next (lone (b.at (act t) todo') cs w)) : RunsN P f n0 todo a m v m' := by
  intro ι t w hr b cs hb hk
  obtain ⟨v', w', fr, ι', h1, h2⟩ := h ι t w hr b cs hb hk
  exact ⟨v', w', fr, ι', .head (hs ι t w hr b cs) h1, h2⟩

theorem evalC_bool {ι : Map} {a : List Value} {m : List Blk} {t : Array Value} {w : World} (hr : Rel ι a m t w) {c : Operand} {b : Bool} (h : evalC a c = .bool b) : (act t).eval c = .bool b := by
  cases c with
  | tmp x =>
    have := hr.slots x
    simp only [evalC] at h
    rw [h] at this
    exact this.bool_inv
  | const v => exact h
  | global g => simp [evalC, undef] at h
  | func f => simp [evalC] at h

theorem RunsN.ctl {todo todo' : List Item} {a : List Value} {m : List Blk} {v : Value} {m' : List Blk} (hc : ctl a todo = some todo') (h : RunsN P f n0 todo' a m v m') : RunsN P f n0 todo a m v m' := by
  refine h.move fun ι t w hr b cs => ?_
  unfold Dt.ctl at hc
  split at hc
  · cases hc; exact step_skip
  · cases hc; exact step_label
  · cases hc; exact step_inBlock
  · cases hc; exact step_seq
  · split at hc
    · rename_i he; cases hc; exact step_cond (t := true) (evalC_bool hr he)
    · rename_i he; cases hc; exact step_cond (t := false) (evalC_bool hr he)
    · cases hc
  · cases hc; exact step_block
  · cases hc; exact step_loop
  · cases hc; exact step_inLoop
  · exact step_exit hc
  · cases hc

theorem RunsN.region {k : List Item} {id : Nat} {ops : Array Oper} {draw : Bool} {a0 a : List Value} {m0 m : List Blk} {recs : List Rec} {v : Value} {m' : List Blk} (hm : P.follows .mixedOrders = true)
    (hreg : RegOk P ops a0 m0 ops.size a m recs) (hord : draw = true → ordOk ops recs = true ∧ SoftOk (rowsAll ops recs) 0 (rowsAll ops recs)) (h : RunsN P f n0 k a m v m') : RunsN P f n0 (.code (.region id ops draw) :: k) a0 m0 v m' := by
  intro ι t w hr b cs hb hk
  have := RegOk.wp (id := id) hm hreg hord hr (Q := fun e a' w' => ∃ t' ι', e = .normal ∧ a' = act t' ∧ Rel ι' a m t' w' ∧ Ext ι (at_ m0) w ι' (at_ m) w') (fun t' w' ι' h1 h2 => ⟨t', ι', rfl, rfl, h1, h2⟩)
  obtain ⟨e, a', w1, ⟨t', ι1, rfl, rfl, hr1, hext⟩, harr⟩ := this b k cs
  obtain ⟨v', w', fr, ι', h1, h2, h3, h4, h5, h6, h7⟩ := h ι1 t' w1 hr1 b cs hb hk
  exact ⟨v', w', fr, ι', Steps.trans harr h1, h2, h3, h4, h5, h6, Done.ahead hext h7⟩

theorem Runs.step {s s' : VS} {v : Value} {m' : List Blk} (hm : P.follows .mixedOrders = true) (hs : vstep P s = some s') (h : Runs P f n0 s' v m') : Runs P f n0 s v m' := by
  cases s with
  | norm todo a m =>
    simp only [vstep] at hs
    split at hs
    · cases hs
      exact h (RegOk.start a m)
    · split at hs
      · rename_i hc
        cases hs
        exact RunsN.ctl hc h
      · cases hs
  | reg k id ops draw a0 m0 i a m recs =>
    intro hreg
    simp only [vstep] at hs
    split at hs
    · split at hs
      · rename_i hc
        cases hs
        rw [Bool.and_eq_true] at hc
        have hi : i = ops.size := Nat.eq_of_beq_eq_true hc.1
        subst hi
        refine RunsN.region hm hreg (fun hd => ?_) h
        have h2 := hc.2
        rw [hd, Bool.not_true, Bool.false_or, Bool.and_eq_true] at h2
        exact ⟨h2.1, noSoft_ok h2.2⟩
      · cases hs
    · rename_i o ho
      split at hs
      · rename_i hw
        rw [fl_eq] at hs
        cases hs
        exact h (hreg.next (.skip ho hw))
      · rename_i hw
        split at hs
        · rename_i v' m1 fp hop
          rw [fv_eq, fl_eq, fl_eq] at hs
          cases hs
          exact h (hreg.next (.op ho hw (opA_ok hop)))
        · cases hs
      · cases hs

theorem Runs.adv {v : Value} {m' : List Blk} (hm : P.follows .mixedOrders = true) : ∀ (n : Nat) {s : VS}, Runs P f n0 (vadv P n s) v m' → Runs P f n0 s v m'
  | 0, _, h => h
  | n + 1, s, h => by
    unfold vadv at h
    split at h
    · rename_i s' hs
      exact Runs.step hm hs (Runs.adv (s := s') hm n h)
    · exact h

/-! ### Branches -/
def condOf : VS → Option Bool
  | .norm (.code (.cond c _ _) :: _) a _ => match evalC a c with
    | .bool b => some b
    | _ => none
  | _ => none
def goC (s : VS) (b : Bool) : VS :=
  match s with
  | .norm (.code (.cond _ x y) :: k) a m => .norm (.code (bif b then x else y) :: k) a m
  | s => s

theorem Runs.cond {s : VS} {v : Value} {m' : List Blk} (b : Bool) (hs : condOf s = some b) (h : Runs P f n0 (goC s b) v m') : Runs P f n0 s v m' := by
  unfold condOf at hs
  split at hs
  · split at hs
    · rename_i he
      cases hs
      refine RunsN.move h fun ι t w hr fr cs => ?_
      cases b <;> exact step_cond (evalC_bool hr he)
    · cases hs
  · cases hs

theorem Runs.branch {s : VS} {v : Value} {m' : List Blk} (b : Bool) (hs : condOf s = some b) (h1 : b = true → Runs P f n0 (goC s true) v m') (h0 : b = false → Runs P f n0 (goC s false) v m') : Runs P f n0 s v m' := by
  refine Runs.cond b hs ?_
  cases b
  · exact h0 rfl
  · exact h1 rfl

end

end

section


section
variable {P : Program} {f : FuncId} {n0 : Nat}

theorem set_self {l : List Value} {d : Nat} {v : Value} (h : l.getD d undef = v) : l.set d v = l := by
  apply List.ext_getElem?
  intro i
  rw [List.getElem?_set]
  split
  · rename_i hi
    subst hi
    split
    · rename_i hlt
      rw [← h]; simp [List.getD_eq_getElem?_getD, hlt]
    · rename_i hlt
      simp [List.getElem?_eq_none (Nat.le_of_not_lt hlt)]
  · rfl

def setV (s : VS) (d : Nat) (v : Value) : VS :=
  match s with
  | .norm todo a m => fl (a.set d v) fun a' => .norm todo a' m
  | .reg k id ops draw a0 m0 i a m recs => fl (a.set d v) fun a' => .reg k id ops draw a0 m0 i a' m recs

/-- A slot's value, spelled otherwise. -/
theorem Runs.spell {s : VS} {v : Value} {m' : List Blk} (d : Nat) (u : Value) (h : s.slots.getD d undef = u) (hr : Runs P f n0 (setV s d u) v m') : Runs P f n0 s v m' := by
  cases s with
  | norm todo a m => simp only [setV, fl_eq, VS.slots] at hr h; rwa [set_self h] at hr
  | reg k id ops draw a0 m0 i a m recs => simp only [setV, fl_eq, VS.slots] at hr h; rwa [set_self h] at hr

theorem Runs.congr {s s' : VS} {v : Value} {m' : List Blk} (h : s = s') (hr : Runs P f n0 s' v m') : Runs P f n0 s v m' := h ▸ hr

def guardOf : VS → Option (Nat × Bool)
  | .reg _ _ ops _ _ _ i a _ _ => match ops[i]? with
    | none => none
    | some o => match guardSlot ops o with
      | none => none
      | some d => match a.getD d undef with
        | .bool b => some (d, b)
        | _ => none
  | _ => none

theorem Runs.guard {s : VS} {v : Value} {m' : List Blk} (d : Nat) (b : Bool) (hs : guardOf s = some (d, b)) (h1 : b = true → Runs P f n0 (setV s d (.bool true)) v m')
    (h0 : b = false → Runs P f n0 (setV s d (.bool false)) v m') : Runs P f n0 s v m' := by
  have hg : s.slots.getD d undef = .bool b := by
    unfold guardOf at hs
    split at hs
    · split at hs
      · cases hs
      · split at hs
        · cases hs
        · split at hs
          · rename_i hb; cases hs; exact hb
          · cases hs
    · cases hs
  cases b
  · exact Runs.spell d _ hg (h0 rfl)
  · exact Runs.spell d _ hg (h1 rfl)

def opAt : VS → Option Oper
  | .reg _ _ ops _ _ _ i a _ _ => match ops[i]? with
    | none => none
    | some o => match wantedC ops o a with
      | some true => some o
      | _ => none
  | _ => none

def afterOp (s : VS) (o : Oper) (v : Value) (m1 : List Blk) (fp : Fp) : VS :=
  match s with
  | .reg k id ops draw a0 m0 i a m recs => fl (put a o.dst v) fun a' => fl m1 fun m1' => .reg k id ops draw a0 m0 (i + 1) a' m1' (rec3 fp m.length m1'.length :: recs)
  | s => s

theorem Runs.op {s : VS} {v : Value} {m' : List Blk} (o : Oper) {u : Value} {m1 : List Blk} {fp : Fp} (hs : opAt s = some o) (ho : OpOk P o s.slots s.mem u m1 fp) (hr : Runs P f n0 (afterOp s o u m1 fp) v m') : Runs P f n0 s v m' := by
  cases s with
  | norm todo a m => cases hs
  | reg k id ops draw a0 m0 i a m recs =>
    intro hreg
    simp only [opAt] at hs
    split at hs
    · cases hs
    · rename_i o' ho'
      split at hs
      · rename_i hw
        cases hs
        simp only [afterOp, fl_eq] at hr
        exact hr (hreg.next (.op ho' hw ho))
      · cases hs

/-! ### Returns -/
def resOne (P : Program) (a : List Value) (m : List Blk) : ResultVar → Option Value
  | .tmp t => some (a.getD t undef)
  | .cell x t => match a.getD x undef with
    | .pointer (some ⟨b, off, none⟩) => match m[b]? with
      | some (.cells c _ _) => loadC P t c off
      | _ => none
    | _ => none

def resAll (P : Program) (a : List Value) (m : List Blk) : List ResultVar → Option (List Value)
  | [] => some []
  | r :: rs => match resOne P a m r, resAll P a m rs with
    | some v, some vs => some (v :: vs)
    | _, _ => none

def tupled : List Value → Value
  | [v] => v
  | vs => .tuple vs.toArray

def retOf (P : Program) (fn : Func) : VS → Option Value
  | .norm (.code .ret :: _) a m => (resAll P a m fn.results.toList).map tupled
  | .norm [] a m => (resAll P a m fn.results.toList).map tupled
  | _ => none

theorem run_loadC {ι : Map} {w : World} {t : TypeId} {c : List Value} {off : Nat} {v : Value} {L : Loc} {c' : Array Value} {e : TypeId} {fz : Nat × Nat} (h : loadC P t c off = some v)
    (hh : w.heap[L.blk]? = some (.cells c' e fz)) (hfit : L.off + c.length ≤ c'.size) (hc : ∀ i, i < c.length → RV ι (c.getD i undef) (c'.getD (L.off + i) undef)) :
    ∃ v', RV ι v v' ∧ (loadVar t ⟨L.blk, L.off + off, none⟩).run P w = .ok v' w := by
  unfold loadC at h
  split at h
  · rename_i ht
    split at h
    · rename_i n hn
      split at h
      · rename_i hle
        cases h
        have hle := Nat.le_of_ble_eq_true hle
        refine ⟨.agg ((List.range n).map fun j => c'.getD (L.off + off + j) undef).toArray, .agg (by simp; omega) (fun i => ?_), ?_⟩
        · rw [toArr_range]
          by_cases hi : i < n
          · rw [if_pos hi]
            have h1 : ((c.drop off).take n).toArray.getD i undef = c.getD (off + i) undef := by simp [List.getD_eq_getElem?_getD, hi]
            rw [h1, Nat.add_assoc]
            exact hc (off + i) (by omega)
          · rw [if_neg hi]
            have h1 : ((c.drop off).take n).toArray.getD i undef = undef := by simp [List.getElem?_take, hi]
            rw [h1]; exact .any _
        · have hl := run_loadCells (P := P) w ⟨L.blk, L.off + off, none⟩ n (fun j => c'.getD (L.off + off + j) undef) (fun j hj => by rw [addr_add]; exact cell_of hh (by omega))
          simp [loadVar, run_isAgg ht w, run_szC hn, hl]
      · cases h
    · cases h
  · rename_i ht
    have hlt : off < c.length := (List.getElem?_eq_some_iff.1 h).1
    have hrv := hc off hlt
    rw [show c.getD off undef = v by simp [List.getD_eq_getElem?_getD, h]] at hrv
    refine ⟨_, hrv, ?_⟩
    have hcell := cell_of (L := L) hh (i := L.off + off) (by omega)
    simp [loadVar, run_isAgg ht w, hcell]
  · cases h

def resFun (t : Array Value) : ResultVar → Sem Value
  | .tmp x => pure (t.getD x undef)
  | .cell x ty => do loadVar ty (← asAddr (t.getD x undef))

theorem results_eq (fn : Func) (t : Array Value) : results fn t = (do let vs ← fn.results.mapM (resFun t); pure (if h : vs.size = 1 then vs[0] else .tuple vs)) := by
  unfold results
  congr 1

theorem run_resAll {ι : Map} {a : List Value} {m : List Blk} {t : Array Value} {w : World} (hr : Rel ι a m t w) : ∀ (rs : List ResultVar) (vs : List Value), resAll P a m rs = some vs →
    ∃ vs' : List Value, vs.length = vs'.length ∧ (∀ i : Nat, RV ι (vs.getD i undef) (vs'.getD i undef)) ∧
      (rs.mapM (resFun t)).run P w = .ok vs' w
  | [], vs, h => by simp only [resAll] at h; cases h; exact ⟨[], rfl, fun i => by simpa using RV.any undef, by simp⟩
  | r :: rs, vs, h => by
    simp only [resAll] at h
    split at h
    · rename_i v vs1 h1 h2
      cases h
      obtain ⟨vs', hl, hrv, hrun⟩ := run_resAll hr rs vs1 h2
      have one : ∃ v', RV ι v v' ∧ (resFun t r).run P w = .ok v' w := by
        cases r with
        | tmp x => simp only [resOne] at h1; cases h1; exact ⟨_, hr.slots x, rfl⟩
        | cell x ty =>
          simp only [resOne] at h1
          split at h1
          · rename_i b off hx
            split at h1
            · rename_i c sz rw_ hb
              have hs := hr.slots x
              rw [hx] at hs
              obtain ⟨L, hL, he⟩ := hs.ptr_inv
              have hB := hr.sim.blk b
              rw [show at_ m b = .cells c sz rw_ by simp [at_, List.getD_eq_getElem?_getD, hb]] at hB
              obtain ⟨L', c', e, fz, hL', hh, hfit, _, _, hcells⟩ := hB
              rw [hL] at hL'; cases hL'
              obtain ⟨v', hv', hrun⟩ := run_loadC h1 hh hfit hcells
              exact ⟨v', hv', by simp [resFun, he, asAddr, hrun]⟩
            · cases h1
          · cases h1
      obtain ⟨v', hv', hrun'⟩ := one
      refine ⟨v' :: vs', by simp [hl], fun i => ?_, ?_⟩
      · cases i with
        | zero => simpa using hv'
        | succ i => simpa using hrv i
      · rw [List.mapM_cons]
        simp only [Sem.run_bind, hrun', Result.andThen_ok, hrun, Sem.run_pure]
    · cases h

theorem Runs.ret {s : VS} {v : Value} {fn : Func} (hf : P.funcs[f]? = some fn) (hs : retOf P fn s = some v) : Runs P f n0 s v s.mem := by
  have key : ∀ (todo : List Item) (a : List Value) (m : List Blk), (todo = [] ∨ ∃ k, todo = .code .ret :: k) → (resAll P a m fn.results.toList).map tupled = some v → RunsN P f n0 todo a m v m := by
    intro todo a m htodo hres ι t w hr b cs hb hk
    rw [Option.map_eq_some_iff] at hres
    obtain ⟨vs, hvs, rfl⟩ := hres
    obtain ⟨vs', hl, hrv, hrun⟩ := run_resAll hr _ _ hvs
    have hresults : ∃ v', RV ι (tupled vs) v' ∧ (results fn t).run P w = .ok v' w := by
      refine ⟨tupled vs', ?_, ?_⟩
      · match vs, vs', hl with
        | [], [], _ => exact .tuple rfl (fun i => by simpa using RV.any undef)
        | [x], [y], _ => simpa [tupled] using hrv 0
        | x :: x2 :: l, y :: y2 :: l', hl => exact .tuple (by simpa using hl) (fun i => by have := hrv i; simpa [List.getD_eq_getElem?_getD] using this)
      · rw [results_eq, Array.mapM_eq_mapM_toList]
        simp only [Sem.run_bind, Sem.run_map]
        rw [hrun]
        simp only [Result.andThen_ok, Sem.run_pure]
        match vs' with
        | [] => rfl
        | [y] => rfl
        | y :: y2 :: l => simp [tupled]
    obtain ⟨v', hv', hrun'⟩ := hresults
    rcases htodo with rfl | ⟨k, rfl⟩
    · exact ⟨v', w, _, ι, .one step_end, hb, ⟨rfl, rfl, hk, fn, by show P.funcs[b.fn]? = _; rw [hb]; exact hf, hrun'⟩, hv', hr.sim, hr.dom, Done.refl _ _ _ _⟩
    · exact ⟨v', w, _, ι, .one step_ret, hb, ⟨rfl, rfl, hk, fn, by show P.funcs[b.fn]? = _; rw [hb]; exact hf, hrun'⟩, hv', hr.sim, hr.dom, Done.refl _ _ _ _⟩
  unfold retOf at hs
  split at hs
  · exact key _ _ _ (.inr ⟨_, rfl⟩) hs
  · exact key _ _ _ (.inl rfl) hs
  · cases hs

/-! ### Entries -/
def entry (fn : Func) (args : List Value) (m : List Blk) : VS :=
  match fn.body with
  | some c => fl (args ++ List.replicate (fn.ntmps - args.length) undef) fun a => .norm [.code c] a m
  | none => .norm [.code .skip] args m

theorem FnEq.of_runs {fn : Func} {args : List Value} {m m' : List Blk} {v : Value} (hf : P.funcs[f]? = some fn) (hb : fn.body.isSome = true) (h : Runs P f m.length (entry fn args m) v m') : FnEq P f args m v m' := by
  intro ι args' w hsz hargs hsim hdom cs
  cases hbody : fn.body with
  | none => simp [hbody] at hb
  | some c =>
    simp only [entry, hbody, fl_eq] at h
    let b : Frame := { (default : Frame) with fn := f, kind := .normal }
    have henter : Frame.enter P f args' .normal = b.at (act (args' ++ Array.replicate (fn.ntmps - args'.size) undef)) [.code c] := by
      simp [Frame.enter, Frame.at, hf, hbody, b, act]
    obtain ⟨v', w', fr, ι', h1, h2, h3, h4, h5, h6, h7⟩ := h ι (args' ++ Array.replicate (fn.ntmps - args'.size) undef) w ⟨by simp; omega, fun x => by
        simp only [List.getD_eq_getElem?_getD, Array.getD_eq_getD_getElem?]
        by_cases hx : x < args.length
        · rw [List.getElem?_append_left hx, Array.getElem?_append_left (by omega)]
          have := hargs x
          simpa [List.getD_eq_getElem?_getD] using this
        · rw [List.getElem?_append_right (by omega)]
          have : (List.replicate (fn.ntmps - args.length) undef)[x - args.length]?.getD undef = undef := by
            rw [List.getElem?_replicate]
            split <;> rfl
          rw [this]; exact .any _, hsim, hdom⟩ b cs rfl rfl
    exact ⟨.returned v', w', fr, ⟨v', ι', rfl, h4, h5, h6, ⟨⟨fun b L hb => h7.le b L (hdom b (by simp [hb])) hb, h7.lef⟩, h7.size, h7.os, h7.tape, h7.output, h7.frame, h7.own, h7.live, h7.fro⟩⟩, by rw [henter]; exact h1, h2, h3⟩

/-! ### What is dropped at the end -/
def keepAt (ks : List Nat) : Nat → Option Nat := fun b => if ks.contains b then some (ks.idxOf b) else none

theorem nodup_inj {l : List Nat} (h : l.Nodup) {i j : Nat} (hi : i < l.length) (hj : j < l.length) (e : l[i] = l[j]) : i = j := by
  rcases Nat.lt_trichotomy i j with h1 | h1 | h1
  · exact absurd e (List.pairwise_iff_getElem.1 h i j hi hj h1)
  · exact h1
  · exact absurd e.symm (List.pairwise_iff_getElem.1 h j i hj hi h1)

theorem FnEq.drop {args : List Value} {m m1 m2 : List Blk} {v u : Value} (ks : List Nat) (h : FnEq P f args m v m1) (hpre : ∀ i, i < m.length → ks[i]? = some i) (hnd : ks.Nodup) (hlen : m2.length = ks.length)
    (hv : Lift (keepAt ks) v u) (hb : ∀ j b, ks[j]? = some b → BLift (keepAt ks) (m1.getD b .gone) (m2.getD j .gone)) : FnEq P f args m u m2 := by
  intro ι args' w hsz hargs hsim hdom
  refine (h ι args' w hsz hargs hsim hdom).mono fun e w' he => ?_
  obtain ⟨v', ι1, rfl, hv1, hs1, hd1, hext⟩ := he
  let ι2 : Map := ⟨fun j => (ks[j]?).bind ι1.loc, ι1.fro⟩
  have hfro : ∀ r c, ι1.fro r = some c → ι2.fro r = some c := fun _ _ h => h
  have back : ∀ i b L, keepAt ks i = some b → ι1 i = some L → ι2 b = some L := fun i b L hi hL => by
    unfold keepAt at hi
    split at hi
    · rename_i hc
      cases hi
      have hm : i ∈ ks := by simpa using hc
      have : ks[ks.idxOf i]? = some i := by
        rw [List.getElem?_eq_getElem (List.idxOf_lt_length_of_mem hm)]
        simp
      simp [ι2, this, hL]
    · cases hi
  have src : ∀ j, (at_ m2 j).live = true → ∃ b, ks[j]? = some b ∧ keepAt ks b = some j ∧ BLift (keepAt ks) (at_ m1 b) (at_ m2 j) := fun j hl => by
    have hj : j < ks.length := by
      rcases Nat.lt_or_ge j m2.length with h' | h'
      · omega
      · simp [at_, List.getD_eq_getElem?_getD, List.getElem?_eq_none h', Blk.live] at hl
    refine ⟨ks[j], by simp [hj], ?_, hb j _ (by simp [hj])⟩
    unfold keepAt
    rw [if_pos (by simp)]
    congr 1
    exact nodup_inj hnd (List.idxOf_lt_length_of_mem (by simp)) hj (by simp)
  have place : ∀ j L, (at_ m2 j).live = true → ι2 j = some L → ∃ b, ks[j]? = some b ∧ BLift (keepAt ks) (at_ m1 b) (at_ m2 j) ∧ ι1 b = some L := fun j L hl hL => by
    obtain ⟨b, h1, _, h3⟩ := src j hl
    refine ⟨b, h1, h3, ?_⟩
    simpa [ι2, h1] using hL
  refine ⟨v', ι2, rfl, hv.up back hfro hv1, ⟨fun j => ?_, fun j j2 L L2 hne ho hl hL hL2 => ?_, hs1.fro, fun j L r c ho hL hr => ?_, hs1.glo⟩, fun j hj => ?_, ⟨⟨fun b L hL => ?_, hext.le.fro⟩, hext.size, hext.os, hext.tape, hext.output, hext.frame, fun k => ?_, fun k => ?_, hext.fro⟩⟩
  · cases hl : (at_ m2 j).live with
    | false => cases hx : at_ m2 j <;> simp_all [Blk.live]; trivial
    | true =>
      obtain ⟨b, h1, h2, h3⟩ := src j hl
      exact h3.up back hfro h2 (hs1.blk b)
  · obtain ⟨b, h1, h2, h3⟩ := place j L (Blk.live_of_own ho) hL
    obtain ⟨b2, h4, h5, h6⟩ := place j2 L2 hl hL2
    refine hs1.sep b b2 L L2 (fun e => hne ?_) (h2.own ho) (h5.live hl) h3 h6
    subst e
    have hj := (List.getElem?_eq_some_iff.1 h1)
    have hj2 := (List.getElem?_eq_some_iff.1 h4)
    exact nodup_inj hnd hj.1 hj2.1 (hj.2.trans hj2.2.symm)
  · obtain ⟨b, h1, h2, h3⟩ := place j L (Blk.live_of_own ho) hL
    exact hs1.apart b L r c (h2.own ho) h3 hr
  · rw [hlen]
    rcases Nat.lt_or_ge j ks.length with h' | h'
    · exact h'
    · simp [ι2, List.getElem?_eq_none h'] at hj
  · have hlt := hdom b (by simp [hL])
    simp [ι2, hpre b hlt, hext.le b L hL]
  · rintro ⟨j, L, ho, hL, hk⟩
    obtain ⟨b, h1, h2, h3⟩ := place j L (Blk.live_of_own ho) hL
    exact hext.own k ⟨b, L, h2.own ho, h3, hk⟩
  · rintro ⟨j, L, ho, hL, hk⟩
    obtain ⟨b, h1, h2, h3⟩ := place j L ho hL
    exact hext.live k ⟨b, L, h2.live ho, h3, hk⟩

/-- A function that gives no memory but what will never be written. -/
theorem FnEq.pureR {args : List Value} {m1 : List Blk} {v : Value} (h : FnEq P f args [] v m1) (hv : pureV v = true) : FnEq P f args [] v [] :=
  FnEq.drop [] h (fun i hi => by simp at hi) List.nodup_nil rfl (.pure hv) (fun j b hj => by simp at hj)

/-- A function that neither gets nor gives memory. -/
theorem FnEq.pure {args : List Value} {m1 : List Blk} {v : Value} (h : FnEq P f args [] v m1) (hv : plain v = true) : FnEq P f args [] v [] :=
  FnEq.drop [] h (fun i hi => by simp at hi) List.nodup_nil rfl (.plain hv) (fun j b hj => by simp at hj)

end

end

end Go.Dt
