/- The order's check, reckoned; a region on the way. -/
import Derived.Test.YtjfodgjgpeiaaaaDtE
namespace Go.Dt

structure Rec where
  fp : Fp
  lo : Nat
  hi : Nat

/-- What of an operation counts for the order. -/
structure Row where
  rs : List Nat
  dst : Option Nat
  rec_ : Rec
  mask : Nat

def inNew (r : Rec) (b : Nat) : Bool := Nat.ble r.lo b && Nat.blt b r.hi
/-- Does x write what y touches? -/
def hits (x y : Rec) : Bool :=
  x.fp.wr.any (fun b => y.fp.rd.contains b || inNew y b) || y.fp.rd.any (inNew x) || (Nat.blt x.lo x.hi && Nat.blt y.lo y.hi && Nat.blt x.lo y.hi && Nat.blt y.lo x.hi)
def clash (x y : Row) : Bool :=
  (match x.dst with | some d => y.rs.contains d || y.dst == some d | none => false) || (match y.dst with | some d => x.rs.contains d | none => false) || hits x.rec_ y.rec_ || hits y.rec_ x.rec_

theorem hits_of {x y : Rec} {b : Nat} (h1 : b ∈ x.fp.wr ∨ (x.lo ≤ b ∧ b < x.hi)) (h2 : b ∈ y.fp.rd ∨ (y.lo ≤ b ∧ b < y.hi)) : hits x y = true := by
  have new : ∀ {r : Rec}, r.lo ≤ b → b < r.hi → inNew r b = true := fun {r} h h' => by
    simp [inNew, Nat.ble_eq_true_of_le h, Nat.blt, Nat.ble_eq_true_of_le (Nat.succ_le_of_lt h')]
  unfold hits
  rcases h1 with h1 | ⟨h1, h1'⟩
  · have : (x.fp.wr.any fun b => y.fp.rd.contains b || inNew y b) = true := by
      rw [List.any_eq_true]
      refine ⟨b, h1, ?_⟩
      rcases h2 with h2 | ⟨h2, h2'⟩
      · simp [h2]
      · simp [new h2 h2']
    rw [this, Bool.true_or, Bool.true_or]
  · rcases h2 with h2 | ⟨h2, h2'⟩
    · have : y.fp.rd.any (inNew x) = true := by
        rw [List.any_eq_true]
        exact ⟨b, h2, new h1 h1'⟩
      rw [this, Bool.or_true, Bool.true_or]
    · have b1 : Nat.blt x.lo x.hi = true := Nat.ble_eq_true_of_le (by omega)
      have b2 : Nat.blt y.lo y.hi = true := Nat.ble_eq_true_of_le (by omega)
      have b3 : Nat.blt x.lo y.hi = true := Nat.ble_eq_true_of_le (by omega)
      have b4 : Nat.blt y.lo x.hi = true := Nat.ble_eq_true_of_le (by omega)
      simp [b1, b2, b3, b4]

/-- Edges that bind. -/
def edgeMask (acc : List Nat) (n : Nat) (s : Nat) (e : Edge) : Nat :=
  if Region.binds .any e && Nat.blt e.on n then s ||| (2 ^ e.on ||| acc.getD (n - 1 - e.on) 0) else s

/-- One mask an operation, the newest first. -/
def masks : List Nat → Nat → List Oper → List Nat
  | acc, _, [] => acc
  | acc, n, o :: l => masks (o.after.toList.foldl (edgeMask acc n) 0 :: acc) (n + 1) l

def MaskOk (ops : Array Oper) (acc : List Nat) (n : Nat) : Prop := acc.length = n ∧ ∀ j i, j < n → (acc.getD (n - 1 - j) 0).testBit i = true → Bef ops j i

theorem edgeMask_ok {ops : Array Oper} {acc : List Nat} {n : Nat} {o : Oper} (h : MaskOk ops acc n) (ho : ops[n]? = some o) : ∀ (l : List Edge) (s : Nat), (∀ e, e ∈ l → e ∈ o.after) →
    (∀ i, s.testBit i = true → Bef ops n i) → ∀ i, (l.foldl (edgeMask acc n) s).testBit i = true → Bef ops n i
  | [], _, _, hs, i, hi => hs i hi
  | e :: l, s, hl, hs, i, hi => by
    refine edgeMask_ok h ho l _ (fun x hx => hl x (List.mem_cons_of_mem _ hx)) (fun k hk => ?_) i hi
    unfold edgeMask at hk
    split at hk
    · rename_i hc
      rw [Bool.and_eq_true] at hc
      have hlt : e.on < n := Nat.lt_of_succ_le (Nat.le_of_ble_eq_true hc.2)
      rw [Nat.testBit_or, Nat.testBit_or, Bool.or_eq_true, Bool.or_eq_true] at hk
      rcases hk with hk | hk | hk
      · exact hs k hk
      · have : e.on = k := by
          rw [Nat.testBit_two_pow] at hk
          simpa using hk
        rw [← this]
        exact .edge ho (hl e (by simp)) hc.1
      · exact .far ho (hl e (by simp)) hc.1 (h.2 e.on k hlt hk)
    · exact hs k hk

theorem masks_ok {ops : Array Oper} : ∀ (l : List Oper) (acc : List Nat) (n : Nat), MaskOk ops acc n → (∀ k, l[k]? = ops[n + k]?) → MaskOk ops (masks acc n l) (n + l.length)
  | [], acc, n, h, _ => by simpa [masks] using h
  | o :: l, acc, n, h, hl => by
    have ho : ops[n]? = some o := by simpa using (hl 0).symm
    have := masks_ok (ops := ops) l (o.after.toList.foldl (edgeMask acc n) 0 :: acc) (n + 1) ⟨by simp [h.1], fun j i hj hi => by
      by_cases hjn : j = n
      · subst hjn
        have e : j + 1 - 1 - j = 0 := by omega
        rw [e] at hi
        exact edgeMask_ok h ho o.after.toList 0 (fun e he => by simpa using he) (fun i hi => by simp at hi) i (by simpa using hi)
      · have e : n + 1 - 1 - j = (n - 1 - j) + 1 := by omega
        rw [e, List.getD_cons_succ] at hi
        exact h.2 j i (by omega) hi⟩ (fun k => by have := hl (k + 1); simpa [Nat.add_assoc, Nat.add_comm 1 k] using this)
    simpa [masks, Nat.add_assoc, Nat.add_comm 1] using this

/-- A row against those ahead of it, the newest first; i: how many are ahead. -/
def chk (y : Row) : Nat → List Row → Bool
  | _, [] => true
  | i, x :: xs => (!(clash x y) || y.mask.testBit (i - 1)) && chk y (i - 1) xs
def ordGo : List Row → Nat → List Row → Bool
  | _, _, [] => true
  | es, n, y :: ys => chk y n es && ordGo (y :: es) (n + 1) ys

theorem chk_ok {y : Row} : ∀ (xs : List Row) (n : Nat), xs.length = n → chk y n xs = true → ∀ k x, xs[k]? = some x → clash x y = true → y.mask.testBit (n - 1 - k) = true
  | [], _, _, _, k, x, hx, _ => by simp at hx
  | z :: zs, n, hl, h, k, x, hx, hc => by
    simp only [chk, Bool.and_eq_true] at h
    cases k with
    | zero =>
      have : z = x := by simpa using hx
      subst this
      have := h.1
      rw [hc] at this
      simpa using this
    | succ k =>
      have := chk_ok zs (n - 1) (by simp at hl; omega) h.2 k x (by simpa using hx) hc
      rwa [show n - 1 - 1 - k = n - 1 - (k + 1) by omega] at this

theorem ordGo_ok : ∀ (ys es : List Row) (n : Nat), es.length = n → ordGo es n ys = true → ∀ i j x y, i < j → (es.reverse ++ ys)[i]? = some x → (es.reverse ++ ys)[j]? = some y → n ≤ j → clash x y = true → y.mask.testBit i = true
  | [], es, n, hl, _, i, j, x, y, _, _, hy, hn, _ => by
    have := (List.getElem?_eq_some_iff.1 hy).1
    simp [hl] at this
    omega
  | z :: zs, es, n, hl, h, i, j, x, y, hij, hx, hy, hn, hc => by
    simp only [ordGo, Bool.and_eq_true] at h
    by_cases hj : j = n
    · subst hj
      have hyz : z = y := by
        rw [List.getElem?_append_right (by simp [hl])] at hy
        simpa [hl] using hy
      subst hyz
      rw [List.getElem?_append_left (by simp; omega), List.getElem?_reverse (by omega)] at hx
      have := chk_ok es j hl h.1 (es.length - 1 - i) x hx hc
      rwa [show j - 1 - (es.length - 1 - i) = i by omega] at this
    · exact ordGo_ok zs (z :: es) (n + 1) (by simp [hl]) h.2 i j x y hij (by simpa using hx) (by simpa using hy) (by omega) hc

def rowsOf (ops : Array Oper) : List Oper → List Rec → List Nat → List Row
  | o :: l, r :: rs, k :: ks => ⟨slotsOf o ++ (guardSlot ops o).toList, o.dst, r, k⟩ :: rowsOf ops l rs ks
  | _, _, _ => []

theorem rowsOf_get {ops : Array Oper} : ∀ (l : List Oper) (rs : List Rec) (ks : List Nat) (i : Nat) (o : Oper) (r : Rec) (k : Nat), l[i]? = some o → rs[i]? = some r → ks[i]? = some k →
    (rowsOf ops l rs ks)[i]? = some ⟨slotsOf o ++ (guardSlot ops o).toList, o.dst, r, k⟩
  | [], _, _, i, _, _, _, h, _, _ => by simp at h
  | _ :: _, [], _, i, _, _, _, _, h, _ => by simp at h
  | _ :: _, _ :: _, [], i, _, _, _, _, _, h => by simp at h
  | o :: l, r :: rs, k :: ks, 0, o', r', k', h1, h2, h3 => by simp at h1 h2 h3; subst h1 h2 h3; rfl
  | o :: l, r :: rs, k :: ks, i + 1, o', r', k', h1, h2, h3 => by
    simp only [rowsOf, List.getElem?_cons_succ]
    exact rowsOf_get l rs ks i o' r' k' (by simpa using h1) (by simpa using h2) (by simpa using h3)

def backOk : Nat → List Oper → Bool
  | _, [] => true
  | n, o :: l => o.after.toList.all (fun e => !Region.binds .any e || Nat.blt e.on n) && backOk (n + 1) l

theorem backOk_ok : ∀ (l : List Oper) (n j : Nat) (o : Oper) (e : Edge), backOk n l = true → l[j]? = some o → e ∈ o.after → Region.binds .any e = true → e.on < n + j
  | [], _, j, _, _, _, h, _, _ => by simp at h
  | o :: l, n, 0, o', e, h, ho, he, hb => by
    simp only [backOk, Bool.and_eq_true] at h
    have : o = o' := by simpa using ho
    subst this
    have := List.all_eq_true.1 h.1 e (by simpa using he)
    rw [hb] at this
    have h2 : Nat.blt e.on n = true := by simpa using this
    exact Nat.lt_of_succ_le (Nat.le_of_ble_eq_true h2)
  | o :: l, n, j + 1, o', e, h, ho, he, hb => by
    simp only [backOk, Bool.and_eq_true] at h
    have := backOk_ok l (n + 1) j o' e h.2 (by simpa using ho) he hb
    omega

/-- The check: 'recs': what each operation touched, the last one first. -/
def ordOk (ops : Array Oper) (recs : List Rec) : Bool :=
  backOk 0 ops.toList && ordGo [] 0 (rowsOf ops ops.toList recs.reverse (masks [] 0 ops.toList).reverse)

section
variable {P : Program} {ops : Array Oper}

/-- Operations 0 .. i-1 of a region have been gone through. -/
def RegOk (P : Program) (ops : Array Oper) (a0 : List Value) (m0 : List Blk) (i : Nat) (a : List Value) (m : List Blk) (recs : List Rec) : Prop :=
  ∃ (A : Nat → List Value) (M : Nat → List Blk) (F : Nat → Fp), A 0 = a0 ∧ M 0 = m0 ∧ A i = a ∧ M i = m ∧ (∀ k, k < i → StepAt P ops k (A k) (M k) (A (k + 1)) (M (k + 1)) (F k)) ∧
    recs.length = i ∧ ∀ k, k < i → recs.reverse[k]? = some ⟨F k, (M k).length, (M (k + 1)).length⟩

theorem RegOk.start (a0 : List Value) (m0 : List Blk) : RegOk P ops a0 m0 0 a0 m0 [] :=
  ⟨fun _ => a0, fun _ => m0, fun _ => ⟨[], []⟩, rfl, rfl, rfl, rfl, fun k hk => by omega, rfl, fun k hk => by omega⟩

theorem RegOk.next {a0 a a' : List Value} {m0 m m' : List Blk} {i : Nat} {recs : List Rec} {fp : Fp} (h : RegOk P ops a0 m0 i a m recs) (hs : StepAt P ops i a m a' m' fp) :
    RegOk P ops a0 m0 (i + 1) a' m' (⟨fp, m.length, m'.length⟩ :: recs) := by
  obtain ⟨A, M, F, h1, h2, h3, h4, h5, h6, h7⟩ := h
  refine ⟨fun k => if k ≤ i then A k else a', fun k => if k ≤ i then M k else m', fun k => if k < i then F k else fp, by simp [h1], by simp [h2], if_neg (by omega), if_neg (by omega), fun k hk => ?_, by simp [h6], fun k hk => ?_⟩
  · by_cases hki : k < i
    · have e1 : k ≤ i := by omega
      have e2 : k + 1 ≤ i := by omega
      simp only [e1, e2, hki, if_true]
      exact h5 k hki
    · have : k = i := by omega
      subst this
      have e2 : ¬ k + 1 ≤ k := by omega
      simp only [Nat.le_refl, e2, if_true, if_false, Nat.lt_irrefl, h3, h4]
      exact hs
  · by_cases hki : k < i
    · have e1 : k ≤ i := by omega
      have e2 : k + 1 ≤ i := by omega
      simp only [e1, e2, hki, if_true, List.reverse_cons]
      rw [List.getElem?_append_left (by simp; omega)]
      exact h7 k hki
    · have : k = i := by omega
      subst this
      have e2 : ¬ k + 1 ≤ k := by omega
      simp only [Nat.le_refl, e2, if_true, if_false, Nat.lt_irrefl, h4, List.reverse_cons]
      rw [List.getElem?_append_right (by simp [h6])]
      simp [h6]

/-- What a state of the canonical machine asks of a real one. -/
structure Rel (ι : Map) (a : List Value) (m : List Blk) (t : Array Value) (w : World) : Prop where
  size : a.length ≤ t.size
  slots : ∀ x, RV ι (a.getD x undef) (t.getD x undef)
  sim : Sim ι (at_ m) w
  dom : ∀ b, ι b ≠ none → b < m.length

theorem conflict_clash {M : Nat → List Blk} {F : Nat → Fp} {i j : Nat} {o o' : Oper} (ho : ops[i]? = some o) (ho' : ops[j]? = some o') {k k' : Nat} (h : conflict ops M F i j) :
    clash ⟨slotsOf o ++ (guardSlot ops o).toList, o.dst, ⟨F i, (M i).length, (M (i + 1)).length⟩, k⟩ ⟨slotsOf o' ++ (guardSlot ops o').toList, o'.dst, ⟨F j, (M j).length, (M (j + 1)).length⟩, k'⟩ = true := by
  have hd : dstOf ops i = o.dst := by simp [dstOf, ho]
  have hd' : dstOf ops j = o'.dst := by simp [dstOf, ho']
  have hr : rdS ops i = slotsOf o ++ (guardSlot ops o).toList := by simp [rdS, ho]
  have hr' : rdS ops j = slotsOf o' ++ (guardSlot ops o').toList := by simp [rdS, ho']
  unfold clash
  rcases h with ⟨x, h1, h2⟩ | ⟨x, h1, h2⟩ | ⟨b, h1, h2⟩ | ⟨b, h1, h2⟩
  · rw [hd] at h1
    rw [hr', hd'] at h2
    simp only [h1]
    rcases h2 with h2 | h2
    · have : (slotsOf o' ++ (guardSlot ops o').toList).contains x = true := by simpa using h2
      simp only [this, Bool.true_or]
    · simp [h2]
  · rw [hd'] at h1
    rw [hr] at h2
    simp only [h1]
    have : (slotsOf o ++ (guardSlot ops o).toList).contains x = true := by simpa using h2
    simp only [this, Bool.true_or, Bool.or_true]
  · simp only [wrB, Bool.or_eq_true, Bool.and_eq_true, decide_eq_true_eq, List.contains_eq_mem] at h1
    rw [hits_of (x := ⟨F i, (M i).length, (M (i + 1)).length⟩) (y := ⟨F j, (M j).length, (M (j + 1)).length⟩) h1 h2]
    simp
  · simp only [wrB, Bool.or_eq_true, Bool.and_eq_true, decide_eq_true_eq, List.contains_eq_mem] at h1
    rw [hits_of (x := ⟨F j, (M j).length, (M (j + 1)).length⟩) (y := ⟨F i, (M i).length, (M (i + 1)).length⟩) h1 h2]
    simp

/-- A REGION, GONE THROUGH: in whatever order. -/
theorem RegOk.wp {a0 a : List Value} {m0 m : List Blk} {recs : List Rec} {id : Nat} {draw : Bool} (hm : P.follows .mixedOrders = true) (h : RegOk P ops a0 m0 ops.size a m recs) (hord : draw = true → ordOk ops recs = true)
    {ι : Map} {t : Array Value} {w : World} (hr : Rel ι a0 m0 t w) {Q : Exit → Act → World → Prop} (hQ : ∀ t' w' ι', Rel ι' a m t' w' → Ext ι (at_ m0) w ι' (at_ m) w' → Q .normal (act t') w') :
    (Code.region id ops draw).wp P Q (act t) w := by
  obtain ⟨A, M, F, rfl, rfl, rfl, rfl, h5, h6, h7⟩ := h
  have lenA : ∀ k, k ≤ ops.size → (A k).length = (A 0).length := by
    intro k
    induction k with
    | zero => intro _; rfl
    | succ k ih => intro hk; rw [(step_facts (h5 k (by omega))).2.2.2.2.1]; exact ih (by omega)
  have fin : ∀ t' w' ι', (A 0).length ≤ t'.size → (∀ x, RV ι' ((A ops.size).getD x undef) (t'.getD x undef)) → Sim ι' (at_ (M ops.size)) w' → (∀ b, ι' b ≠ none → b < (M ops.size).length) →
      Ext ι (at_ (M 0)) w ι' (at_ (M ops.size)) w' → Q .normal (act t') w' := fun t' w' ι' h1 h2 h3 h4 h5 => hQ t' w' ι' ⟨by rw [lenA _ (Nat.le_refl _)]; exact h1, h2, h3, h4⟩ h5
  cases draw with
  | false => exact wp_region (region_seq h5 hr.size hr.slots hr.sim hr.dom fin)
  | true =>
    have hord := hord rfl
    simp only [ordOk, Bool.and_eq_true] at hord
    refine region_draw hm h5 (fun j o e ho he hb => ?_) (fun i j hij hj hc => ?_) hr.size hr.slots hr.sim hr.dom fin
    · have := backOk_ok ops.toList 0 j o e hord.1 (by simpa using ho) he hb
      omega
    · have hi : i < ops.size := by omega
      have hmask := masks_ok (ops := ops) ops.toList [] 0 ⟨rfl, fun j i hj => by omega⟩ (fun k => by simp)
      simp only [Array.length_toList, Nat.zero_add] at hmask
      have gi : ∀ k, k < ops.size → (masks [] 0 ops.toList).reverse[k]? = some ((masks [] 0 ops.toList).getD (ops.size - 1 - k) 0) := fun k hk => by
        rw [List.getElem?_reverse (by rw [hmask.1]; exact hk), hmask.1, List.getD_eq_getElem?_getD]
        have : ops.size - 1 - k < (masks [] 0 ops.toList).length := by rw [hmask.1]; omega
        simp [this]
      have ri := rowsOf_get (ops := ops) ops.toList recs.reverse (masks [] 0 ops.toList).reverse i ops[i] _ _ (by simp) (h7 i hi) (gi i hi)
      have rj := rowsOf_get (ops := ops) ops.toList recs.reverse (masks [] 0 ops.toList).reverse j ops[j] _ _ (by simp) (h7 j hj) (gi j hj)
      have := ordGo_ok _ [] 0 rfl hord.2 i j _ _ hij (by simpa using ri) (by simpa using rj) (by omega) (conflict_clash (by simp [hi]) (by simp [hj]) hc)
      exact hmask.2 j i hj this

end
end Go.Dt
