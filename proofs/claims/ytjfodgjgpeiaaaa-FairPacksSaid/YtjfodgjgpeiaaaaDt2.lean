/- Regions: one canonical walk, in the order of the text, serves every order that the edges allow, where the walk's footprints let it. -/
import Derived.Test.YtjfodgjgpeiaaaaDt1
namespace Go.Dt

/-- What a step touches: blocks (all; those written). -/
structure Fp where
  rd : List Nat
  wr : List Nat

def at_ (m : List Blk) : Cont := fun b => m.getD b .gone

/-- Blocks touched or new. -/
def tch (rd : List Nat) (lo hi : Nat) : Nat → Bool := fun b => rd.contains b || (decide (lo ≤ b) && decide (b < hi))
def isIn (l : List Nat) : Nat → Bool := fun b => l.contains b

def slotsOf (o : Oper) : List Nat := o.op.operands.toList.filterMap fun | .tmp t => some t | _ => none

def act (t : Array Value) : Act := ⟨t, []⟩

/-- An operation, carried out where the canonical slots and blocks that it looks at stand for the real ones, does what is said. -/
structure OpOk (P : Program) (o : Oper) (a : List Value) (m : List Blk) (v : Value) (m' : List Blk) (fp : Fp) : Prop where
  len : m.length ≤ m'.length
  sub : ∀ b, b ∈ fp.wr → b ∈ fp.rd
  rdlt : ∀ b, b ∈ fp.rd → b < m.length
  same : ∀ b, b < m.length → b ∉ fp.wr → m'.getD b .gone = m.getD b .gone
  run : ∀ (ι : Map) (t : Array Value) (w : World), (∀ x, x ∈ slotsOf o → RV ι (a.getD x undef) (t.getD x undef)) →
    (∀ b, m.length ≤ b → b < m'.length → ι b = none) → Sim ι ((at_ m).only (isIn fp.rd)) w →
    ∀ (next : Act → World → Prop) (Q : Exit → Act → World → Prop),
      (∀ v' w1 ι', RV ι' v v' → Ext ι ((at_ m).only (isIn fp.rd)) w ι' ((at_ m').only (tch fp.rd m.length m'.length)) w1 →
        Sim ι' ((at_ m').only (tch fp.rd m.length m'.length)) w1 → (∀ b, ι b = none → ι' b ≠ none → m.length ≤ b ∧ b < m'.length) → next ((act t).put o.dst v') w1) →
      o.wp P (act t) w next Q

def put (a : List Value) (d : Option Nat) (v : Value) : List Value :=
  match d with
  | some d => a.set d v
  | none => a

/-- The slot that a guard reads. -/
def guardSlot (ops : Array Oper) (o : Oper) : Option Nat :=
  match o.guard with
  | none => none
  | some (j, _) => (ops[j]?).bind (·.dst)

/-- Is it wanted, as far as is known? -/
def wantedC (ops : Array Oper) (o : Oper) (a : List Value) : Option Bool :=
  match o.guard with
  | none => some true
  | some (j, want) =>
    match (ops[j]?).bind (·.dst) with
    | none => none
    | some d => match a.getD d undef with
      | .bool b => some (b == want)
      | .chan none => some false
      | _ => none

/-- One step of a region: operation i. -/
inductive StepAt (P : Program) (ops : Array Oper) (i : Nat) (a : List Value) (m : List Blk) : List Value → List Blk → Fp → Prop
  | skip {o : Oper} (ho : ops[i]? = some o) (hw : wantedC ops o a = some false) : StepAt P ops i a m (put a o.dst (.chan none)) m ⟨[], []⟩
  | op {o : Oper} {v : Value} {m' : List Blk} {fp : Fp} (ho : ops[i]? = some o) (hw : wantedC ops o a = some true) (h : OpOk P o a m v m' fp) :
      StepAt P ops i a m (put a o.dst v) m' fp

theorem getD_put {a : List Value} {d : Option Nat} {v : Value} {x : Nat} (h : d ≠ some x) : (put a d v).getD x undef = a.getD x undef := by
  cases d with
  | none => rfl
  | some d =>
    have : d ≠ x := fun e => h (e ▸ rfl)
    simp [put, List.getD_eq_getElem?_getD, this]

theorem length_put (a : List Value) (d : Option Nat) (v : Value) : (put a d v).length = a.length := by cases d <;> simp [put]

theorem rv_put {ι : Map} {a : List Value} {t : Array Value} {d : Option Nat} {v v' : Value} (hs : a.length ≤ t.size) (hv : RV ι v v') (x : Nat)
    (h : RV ι (a.getD x undef) (t.getD x undef)) : RV ι ((put a d v).getD x undef) (((act t).put d v').tmps.getD x undef) := by
  cases d with
  | none => exact h
  | some d =>
    simp only [Act.put, act]
    by_cases hdx : d = x
    · subst hdx
      by_cases hl : d < a.length
      · have h1 : (put a (some d) v).getD d undef = v := by simp [put, List.getD_eq_getElem?_getD, hl]
        have h2 : (t.setIfInBounds d v').getD d undef = v' := by
          have : d < t.size := by omega
          simp [Array.getD_eq_getD_getElem?, this]
        rw [h1, h2]; exact hv
      · have h1 : (put a (some d) v).getD d undef = undef := by
          simp [put, List.getD_eq_getElem?_getD, List.getElem?_eq_none (l := a.set d v) (i := d) (by simp; omega)]
        rw [h1]; exact .any _
    · rw [getD_put (by simpa using hdx)]
      have h2 : (t.setIfInBounds d v').getD x undef = t.getD x undef := by
        simp [Array.getD_eq_getD_getElem?, Array.getElem?_setIfInBounds_ne hdx]
      rw [h2]; exact h

theorem RV.bool_inv {ι : Map} {b : Bool} {v : Value} (h : RV ι (.bool b) v) : v = .bool b := by
  cases h; rfl

/-- What the canonical guard says, the real one says. -/
theorem wanted_of {ops : Array Oper} {o : Oper} {a : List Value} {t : Array Value} {ι : Map} {b : Bool} (h : wantedC ops o a = some b)
    (hr : ∀ x, guardSlot ops o = some x → RV ι (a.getD x undef) (t.getD x undef)) : Region.wanted o (yielded ops t) = b := by
  unfold wantedC at h
  unfold Region.wanted
  cases hg : o.guard with
  | none => simp only [hg] at h; cases h; rfl
  | some g =>
    obtain ⟨j, want⟩ := g
    simp only [hg] at h
    cases hd : (ops[j]?).bind (·.dst) with
    | none => simp only [hd] at h; cases h
    | some d =>
      simp only [hd] at h
      have hr' := hr d (by simp [guardSlot, hg, hd])
      cases hv : a.getD d undef with
      | bool c =>
        simp only [hv] at h
        cases h
        rw [hv] at hr'
        have ht := hr'.bool_inv
        have hlt : t[d]? = some (.bool c) := by
          rw [Array.getD_eq_getD_getElem?] at ht
          cases hx : t[d]? with
          | none => rw [hx] at ht; simp [undef] at ht
          | some u => rw [hx] at ht; simp at ht; rw [ht]
        simp only []
        have hy : yielded ops t j = some c := by
          unfold yielded
          rw [hd]
          simp [hlt]
        rw [hy]
        cases c <;> cases want <;> rfl
      | chan r =>
        cases r with
        | some _ => simp only [hv] at h; cases h
        | none =>
          simp only [hv] at h
          cases h
          rw [hv] at hr'
          have ht : t.getD d undef = undef := by
            generalize t.getD d undef = u at hr'
            cases hr'
            rfl
          have hy : yielded ops t j = none := by
            unfold yielded
            rw [hd]
            rw [Array.getD_eq_getD_getElem?] at ht
            cases hx : t[d]? with
            | none => simp [hx]
            | some u =>
              rw [hx] at ht
              have hu : u = undef := ht
              subst hu
              simp [hx, undef]
          simp only []
          rw [hy]
          cases want <;> rfl
      | _ => simp only [hv] at h; cases h

/-! ### The last writer -/
def cur (wr S : Nat → Bool) : Nat → Nat
  | 0 => 0
  | k + 1 => if S k && wr k then k + 1 else cur wr S k

theorem cur_congr {wr S S' : Nat → Bool} : ∀ n, (∀ k, k < n → wr k = true → S k = S' k) → cur wr S n = cur wr S' n
  | 0, _ => rfl
  | n + 1, h => by
    simp only [cur]
    rw [cur_congr n (fun k hk => h k (by omega))]
    cases hw : wr n with
    | false => simp
    | true => rw [h n (by omega) hw]

theorem cur_above {wr S : Nat → Bool} {i : Nat} : ∀ n, i ≤ n → (∀ k, i ≤ k → k < n → wr k = true → S k = false) → cur wr S n = cur wr S i
  | 0, h, _ => by rw [Nat.le_zero.1 h]
  | n + 1, h, hk => by
    by_cases e : i = n + 1
    · rw [e]
    · simp only [cur]
      have : (S n && wr n) = false := by
        cases hw : wr n with
        | false => simp
        | true => rw [hk n (by omega) (by omega) hw]; rfl
      rw [this]
      exact cur_above n (by omega) (fun k h1 h2 => hk k h1 (by omega))

theorem cur_read {wr S : Nat → Bool} {n i : Nat} (hi : i ≤ n) (h1 : ∀ k, k < i → wr k = true → S k = true) (h2 : ∀ k, i ≤ k → k < n → wr k = true → S k = false) :
    cur wr S n = cur wr (fun _ => true) i := by
  rw [cur_above n hi h2]
  exact cur_congr i h1

theorem cur_state {α : Type} {wr : Nat → Bool} {X : Nat → α} : ∀ i, (∀ k, k < i → wr k = false → X (k + 1) = X k) → X (cur wr (fun _ => true) i) = X i
  | 0, _ => rfl
  | i + 1, h => by
    simp only [cur, Bool.true_and]
    cases hw : wr i with
    | true => simp
    | false =>
      simp only [Bool.false_eq_true, if_false]
      rw [h i (by omega) hw]
      exact cur_state i (fun k hk => h k (by omega))

def ins (S : Nat → Bool) (i : Nat) : Nat → Bool := fun k => S k || k == i

theorem cur_ins_other {wr S : Nat → Bool} {i n : Nat} (h : wr i = false) : cur wr (ins S i) n = cur wr S n :=
  cur_congr n fun k _ hw => by
    have : k ≠ i := fun e => by rw [e, h] at hw; cases hw
    simp [ins, this]

theorem cur_ins_self {wr S : Nat → Bool} {i n : Nat} (hi : i < n) (h : wr i = true) (h2 : ∀ k, i < k → k < n → wr k = true → S k = false) : cur wr (ins S i) n = i + 1 := by
  rw [cur_above (i := i + 1) n (by omega) (fun k h1 h3 hw => by
    have hne : k ≠ i := by omega
    simp [ins, hne, h2 k (by omega) h3 hw])]
  simp [cur, ins, h]

end Go.Dt
