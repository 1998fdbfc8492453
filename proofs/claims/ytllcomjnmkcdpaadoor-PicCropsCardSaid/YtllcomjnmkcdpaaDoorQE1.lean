/- Several texts in one: Dt1, Dt2, Dt3. -/
import Derived.Orders
namespace Go.Dt

section


/-- Where a canonical block lies: the real block, the first cell, how many cells there are from there on, an element's size; 'ro': it is only read. -/
structure Loc where
  blk : Nat
  off : Nat
  room : Nat
  sz : Nat
  ro : Bool := false

/-- Where canonical blocks lie; which real blocks stand for good, with what they hold. -/
structure Map where
  loc : Nat → Option Loc
  fro : Nat → Option (Array Value)
instance : CoeFun Map (fun _ => Nat → Option Loc) := ⟨Map.loc⟩

/-- The mark of a slice that is known by what it holds, and will never be written; of an address within one. -/
abbrev frzT : Nat := 4000000000
abbrev frpT : Nat := 4000000001
abbrev empT : Nat := 4000000002
abbrev anyT : Nat := 4000000003
/-- A slice of n elements, by its cells. -/
abbrev frz (n : Nat) (c : List Value) : Value := .iface frzT (.tuple ⟨[.int .i64 n, .agg ⟨c⟩]⟩)
/-- A slice of nothing, with no room. -/
abbrev emp : Value := .iface empT (.bool true)
/-- A truth value that is not known. -/
abbrev anyB : Value := .iface anyT (.bool true)
/-- An address within such cells. -/
abbrev frp (c : List Value) (off : Nat) : Value := .iface frpT (.tuple ⟨[.int .i64 off, .agg ⟨c⟩]⟩)

/-! ### Values that hang on no block of one's own -/
mutual
def pureV : Value → Bool
  | .bool _ | .int _ _ | .float _ _ | .string _ | .nilFunc | .nilIface => true
  | .pointer none | .slice none _ _ | .map none => true
  | .iface t v => bif Nat.blt t frzT then pureV v else true
  | .func _ ⟨xs⟩ ⟨ys⟩ => pures xs && pures ys
  | .agg ⟨l⟩ => pures l
  | .tuple ⟨l⟩ => !l.isEmpty && pures l
  | _ => false
def pures : List Value → Bool
  | [] => true
  | v :: l => pureV v && pures l
end

/-- A canonical value and a real one. 'undef' stands for whatever it may be. -/
inductive RV (ι : Map) : Value → Value → Prop
  | any (v : Value) : RV ι undef v
  | skip : RV ι (.chan none) undef
  | bool (b : Bool) : RV ι (.bool b) (.bool b)
  | int (k : IntKind) (n : Int) : RV ι (.int k n) (.int k n)
  | float (k : FloatKind) (n : Nat) : RV ι (.float k n) (.float k n)
  | string (s : ByteArray) : RV ι (.string s) (.string s)
  | nilp : RV ι (.pointer none) (.pointer none)
  | ptr {b o : Nat} {L : Loc} (h : ι b = some L) : RV ι (.pointer (some ⟨b, o, none⟩)) (.pointer (some ⟨L.blk, L.off + o, none⟩))
  | nils (l c : Nat) : RV ι (.slice none l c) (.slice none l c)
  | slice {b o l c c' : Nat} {L : Loc} (h : ι b = some L) (hc : c ≤ c') (hr : L.ro = false → c ≠ c' → o + c' * L.sz ≤ L.room) :
      RV ι (.slice (some ⟨b, o, none⟩) l c) (.slice (some ⟨L.blk, L.off + o, none⟩) l c')
  | slice0 (x y : Addr) : RV ι (.slice (some x) 0 0) (.slice (some y) 0 0)
  | nilm : RV ι (.map none) (.map none)
  | map {b : Nat} {L : Loc} (h : ι b = some L) : RV ι (.map (some b)) (.map (some L.blk))
  | func (fn : Fn) {xs xs' ys ys' : Array Value} (hx : xs.size = xs'.size) (hy : ys.size = ys'.size)
      (h : ∀ i : Nat, RV ι (xs.getD i undef) (xs'.getD i undef)) (h' : ∀ i : Nat, RV ι (ys.getD i undef) (ys'.getD i undef)) : RV ι (.func fn xs ys) (.func fn xs' ys')
  | nilFunc : RV ι .nilFunc .nilFunc
  | yld {b : Nat} {L : Loc} (h : ι b = some L) : RV ι (.chan (some b)) (.func (.yield L.blk) #[] #[])
  | iface (t : TypeId) {v v' : Value} (ht : t < frzT) (h : RV ι v v') : RV ι (.iface t v) (.iface t v')
  | frz {n : Nat} {c : List Value} {r o cap : Nat} {cr : Array Value} (h : ι.fro r = some cr) (hn : n ≤ cap) (hp : pures c = true) (hfit : o + c.length ≤ cr.size) (hc : ∀ i : Nat, i < c.length → RV ι (c.getD i undef) (cr.getD (o + i) undef)) :
      RV ι (frz n c) (.slice (some ⟨r, o, none⟩) n cap)
  | frzN : RV ι (frz 0 []) (.slice none 0 0)
  | frzE (x : Addr) (cap : Nat) : RV ι (frz 0 []) (.slice (some x) 0 cap)
  | empN : RV ι emp (.slice none 0 0)
  | empE (x : Addr) : RV ι emp (.slice (some x) 0 0)
  | anyB (b : Bool) : RV ι anyB (.bool b)
  | frp {c : List Value} {off r o : Nat} {cr : Array Value} (h : ι.fro r = some cr) (hp : pures c = true) (hfit : o + c.length ≤ cr.size) (hc : ∀ i : Nat, i < c.length → RV ι (c.getD i undef) (cr.getD (o + i) undef)) :
      RV ι (frp c off) (.pointer (some ⟨r, o + off, none⟩))
  | nilIface : RV ι .nilIface .nilIface
  | agg {cs cs' : Array Value} (hs : cs.size = cs'.size) (h : ∀ i : Nat, RV ι (cs.getD i undef) (cs'.getD i undef)) : RV ι (.agg cs) (.agg cs')
  | tuple {cs cs' : Array Value} (hs : cs.size = cs'.size) (h : ∀ i : Nat, RV ι (cs.getD i undef) (cs'.getD i undef)) : RV ι (.tuple cs) (.tuple cs')

structure Le (ι ι' : Map) : Prop where
  loc : ∀ b L, ι b = some L → ι' b = some L
  fro : ∀ r c, ι.fro r = some c → ι'.fro r = some c
instance (ι ι' : Map) : CoeFun (Le ι ι') (fun _ => ∀ b L, ι b = some L → ι' b = some L) := ⟨Le.loc⟩
theorem Le.refl (ι : Map) : Le ι ι := ⟨fun _ _ h => h, fun _ _ h => h⟩
theorem Le.trans {a b c : Map} (h : Le a b) (k : Le b c) : Le a c := ⟨fun x L hx => k x L (h x L hx), fun x L hx => k.fro x L (h.fro x L hx)⟩

theorem RV.mono {ι ι' : Map} (hle : Le ι ι') {v v' : Value} (h : RV ι v v') : RV ι' v v' := by
  induction h with
  | any v => exact .any v
  | skip => exact .skip
  | bool b => exact .bool b
  | int k n => exact .int k n
  | float k n => exact .float k n
  | string s => exact .string s
  | nilp => exact .nilp
  | ptr h => exact .ptr (hle _ _ h)
  | nils l c => exact .nils l c
  | slice h hc hr => exact .slice (hle _ _ h) hc hr
  | slice0 x y => exact .slice0 x y
  | nilm => exact .nilm
  | map h => exact .map (hle _ _ h)
  | func fn hx hy _ _ i1 i2 => exact .func fn hx hy i1 i2
  | nilFunc => exact .nilFunc
  | yld h => exact .yld (hle _ _ h)
  | iface t ht _ ih => exact .iface t ht ih
  | frz h hn hp hfit _ ih => exact .frz (hle.fro _ _ h) hn hp hfit ih
  | frzN => exact .frzN
  | frzE x cap => exact .frzE x cap
  | empN => exact .empN
  | empE x => exact .empE x
  | anyB b => exact .anyB b
  | frp h hp hfit _ ih => exact .frp (hle.fro _ _ h) hp hfit ih
  | nilIface => exact .nilIface
  | agg hs _ ih => exact .agg hs ih
  | tuple hs _ ih => exact .tuple hs ih

/-- A canonical block. -/
inductive Blk where
  | cells (c : List Value) (sz : Nat) (rw : Bool)
  | map (es : List MapEntry) (clock : Nat)
  | gone

def Blk.own : Blk → Bool
  | .cells _ _ rw => rw
  | .map _ _ => true
  | .gone => false
def Blk.live : Blk → Bool
  | .gone => false
  | _ => true
theorem Blk.live_of_own {b : Blk} (h : b.own = true) : b.live = true := by cases b <;> simp_all [Blk.own, Blk.live]

def EntryOk (ι : Map) (e e' : MapEntry) : Prop := RV ι e.key e'.key ∧ RV ι e.val e'.val ∧ e.born = e'.born

def BlkOk (ι : Map) (w : World) (b : Nat) : Blk → Prop
  | .cells c sz rw => ∃ L c' t fz, ι b = some L ∧ w.heap[L.blk]? = some (.cells c' t fz) ∧ L.off + c.length ≤ c'.size ∧
      (rw = true → fz = (0, 0) ∧ c'.size = L.off + L.room ∧ L.sz = sz ∧ L.ro = false) ∧ (rw = false → L.ro = true) ∧ ∀ i, i < c.length → RV ι (c.getD i undef) (c'.getD (L.off + i) undef)
  | .map es clock => ∃ L es', ι b = some L ∧ w.heap[L.blk]? = some (.map es' clock) ∧ es.length = es'.size ∧
      ∀ (i : Nat) (e e' : MapEntry), es[i]? = some e → es'[i]? = some e' → EntryOk ι e e'
  | .gone => True

abbrev Cont := Nat → Blk

def OwnR (ι : Map) (C : Cont) (k : Nat) : Prop := ∃ b L, (C b).own = true ∧ ι b = some L ∧ L.blk = k
def LiveR (ι : Map) (C : Cont) (k : Nat) : Prop := ∃ b L, (C b).live = true ∧ ι b = some L ∧ L.blk = k

structure Sim (ι : Map) (C : Cont) (w : World) : Prop where
  blk : ∀ b, BlkOk ι w b (C b)
  sep : ∀ b b2 L L2, b ≠ b2 → (C b).own = true → (C b2).live = true → ι b = some L → ι b2 = some L2 → L.blk ≠ L2.blk
  fro : ∀ r c, ι.fro r = some c → ∃ t fz, w.heap[r]? = some (.cells c t fz)
  apart : ∀ b L r c, (C b).own = true → ι b = some L → ι.fro r = some c → L.blk ≠ r

theorem BlkOk.loc {ι : Map} {w : World} {b : Nat} {x : Blk} (h : BlkOk ι w b x) (hl : x.live = true) : ∃ L, ι b = some L ∧ L.blk < w.heap.size := by
  cases x with
  | cells c sz rw =>
    obtain ⟨L, c', t, fz, hL, hh, _⟩ := h
    exact ⟨L, hL, (Array.getElem?_eq_some_iff.1 hh).1⟩
  | map es clock =>
    obtain ⟨L, es', hL, hh, _⟩ := h
    exact ⟨L, hL, (Array.getElem?_eq_some_iff.1 hh).1⟩
  | gone => cases hl

theorem BlkOk.keep {ι ι' : Map} {w w' : World} {b : Nat} {x : Blk} (h : BlkOk ι w b x) (hle : Le ι ι') (hk : x.live = true → ∀ L, ι b = some L → w'.heap[L.blk]? = w.heap[L.blk]?) : BlkOk ι' w' b x := by
  cases x with
  | cells c sz rw =>
    obtain ⟨L, c', t, fz, hL, hh, hs, hr, hro, hc⟩ := h
    exact ⟨L, c', t, fz, hle _ _ hL, by rw [hk rfl L hL]; exact hh, hs, hr, hro, fun i hi => (hc i hi).mono hle⟩
  | map es clock =>
    obtain ⟨L, es', hL, hh, hs, he⟩ := h
    exact ⟨L, es', hle _ _ hL, by rw [hk rfl L hL]; exact hh, hs, fun i e e' h1 h2 => ⟨(he i e e' h1 h2).1.mono hle, (he i e e' h1 h2).2.1.mono hle, (he i e e' h1 h2).2.2⟩⟩
  | gone => trivial

/-- What a step may have done to a world: what it does not own is as it was. -/
structure Ext (ι : Map) (C : Cont) (w : World) (ι' : Map) (C' : Cont) (w' : World) : Prop where
  le : Le ι ι'
  size : w.heap.size ≤ w'.heap.size
  os : w'.os = w.os
  tape : w'.tape = w.tape
  output : w'.output = w.output
  frame : ∀ k, k < w.heap.size → ¬ OwnR ι C k → w'.heap[k]? = w.heap[k]?
  own : ∀ k, OwnR ι' C' k → OwnR ι C k ∨ w.heap.size ≤ k
  live : ∀ k, LiveR ι' C' k → LiveR ι C k ∨ w.heap.size ≤ k
  fro : ∀ r c, ι'.fro r = some c → ι.fro r = some c ∨ OwnR ι C r ∨ w.heap.size ≤ r

theorem Ext.refl (ι : Map) (C : Cont) (w : World) : Ext ι C w ι C w := ⟨Le.refl _, Nat.le_refl _, rfl, rfl, rfl, fun _ _ _ => rfl, fun _ h => .inl h, fun _ h => .inl h, fun _ _ h => .inl h⟩

theorem Ext.drew {ι ι' : Map} {C C' : Cont} {w w' : World} {n : Nat} (h : Ext ι C { w with drawn := n } ι' C' w') : Ext ι C w ι' C' w' := ⟨h.le, h.size, h.os, h.tape, h.output, h.frame, h.own, h.live, h.fro⟩

theorem Ext.trans {ι ι' ι'' : Map} {C C' C'' : Cont} {w w' w'' : World} (h : Ext ι C w ι' C' w') (k : Ext ι' C' w' ι'' C'' w'') : Ext ι C w ι'' C'' w'' where
  le := h.le.trans k.le
  size := Nat.le_trans h.size k.size
  os := k.os.trans h.os
  tape := k.tape.trans h.tape
  output := k.output.trans h.output
  frame := fun x hx hn => (k.frame x (Nat.lt_of_lt_of_le hx h.size) (fun ho => (h.own x ho).elim hn (fun hge => absurd hx (Nat.not_lt.2 hge)))).trans (h.frame x hx hn)
  own := fun x ho => (k.own x ho).elim (h.own x) (fun hge => .inr (Nat.le_trans h.size hge))
  live := fun x ho => (k.live x ho).elim (h.live x) (fun hge => .inr (Nat.le_trans h.size hge))
  fro := fun r c hr => by
    rcases k.fro r c hr with h1 | h1 | h1
    · exact h.fro r c h1
    · exact (h.own r h1).elim (fun h2 => .inr (.inl h2)) (fun h2 => .inr (.inr h2))
    · exact .inr (.inr (Nat.le_trans h.size h1))

/-- Only some blocks of a memory. -/
def Cont.only (C : Cont) (R : Nat → Bool) : Cont := fun b => if R b then C b else .gone

theorem Sim.only {ι : Map} {C : Cont} {w : World} (h : Sim ι C w) (R : Nat → Bool) : Sim ι (C.only R) w where
  blk := fun b => by
    unfold Cont.only
    split
    · exact h.blk b
    · trivial
  sep := fun b b2 L L2 hne ho hl => by
    unfold Cont.only at ho hl
    split at ho
    · split at hl
      · exact h.sep b b2 L L2 hne ho hl
      · cases hl
    · cases ho
  fro := h.fro
  apart := fun b L r c ho => by
    unfold Cont.only at ho
    split at ho
    · exact h.apart b L r c ho
    · cases ho

/-- THE FRAME: what a step does to the blocks that it touches, it does in any greater memory. -/
theorem Sim.frame {ι ι' : Map} {C C' D : Cont} {w w' : World} {R T : Nat → Bool} (hs : Sim ι C w) (hRT : ∀ b, R b = true → T b = true)
    (he : Ext ι (C.only R) w ι' (C'.only T) w') (hs' : Sim ι' (C'.only T) w') (hD : ∀ b, D b = if T b then C' b else C b) :
    Sim ι' D w' ∧ Ext ι C w ι' D w' := by
  have old : ∀ b, T b = false → (C b).live = true → ∃ L, ι b = some L ∧ L.blk < w.heap.size ∧ ι' b = some L := fun b hb hl => by
    obtain ⟨L, hL, hlt⟩ := (hs.blk b).loc hl
    exact ⟨L, hL, hlt, he.le _ _ hL⟩
  have ownOnly : ∀ k, OwnR ι (C.only R) k → OwnR ι C k := fun k ⟨b, L, ho, hL, hk⟩ => by
    unfold Cont.only at ho
    split at ho
    · exact ⟨b, L, ho, hL, hk⟩
    · cases ho
  have liveOnly : ∀ k, LiveR ι (C.only R) k → LiveR ι C k := fun k ⟨b, L, ho, hL, hk⟩ => by
    unfold Cont.only at ho
    split at ho
    · exact ⟨b, L, ho, hL, hk⟩
    · cases ho
  have inT : ∀ b, T b = true → (C'.only T) b = C' b := fun b hb => by simp [Cont.only, hb]
  have far : ∀ b L, T b = false → (C b).live = true → ι b = some L → ∀ b0 L0, ((C.only R) b0).own = true → ι b0 = some L0 → L0.blk ≠ L.blk := fun b L hb hl hL b0 L0 ho hL0 => by
    unfold Cont.only at ho
    split at ho
    · rename_i hR0
      have hne : b0 ≠ b := fun e => by have := hRT _ hR0; rw [e, hb] at this; cases this
      exact hs.sep b0 b L0 L hne ho hl hL0 hL
    · cases ho
  constructor
  · constructor
    · intro b
      rw [hD]
      cases hb : T b with
      | true =>
        simp only [if_true]
        have := hs'.blk b
        rwa [inT b hb] at this
      | false =>
        refine (hs.blk b).keep he.le fun hl L hL => ?_
        obtain ⟨L', hL', hlt, _⟩ := old b hb hl
        rw [hL] at hL'; cases hL'
        exact he.frame _ hlt fun ⟨b0, L0, ho, hL0, hk⟩ => far b L hb hl hL b0 L0 ho hL0 hk
    · intro b b2 L L2 hne ho hl hL hL2
      rw [hD] at ho hl
      cases hb : T b with
      | true =>
        simp only [hb, if_true] at ho
        cases hb2 : T b2 with
        | true =>
          simp only [hb2, if_true] at hl
          exact hs'.sep b b2 L L2 hne (by rw [inT b hb]; exact ho) (by rw [inT b2 hb2]; exact hl) hL hL2
        | false =>
          simp only [hb2] at hl
          obtain ⟨L2', hL2', hlt, hL2''⟩ := old b2 hb2 hl
          rw [hL2] at hL2''; cases hL2''
          rcases he.own L.blk ⟨b, L, by rw [inT b hb]; exact ho, hL, rfl⟩ with ⟨b0, L0, ho0, hL0, hk⟩ | hge
          · rw [← hk]; exact far b2 L2 hb2 hl hL2' b0 L0 ho0 hL0
          · omega
      | false =>
        simp only [hb] at ho
        obtain ⟨L', hL', hlt, hL''⟩ := old b hb (Blk.live_of_own ho)
        rw [hL] at hL''; cases hL''
        cases hb2 : T b2 with
        | true =>
          simp only [hb2, if_true] at hl
          rcases he.live L2.blk ⟨b2, L2, by rw [inT b2 hb2]; exact hl, hL2, rfl⟩ with ⟨b0, L0, hl0, hL0, hk⟩ | hge
          · unfold Cont.only at hl0
            split at hl0
            · rename_i hR0
              have hne : b ≠ b0 := fun e => by have := hRT _ hR0; rw [← e, hb] at this; cases this
              rw [← hk]; exact hs.sep b b0 L L0 hne ho hl0 hL' hL0
            · cases hl0
          · omega
        | false =>
          simp only [hb2] at hl
          obtain ⟨L2', hL2', _, hL2''⟩ := old b2 hb2 hl
          rw [hL2] at hL2''; cases hL2''
          exact hs.sep b b2 L L2 hne ho hl hL' hL2'
    · exact hs'.fro
    · intro b L r c ho hL hr
      rw [hD] at ho
      cases hb : T b with
      | true =>
        simp only [hb, if_true] at ho
        exact hs'.apart b L r c (by rw [inT b hb]; exact ho) hL hr
      | false =>
        simp only [hb] at ho
        obtain ⟨L', hL', hlt, hL''⟩ := old b hb (Blk.live_of_own ho)
        rw [hL] at hL''; cases hL''
        rcases he.fro r c hr with h | ⟨b0, L0, ho0, hL0, hk⟩ | h
        · exact hs.apart b L r c ho hL' h
        · rw [← hk]; exact Ne.symm (far b L hb (Blk.live_of_own ho) hL' b0 L0 ho0 hL0)
        · omega
  · refine ⟨he.le, he.size, he.os, he.tape, he.output, fun k hk hn => he.frame k hk (fun h => hn (ownOnly k h)), fun k => ?_, fun k => ?_, fun r c hr => (he.fro r c hr).imp id (Or.imp (ownOnly r) id)⟩
    · rintro ⟨b, L, ho, hL, hk⟩
      rw [hD] at ho
      cases hb : T b with
      | true =>
        simp only [hb, if_true] at ho
        exact (he.own k ⟨b, L, by rw [inT b hb]; exact ho, hL, hk⟩).imp (ownOnly k) id
      | false =>
        simp only [hb] at ho
        obtain ⟨L', hL', _, hL''⟩ := old b hb (Blk.live_of_own ho)
        rw [hL] at hL''; cases hL''
        exact .inl ⟨b, L, ho, hL', hk⟩
    · rintro ⟨b, L, ho, hL, hk⟩
      rw [hD] at ho
      cases hb : T b with
      | true =>
        simp only [hb, if_true] at ho
        exact (he.live k ⟨b, L, by rw [inT b hb]; exact ho, hL, hk⟩).imp (liveOnly k) id
      | false =>
        simp only [hb] at ho
        obtain ⟨L', hL', _, hL''⟩ := old b hb ho
        rw [hL] at hL''; cases hL''
        exact .inl ⟨b, L, ho, hL', hk⟩

end

section


/-- What a step touches: blocks (all; those written). -/
structure Fp where
  rd : List Nat
  wr : List Nat

def at_ (m : List Blk) : Cont := fun b => m.getD b .gone

/-- Blocks touched or new. -/
def tch (rd : List Nat) (lo hi : Nat) : Nat → Bool := fun b => rd.contains b || (decide (lo ≤ b) && decide (b < hi))
def isIn (l : List Nat) : Nat → Bool := fun b => l.contains b

def slotsOf (o : Oper) : List Nat := o.op.operands.toList.filterMap fun | .tmp t => some t | _ => none

def act (t : Array Value) : Act := ⟨t, []⟩

/-- An operation, carried out where the canonical slots and blocks that it looks at stand for the real ones, does what is said. -/
structure OpOk (P : Program) (o : Oper) (a : List Value) (m : List Blk) (v : Value) (m' : List Blk) (fp : Fp) : Prop where
  len : m.length ≤ m'.length
  sub : ∀ b, b ∈ fp.wr → b ∈ fp.rd
  rdlt : ∀ b, b ∈ fp.rd → b < m.length
  same : ∀ b, b < m.length → b ∉ fp.wr → m'.getD b .gone = m.getD b .gone
  run : ∀ (ι : Map) (t : Array Value) (w : World), (∀ x, x ∈ slotsOf o → RV ι (a.getD x undef) (t.getD x undef)) →
    (∀ b, m.length ≤ b → b < m'.length → ι b = none) → Sim ι ((at_ m).only (isIn fp.rd)) w →
    ∀ (next : Act → World → Prop) (Q : Exit → Act → World → Prop),
      (∀ v' w1 ι', RV ι' v v' → Ext ι ((at_ m).only (isIn fp.rd)) w ι' ((at_ m').only (tch fp.rd m.length m'.length)) w1 →
        Sim ι' ((at_ m').only (tch fp.rd m.length m'.length)) w1 → (∀ b, ι b = none → ι' b ≠ none → m.length ≤ b ∧ b < m'.length) → next ((act t).put o.dst v') w1) →
      o.wp P (act t) w next Q

def put (a : List Value) (d : Option Nat) (v : Value) : List Value :=
  match d with
  | some d => a.set d v
  | none => a

/-- The slot that a guard reads. -/
def guardSlot (ops : Array Oper) (o : Oper) : Option Nat :=
  match o.guard with
  | none => none
  | some (j, _) => (ops[j]?).bind (·.dst)

/-- Is it wanted, as far as is known? -/
def wantedC (ops : Array Oper) (o : Oper) (a : List Value) : Option Bool :=
  match o.guard with
  | none => some true
  | some (j, want) =>
    match (ops[j]?).bind (·.dst) with
    | none => none
    | some d => match a.getD d undef with
      | .bool b => some (b == want)
      | .chan none => some false
      | _ => none

/-- One step of a region: operation i. -/
inductive StepAt (P : Program) (ops : Array Oper) (i : Nat) (a : List Value) (m : List Blk) : List Value → List Blk → Fp → Prop
  | skip {o : Oper} (ho : ops[i]? = some o) (hw : wantedC ops o a = some false) : StepAt P ops i a m (put a o.dst (.chan none)) m ⟨[], []⟩
  | op {o : Oper} {v : Value} {m' : List Blk} {fp : Fp} (ho : ops[i]? = some o) (hw : wantedC ops o a = some true) (h : OpOk P o a m v m' fp) :
      StepAt P ops i a m (put a o.dst v) m' fp

/-- As a step; or one that reads a block where it holds either of two things (sf: the block, the other thing). -/
inductive StepS (P : Program) (ops : Array Oper) (i : Nat) (a : List Value) (m : List Blk) : List Value → List Blk → Fp → Option (Nat × Blk) → Prop
  | hard {a' : List Value} {m' : List Blk} {fp : Fp} (h : StepAt P ops i a m a' m' fp) : StepS P ops i a m a' m' fp none
  | soft {o : Oper} {v : Value} {fp : Fp} {b : Nat} {x : Blk} (ho : ops[i]? = some o) (hw : wantedC ops o a = some true) (h : OpOk P o a m v m fp) (h2 : OpOk P o a (m.set b x) v (m.set b x) fp) (hwr : fp.wr = []) (hb : b < m.length) :
      StepS P ops i a m (put a o.dst v) m ⟨fp.rd.filter (fun r => !Nat.beq r b), []⟩ (some (b, x))

theorem getD_put {a : List Value} {d : Option Nat} {v : Value} {x : Nat} (h : d ≠ some x) : (put a d v).getD x undef = a.getD x undef := by
  cases d with
  | none => rfl
  | some d =>
    have : d ≠ x := fun e => h (e ▸ rfl)
    simp [put, List.getD_eq_getElem?_getD, this]

theorem length_put (a : List Value) (d : Option Nat) (v : Value) : (put a d v).length = a.length := by cases d <;> simp [put]

theorem rv_put {ι : Map} {a : List Value} {t : Array Value} {d : Option Nat} {v v' : Value} (hs : a.length ≤ t.size) (hv : RV ι v v') (x : Nat)
    (h : RV ι (a.getD x undef) (t.getD x undef)) : RV ι ((put a d v).getD x undef) (((act t).put d v').tmps.getD x undef) := by
  cases d with
  | none => exact h
  | some d =>
    simp only [Act.put, act]
    by_cases hdx : d = x
    · subst hdx
      by_cases hl : d < a.length
      · have h1 : (put a (some d) v).getD d undef = v := by simp [put, List.getD_eq_getElem?_getD, hl]
        have h2 : (t.setIfInBounds d v').getD d undef = v' := by
          have : d < t.size := by omega
          simp [Array.getD_eq_getD_getElem?, this]
        rw [h1, h2]; exact hv
      · have h1 : (put a (some d) v).getD d undef = undef := by
          simp [put, List.getD_eq_getElem?_getD, List.getElem?_eq_none (l := a.set d v) (i := d) (by simp; omega)]
        rw [h1]; exact .any _
    · rw [getD_put (by simpa using hdx)]
      have h2 : (t.setIfInBounds d v').getD x undef = t.getD x undef := by
        simp [Array.getD_eq_getD_getElem?, Array.getElem?_setIfInBounds_ne hdx]
      rw [h2]; exact h

theorem RV.bool_inv {ι : Map} {b : Bool} {v : Value} (h : RV ι (.bool b) v) : v = .bool b := by
  cases h; rfl

/-- What the canonical guard says, the real one says. -/
theorem wanted_of {ops : Array Oper} {o : Oper} {a : List Value} {t : Array Value} {ι : Map} {b : Bool} (h : wantedC ops o a = some b)
    (hr : ∀ x, guardSlot ops o = some x → RV ι (a.getD x undef) (t.getD x undef)) : Region.wanted o (yielded ops t) = b := by
  unfold wantedC at h
  unfold Region.wanted
  cases hg : o.guard with
  | none => simp only [hg] at h; cases h; rfl
  | some g =>
    obtain ⟨j, want⟩ := g
    simp only [hg] at h
    cases hd : (ops[j]?).bind (·.dst) with
    | none => simp only [hd] at h; cases h
    | some d =>
      simp only [hd] at h
      have hr' := hr d (by simp [guardSlot, hg, hd])
      cases hv : a.getD d undef with
      | bool c =>
        simp only [hv] at h
        cases h
        rw [hv] at hr'
        have ht := hr'.bool_inv
        have hlt : t[d]? = some (.bool c) := by
          rw [Array.getD_eq_getD_getElem?] at ht
          cases hx : t[d]? with
          | none => rw [hx] at ht; simp [undef] at ht
          | some u => rw [hx] at ht; simp at ht; rw [ht]
        simp only []
        have hy : yielded ops t j = some c := by
          unfold yielded
          rw [hd]
          simp [hlt]
        rw [hy]
        cases c <;> cases want <;> rfl
      | chan r =>
        cases r with
        | some _ => simp only [hv] at h; cases h
        | none =>
          simp only [hv] at h
          cases h
          rw [hv] at hr'
          have ht : t.getD d undef = undef := by
            generalize t.getD d undef = u at hr'
            cases hr'
            rfl
          have hy : yielded ops t j = none := by
            unfold yielded
            rw [hd]
            rw [Array.getD_eq_getD_getElem?] at ht
            cases hx : t[d]? with
            | none => simp [hx]
            | some u =>
              rw [hx] at ht
              have hu : u = undef := ht
              subst hu
              simp [hx, undef]
          simp only []
          rw [hy]
          cases want <;> rfl
      | _ => simp only [hv] at h; cases h

/-! ### The last writer -/
def cur (wr S : Nat → Bool) : Nat → Nat
  | 0 => 0
  | k + 1 => if S k && wr k then k + 1 else cur wr S k

theorem cur_congr {wr S S' : Nat → Bool} : ∀ n, (∀ k, k < n → wr k = true → S k = S' k) → cur wr S n = cur wr S' n
  | 0, _ => rfl
  | n + 1, h => by
    simp only [cur]
    rw [cur_congr n (fun k hk => h k (by omega))]
    cases hw : wr n with
    | false => simp
    | true => rw [h n (by omega) hw]

theorem cur_above {wr S : Nat → Bool} {i : Nat} : ∀ n, i ≤ n → (∀ k, i ≤ k → k < n → wr k = true → S k = false) → cur wr S n = cur wr S i
  | 0, h, _ => by rw [Nat.le_zero.1 h]
  | n + 1, h, hk => by
    by_cases e : i = n + 1
    · rw [e]
    · simp only [cur]
      have : (S n && wr n) = false := by
        cases hw : wr n with
        | false => simp
        | true => rw [hk n (by omega) (by omega) hw]; rfl
      rw [this]
      exact cur_above n (by omega) (fun k h1 h2 => hk k h1 (by omega))

theorem cur_read {wr S : Nat → Bool} {n i : Nat} (hi : i ≤ n) (h1 : ∀ k, k < i → wr k = true → S k = true) (h2 : ∀ k, i ≤ k → k < n → wr k = true → S k = false) :
    cur wr S n = cur wr (fun _ => true) i := by
  rw [cur_above n hi h2]
  exact cur_congr i h1

theorem cur_state {α : Type} {wr : Nat → Bool} {X : Nat → α} : ∀ i, (∀ k, k < i → wr k = false → X (k + 1) = X k) → X (cur wr (fun _ => true) i) = X i
  | 0, _ => rfl
  | i + 1, h => by
    simp only [cur, Bool.true_and]
    cases hw : wr i with
    | true => simp
    | false =>
      simp only [Bool.false_eq_true, if_false]
      rw [h i (by omega) hw]
      exact cur_state i (fun k hk => h k (by omega))

def ins (S : Nat → Bool) (i : Nat) : Nat → Bool := fun k => S k || k == i

theorem cur_ins_other {wr S : Nat → Bool} {i n : Nat} (h : wr i = false) : cur wr (ins S i) n = cur wr S n :=
  cur_congr n fun k _ hw => by
    have : k ≠ i := fun e => by rw [e, h] at hw; cases hw
    simp [ins, this]

theorem cur_ins_self {wr S : Nat → Bool} {i n : Nat} (hi : i < n) (h : wr i = true) (h2 : ∀ k, i < k → k < n → wr k = true → S k = false) : cur wr (ins S i) n = i + 1 := by
  rw [cur_above (i := i + 1) n (by omega) (fun k h1 h3 hw => by
    have hne : k ≠ i := by omega
    simp [ins, hne, h2 k (by omega) h3 hw])]
  simp [cur, ins, h]

end

section


section
variable {P : Program} {ops : Array Oper} {A : Nat → List Value} {M : Nat → List Blk} {F : Nat → Fp} {SF : Nat → Option (Nat × Blk)}

def dstOf (ops : Array Oper) (k : Nat) : Option Nat := (ops[k]?).bind (·.dst)
/-- Does operation k write slot x? block b? -/
def wrS (ops : Array Oper) (x k : Nat) : Bool := dstOf ops k == some x
def wrB (M : Nat → List Blk) (F : Nat → Fp) (b k : Nat) : Bool := (F k).wr.contains b || (decide ((M k).length ≤ b) && decide (b < (M (k + 1)).length))
/-- What operation k looks at. -/
def rdS (ops : Array Oper) (k : Nat) : List Nat := match ops[k]? with
  | none => []
  | some o => slotsOf o ++ (guardSlot ops o).toList

def slotAt (ops : Array Oper) (A : Nat → List Value) (S : Nat → Bool) (x : Nat) : Value := (A (cur (wrS ops x) S ops.size)).getD x undef
def contAt (ops : Array Oper) (M : Nat → List Blk) (F : Nat → Fp) (S : Nat → Bool) : Cont := fun b => (M (cur (wrB M F b) S ops.size)).getD b .gone

structure Inv (ops : Array Oper) (A : Nat → List Value) (M : Nat → List Blk) (F : Nat → Fp) (ι0 : Map) (w0 : World) (S : Nat → Bool) (ι : Map) (t : Array Value) (w : World) : Prop where
  size : (A 0).length ≤ t.size
  slots : ∀ x, RV ι (slotAt ops A S x) (t.getD x undef)
  sim : Sim ι (contAt ops M F S) w
  dom : ∀ b, ι b ≠ none → b < (M 0).length ∨ ∃ k, k < ops.size ∧ S k = true ∧ (M k).length ≤ b ∧ b < (M (k + 1)).length
  ext : Ext ι0 (at_ (M 0)) w0 ι (contAt ops M F S) w

/-- Operation i may come now. -/
structure Fits (ops : Array Oper) (M : Nat → List Blk) (F : Nat → Fp) (S : Nat → Bool) (i : Nat) : Prop where
  slot : ∀ x, (x ∈ rdS ops i ∨ dstOf ops i = some x) → (∀ k, k < i → wrS ops x k = true → S k = true) ∧ (∀ k, i < k → k < ops.size → wrS ops x k = true → S k = false)
  block : ∀ b, (b ∈ (F i).rd ∨ ((M i).length ≤ b ∧ b < (M (i + 1)).length)) → (∀ k, k < i → wrB M F b k = true → S k = true) ∧ (∀ k, i < k → k < ops.size → wrB M F b k = true → S k = false)

theorem step_facts {i : Nat} (h : StepS P ops i (A i) (M i) (A (i + 1)) (M (i + 1)) (F i) (SF i)) :
    (M i).length ≤ (M (i + 1)).length ∧ (∀ b, b ∈ (F i).wr → b ∈ (F i).rd) ∧ (∀ b, b ∈ (F i).rd → b < (M i).length) ∧
    (∀ b, b < (M i).length → b ∉ (F i).wr → (M (i + 1)).getD b .gone = (M i).getD b .gone) ∧ (A (i + 1)).length = (A i).length ∧
    ∀ x, dstOf ops i ≠ some x → (A (i + 1)).getD x undef = (A i).getD x undef := by
  generalize hA : A (i + 1) = A' at *
  generalize hM : M (i + 1) = M' at *
  generalize hF : F i = F' at *
  generalize hS : SF i = S' at *
  cases h with
  | hard h =>
    cases h with
    | skip ho hw =>
      refine ⟨Nat.le_refl _, by simp, by simp, fun _ _ _ => rfl, length_put _ _ _, fun x hx => getD_put ?_⟩
      simpa [dstOf, ho] using hx
    | op ho hw h =>
      refine ⟨h.len, h.sub, h.rdlt, h.same, length_put _ _ _, fun x hx => getD_put ?_⟩
      simpa [dstOf, ho] using hx
  | soft ho hw h h2 hwr hb =>
    refine ⟨Nat.le_refl _, by simp, fun r hr => h.rdlt r (List.mem_filter.1 hr).1, fun _ _ _ => rfl, length_put _ _ _, fun x hx => getD_put ?_⟩
    simpa [dstOf, ho] using hx

theorem inv_step {ι0 : Map} {w0 : World} {S : Nat → Bool} {ι : Map} {t : Array Value} {w : World} {i : Nat} (hall : ∀ k, k < ops.size → StepS P ops k (A k) (M k) (A (k + 1)) (M (k + 1)) (F k) (SF k))
    (hi : i < ops.size) (hS : S i = false) (hf : Fits ops M F S i) (hsoft : ∀ b x, SF i = some (b, x) → contAt ops M F S b = (M i).getD b .gone ∨ contAt ops M F S b = x) (hinv : Inv ops A M F ι0 w0 S ι t w) (next : Act → World → Prop) (Q : Exit → Act → World → Prop)
    (hn : ∀ t' w' ι', Inv ops A M F ι0 w0 (ins S i) ι' t' w' → next (act t') w') : wpOp P ops Q i next (act t) w := by
  have lenM : ∀ k, k ≤ ops.size → ∀ j, j ≤ k → (M j).length ≤ (M k).length := by
    intro k
    induction k with
    | zero => intro _ j hj; rw [Nat.le_zero.1 hj]; exact Nat.le_refl _
    | succ k ih =>
      intro hk j hj
      rcases Nat.eq_or_lt_of_le hj with e | hlt
      · rw [e]; exact Nat.le_refl _
      · exact Nat.le_trans (ih (by omega) j (by omega)) (step_facts (hall k (by omega))).1
  have lenA : ∀ k, k ≤ ops.size → (A k).length = (A 0).length := by
    intro k
    induction k with
    | zero => intro _; rfl
    | succ k ih => intro hk; rw [(step_facts (hall k (by omega))).2.2.2.2.1]; exact ih (by omega)
  have stS : ∀ x k, k < ops.size → wrS ops x k = false → (A (k + 1)).getD x undef = (A k).getD x undef := fun x k hk hw =>
    (step_facts (hall k hk)).2.2.2.2.2 x (by simpa [wrS] using hw)
  have stB : ∀ b k, k < ops.size → wrB M F b k = false → (M (k + 1)).getD b .gone = (M k).getD b .gone := fun b k hk hw => by
    simp only [wrB, Bool.or_eq_false_iff, Bool.and_eq_false_iff, decide_eq_false_iff_not] at hw
    obtain ⟨hw1, hw2⟩ := hw
    by_cases hb : b < (M k).length
    · exact (step_facts (hall k hk)).2.2.2.1 b hb (by simpa using hw1)
    · have h2 : ¬ b < (M (k + 1)).length := by omega
      simp [List.getD_eq_getElem?_getD, List.getElem?_eq_none (Nat.le_of_not_lt hb), List.getElem?_eq_none (Nat.le_of_not_lt h2)]
  have slotNow : ∀ x, (x ∈ rdS ops i ∨ dstOf ops i = some x) → slotAt ops A S x = (A i).getD x undef := fun x hx => by
    unfold slotAt
    rw [cur_read (Nat.le_of_lt hi) (hf.slot x hx).1 (fun k h1 h2 hw => by
      rcases Nat.eq_or_lt_of_le h1 with e | h1
      · rw [← e]; exact hS
      · exact (hf.slot x hx).2 k h1 h2 hw)]
    exact cur_state (X := fun k => (A k).getD x undef) i (fun k hk hw => stS x k (by omega) hw)
  have blockNow : ∀ b, (b ∈ (F i).rd ∨ ((M i).length ≤ b ∧ b < (M (i + 1)).length)) → contAt ops M F S b = (M i).getD b .gone := fun b hb => by
    unfold contAt
    rw [cur_read (Nat.le_of_lt hi) (hf.block b hb).1 (fun k h1 h2 hw => by
      rcases Nat.eq_or_lt_of_le h1 with e | h1
      · rw [← e]; exact hS
      · exact (hf.block b hb).2 k h1 h2 hw)]
    exact cur_state (X := fun k => (M k).getD b .gone) i (fun k hk hw => stB b k (by omega) hw)
  have slotThen : ∀ x, slotAt ops A (ins S i) x = if wrS ops x i then (A (i + 1)).getD x undef else slotAt ops A S x := fun x => by
    unfold slotAt
    cases hw : wrS ops x i with
    | true => simp only [if_true]; rw [cur_ins_self hi hw ((hf.slot x (.inr (by simpa [wrS] using hw))).2)]
    | false => simp only [Bool.false_eq_true, if_false]; rw [cur_ins_other hw]
  have facts := step_facts (hall i hi)
  have blockThen : ∀ b, contAt ops M F (ins S i) b = if wrB M F b i then (M (i + 1)).getD b .gone else contAt ops M F S b := fun b => by
    unfold contAt
    cases hw : wrB M F b i with
    | true =>
      simp only [if_true]
      rw [cur_ins_self hi hw ((hf.block b ?_).2)]
      simp only [wrB, Bool.or_eq_true, Bool.and_eq_true, decide_eq_true_eq, List.contains_eq_mem] at hw
      exact hw.imp (facts.2.1 b) id
    | false => simp only [Bool.false_eq_true, if_false]; rw [cur_ins_other hw]
  have lenAt : ∀ k, k ≤ ops.size → (A k).length ≤ t.size := fun k hk => by rw [lenA k hk]; exact hinv.size
  have domLt : ∀ b, ι b ≠ none → b < (M i).length ∨ (M (i + 1)).length ≤ b := fun b hb => by
    rcases hinv.dom b hb with h | ⟨k, hk, hSk, h1, h2⟩
    · exact .inl (Nat.lt_of_lt_of_le h (lenM i (by omega) 0 (by omega)))
    · have hne : k ≠ i := fun e => by rw [e, hS] at hSk; cases hSk
      rcases Nat.lt_or_gt_of_ne hne with h | h
      · exact .inl (Nat.lt_of_lt_of_le h2 (lenM i (by omega) (k + 1) (by omega)))
      · exact .inr (Nat.le_trans (lenM k (by omega) (i + 1) (by omega)) h1)
  -- what is left to show of the invariant behind the step
  have close : ∀ (t' : Array Value) (w' : World) (ι' : Map), t'.size = t.size → (∀ x, RV ι' (slotAt ops A (ins S i) x) (t'.getD x undef)) → Sim ι' (contAt ops M F (ins S i)) w' →
      (∀ b, ι b = none → ι' b ≠ none → (M i).length ≤ b ∧ b < (M (i + 1)).length) → Ext ι (contAt ops M F S) w ι' (contAt ops M F (ins S i)) w' → next (act t') w' := fun t' w' ι' h1 h2 h3 h4 h5 => by
    refine hn t' w' ι' ⟨by rw [h1]; exact hinv.size, h2, h3, fun b hb => ?_, hinv.ext.trans h5⟩
    cases hb0 : ι b with
    | none => exact .inr ⟨i, hi, by simp [ins], h4 b hb0 hb⟩
    | some L => exact (hinv.dom b (by simp [hb0])).imp id (fun ⟨k, hk, hSk, h⟩ => ⟨k, hk, by simp [ins, hSk], h⟩)
  have hstep := hall i hi
  unfold wpOp
  cases hstep' : ops[i]? with
  | none => exact absurd hstep' (by simp [hi])
  | some o =>
    simp only []
    have hd : dstOf ops i = o.dst := by simp [dstOf, hstep']
    have hwi : ∀ x, wrS ops x i = (o.dst == some x) := fun x => by simp [wrS, hd]
    have hrd : rdS ops i = slotsOf o ++ (guardSlot ops o).toList := by simp [rdS, hstep']
    have rvNow : ∀ x, x ∈ rdS ops i → RV ι ((A i).getD x undef) (t.getD x undef) := fun x hx => by rw [← slotNow x (.inl hx)]; exact hinv.slots x
    have guardOk : ∀ x, guardSlot ops o = some x → RV ι ((A i).getD x undef) (t.getD x undef) := fun x hx => rvNow x (by rw [hrd]; simp [hx])
    have newSlots : ∀ (v v' : Value) (ι' : Map), A (i + 1) = put (A i) o.dst v → Le ι ι' → RV ι' v v' → ∀ x, RV ι' (slotAt ops A (ins S i) x) (((act t).put o.dst v').tmps.getD x undef) := fun v v' ι' hA hle hv x => by
      rw [slotThen x, hwi]
      by_cases hx : o.dst = some x
      · simp only [hx, beq_self_eq_true, if_true]
        rw [hA, hx]
        exact rv_put (lenAt i (by omega)) hv x ((by rw [← slotNow x (.inr (by rw [hd, hx]))]; exact (hinv.slots x).mono hle))
      · have : (o.dst == some x) = false := by simpa using hx
        simp only [this, Bool.false_eq_true, if_false]
        have h2 : ((act t).put o.dst v').tmps.getD x undef = t.getD x undef := by
          cases hdd : o.dst with
          | none => rfl
          | some d =>
            have : d ≠ x := fun e => hx (by rw [hdd, e])
            simp [Act.put, act, Array.getElem?_setIfInBounds_ne this]
        rw [h2]
        exact (hinv.slots x).mono hle
    have putSize : ∀ v', ((act t).put o.dst v').tmps.size = t.size := fun v' => by cases o.dst <;> simp [Act.put, act]
    have putAct : ∀ v', (act t).put o.dst v' = act ((act t).put o.dst v').tmps := fun v' => by cases o.dst <;> rfl
    generalize hA' : A (i + 1) = A' at *
    generalize hM' : M (i + 1) = M' at *
    generalize hF' : F i = F' at *
    generalize hSF' : SF i = SF' at *
    cases hstep with
    | hard hstep => cases hstep with
      | skip ho hw =>
        rw [hstep'] at ho; cases ho
        have hwant : Region.wanted o (yielded ops (act t).tmps) = false := wanted_of hw guardOk
        rw [if_neg (by rw [hwant]; exact Bool.false_ne_true)]
        rw [putAct]
        have hcont : contAt ops M F (ins S i) = contAt ops M F S := by
          funext b
          rw [blockThen b]
          have : wrB M F b i = false := by
            simp only [wrB, hF', hM', List.contains_nil, Bool.false_or, Bool.and_eq_false_iff, decide_eq_false_iff_not]
            omega
          simp [this]
        refine close _ w ι (putSize _) (newSlots (.chan none) undef ι rfl (Le.refl _) .skip) (by rw [hcont]; exact hinv.sim) (fun b h1 h2 => absurd h1 h2) (by rw [hcont]; exact Ext.refl _ _ _)
      | op ho hw hop =>
        rename_i o2 v
        rw [hstep'] at ho; cases ho
        have hwant : Region.wanted o (yielded ops (act t).tmps) = true := wanted_of hw guardOk
        rw [if_pos hwant]
        refine .inl ?_
        have hCin : (contAt ops M F S).only (isIn F'.rd) = (at_ (M i)).only (isIn F'.rd) := by
          funext b
          unfold Cont.only isIn
          split
          · rename_i hb
            exact blockNow b (.inl (by simpa using hb))
          · rfl
        refine hop.run ι t w (fun x hx => rvNow x (by rw [hrd]; exact List.mem_append_left _ hx)) (fun b h1 h2 => ?_) (by rw [← hCin]; exact hinv.sim.only _) next Q ?_
        · cases hb : ι b with
          | none => rfl
          | some L => have := domLt b (by simp [hb]); omega
        · intro v' w1 ι' hv hext hsim hdom
          have hfr := Sim.frame (C := contAt ops M F S) (C' := at_ M') (D := contAt ops M F (ins S i)) (R := isIn F'.rd) (T := tch F'.rd (M i).length M'.length) hinv.sim
            (fun b hb => by simp only [isIn] at hb; unfold tch; rw [hb]; rfl) (by rw [hCin]; exact hext) hsim (fun b => by
              rw [blockThen b]
              cases hT : tch F'.rd (M i).length M'.length b with
              | true =>
                simp only [if_true]
                cases hwb : wrB M F b i with
                | true => simp [at_]
                | false =>
                  simp only [Bool.false_eq_true, if_false]
                  have hbr : b ∈ F'.rd := by
                    simp only [tch, Bool.or_eq_true, Bool.and_eq_true, decide_eq_true_eq, List.contains_eq_mem] at hT
                    simp only [wrB, hF', hM', Bool.or_eq_false_iff, Bool.and_eq_false_iff, decide_eq_false_iff_not] at hwb
                    rcases hT with h | h
                    · exact h
                    · have := hwb.2; omega
                  rw [blockNow b (.inl hbr)]
                  have := stB b i hi hwb
                  rw [hM'] at this
                  exact this.symm
              | false =>
                simp only [Bool.false_eq_true, if_false]
                have : wrB M F b i = false := by
                  cases hwb : wrB M F b i with
                  | false => rfl
                  | true =>
                    simp only [wrB, hF', hM', Bool.or_eq_true, Bool.and_eq_true, decide_eq_true_eq, List.contains_eq_mem] at hwb
                    simp only [tch, Bool.or_eq_false_iff, Bool.and_eq_false_iff, decide_eq_false_iff_not, List.contains_eq_mem] at hT
                    rcases hwb with h | h
                    · exact absurd (hop.sub b h) hT.1
                    · omega
                simp [this])
          rw [putAct]
          exact close _ w1 ι' (putSize _) (newSlots v v' ι' rfl hext.le hv) hfr.1 (fun b h1 h2 => by have := hdom b h1 h2; omega) hfr.2
    | soft ho hw h h2 hwr hb =>
      rename_i o2 v fp b x
      rw [hstep'] at ho; cases ho
      have hwant : Region.wanted o (yielded ops (act t).tmps) = true := wanted_of hw guardOk
      rw [if_pos hwant]
      refine .inl ?_
      have hwB : ∀ r, wrB M F r i = false := fun r => by
        simp only [wrB, hF', hM', List.contains_nil, Bool.false_or, Bool.and_eq_false_iff, decide_eq_false_iff_not]
        omega
      have hcont : contAt ops M F (ins S i) = contAt ops M F S := by
        funext r
        rw [blockThen r, hwB r]; simp
      have hother : ∀ r, r ∈ fp.rd → r ≠ b → contAt ops M F S r = (M i).getD r .gone := fun r hr hne => blockNow r (.inl (List.mem_filter.2 ⟨hr, by cases h : Nat.beq r b with | false => rfl | true => exact absurd (Nat.eq_of_beq_eq_true h) hne⟩))
      -- the memory as it is now
      have hgo : ∀ mm : List Blk, mm.length = (M i).length → OpOk P o (A i) mm v mm fp → (∀ r, r ∈ fp.rd → contAt ops M F S r = mm.getD r .gone) → o.wp P (act t) w next Q := fun mm hlen hop hag => by
        have hCin : (contAt ops M F S).only (isIn fp.rd) = (at_ mm).only (isIn fp.rd) := by
          funext r
          unfold Cont.only isIn
          split
          · rename_i hr
            exact hag r (by simpa using hr)
          · rfl
        have htch : ∀ r, tch fp.rd mm.length mm.length r = isIn fp.rd r := fun r => by
          unfold tch isIn
          have : (decide (mm.length ≤ r) && decide (r < mm.length)) = false := by
            rw [Bool.and_eq_false_iff, decide_eq_false_iff_not, decide_eq_false_iff_not]; omega
          rw [this, Bool.or_false]
        refine hop.run ι t w (fun x hx => rvNow x (by rw [hrd]; exact List.mem_append_left _ hx)) (fun r h1 h2 => by omega) (by rw [← hCin]; exact hinv.sim.only _) next Q ?_
        intro v' w1 ι' hv hext hsim hdom
        have hfr := Sim.frame (C := contAt ops M F S) (C' := at_ mm) (D := contAt ops M F (ins S i)) (R := isIn fp.rd) (T := tch fp.rd mm.length mm.length) hinv.sim
          (fun r hr => by rw [htch]; exact hr) (by rw [hCin]; exact hext) hsim (fun r => by
            rw [hcont, htch]
            split
            · rename_i hr
              exact hag r (by simpa [isIn] using hr)
            · rfl)
        rw [putAct]
        exact close _ w1 ι' (putSize _) (newSlots v v' ι' rfl hext.le hv) hfr.1 (fun r h1 h2 => by have := hdom r h1 h2; omega) hfr.2
      rcases hsoft b x rfl with hb1 | hb2
      · exact hgo (M i) rfl h fun r hr => by
          by_cases e : r = b
          · rw [e]; exact hb1
          · exact hother r hr e
      · refine hgo ((M i).set b x) (by simp) h2 fun r hr => ?_
        by_cases e : r = b
        · rw [e, hb2, List.getD_eq_getElem?_getD, List.getElem?_set_self hb]; rfl
        · rw [hother r hr e, List.getD_eq_getElem?_getD, List.getD_eq_getElem?_getD, List.getElem?_set_ne (Ne.symm e)]

theorem countP_lt {α : Type} {p q : α → Bool} {x : α} : ∀ {l : List α}, x ∈ l → p x = false → q x = true → (∀ y, y ∈ l → p y = true → q y = true) → l.countP p < l.countP q
  | [], h, _, _, _ => by cases h
  | y :: l, h, hp, hq, hpq => by
    have hle : l.countP p ≤ l.countP q := List.countP_mono_left fun z hz => hpq z (List.mem_cons_of_mem _ hz)
    rcases List.mem_cons.1 h with rfl | h
    · rw [List.countP_cons_of_neg (by simp [hp]), List.countP_cons_of_pos hq]; omega
    · have ih := countP_lt h hp hq (fun z hz => hpq z (List.mem_cons_of_mem _ hz))
      cases hpy : p y with
      | true => rw [List.countP_cons_of_pos hpy, List.countP_cons_of_pos (hpq y (by simp) hpy)]; omega
      | false =>
        rw [List.countP_cons_of_neg (by simp [hpy])]
        exact Nat.lt_of_lt_of_le ih (by rw [List.countP_cons]; omega)

/-- The beginning: nothing has been carried out. -/
theorem cur_none {wr : Nat → Bool} : ∀ n, cur wr (fun _ => false) n = 0
  | 0 => rfl
  | n + 1 => by simp [cur, cur_none n]

theorem cur_congr_wr {wr S S' : Nat → Bool} (n : Nat) (h : ∀ k, k < n → S k = S' k) : cur wr S n = cur wr S' n := cur_congr n fun k hk _ => h k hk

theorem contAt_none : contAt ops M F (fun _ => false) = at_ (M 0) := by
  funext b
  simp [contAt, cur_none, at_]

theorem slotAt_none (x : Nat) : slotAt ops A (fun _ => false) x = (A 0).getD x undef := by simp [slotAt, cur_none]

theorem inv_start {ι : Map} {t : Array Value} {w : World} {n : Nat} (hl : (A 0).length ≤ t.size) (hs : ∀ x, RV ι ((A 0).getD x undef) (t.getD x undef)) (hm : Sim ι (at_ (M 0)) w)
    (hd : ∀ b, ι b ≠ none → b < (M 0).length) : Inv ops A M F ι w (fun _ => false) ι t { w with drawn := n } where
  size := hl
  slots := fun x => by rw [slotAt_none]; exact hs x
  sim := by rw [contAt_none]; exact ⟨hm.blk, hm.sep, hm.fro, hm.apart⟩
  dom := fun b hb => .inl (hd b hb)
  ext := by rw [contAt_none]; exact ⟨Le.refl _, Nat.le_refl _, rfl, rfl, rfl, fun _ _ _ => rfl, fun _ h => .inl h, fun _ h => .inl h, fun _ _ h => .inl h⟩

/-- The end: all of it has been. -/
theorem inv_end {ι0 ι : Map} {w0 w : World} {t : Array Value} {S : Nat → Bool} (hall : ∀ k, k < ops.size → StepS P ops k (A k) (M k) (A (k + 1)) (M (k + 1)) (F k) (SF k))
    (hS : ∀ k, k < ops.size → S k = true) (h : Inv ops A M F ι0 w0 S ι t w) :
    (A 0).length ≤ t.size ∧ (∀ x, RV ι ((A ops.size).getD x undef) (t.getD x undef)) ∧ Sim ι (at_ (M ops.size)) w ∧ (∀ b, ι b ≠ none → b < (M ops.size).length) ∧ Ext ι0 (at_ (M 0)) w0 ι (at_ (M ops.size)) w := by
  have lenM : ∀ k, k ≤ ops.size → ∀ j, j ≤ k → (M j).length ≤ (M k).length := by
    intro k
    induction k with
    | zero => intro _ j hj; rw [Nat.le_zero.1 hj]; exact Nat.le_refl _
    | succ k ih =>
      intro hk j hj
      rcases Nat.eq_or_lt_of_le hj with e | hlt
      · rw [e]; exact Nat.le_refl _
      · exact Nat.le_trans (ih (by omega) j (by omega)) (step_facts (hall k (by omega))).1
  have hc : contAt ops M F S = at_ (M ops.size) := by
    funext b
    unfold contAt
    rw [cur_congr_wr (S' := fun _ => true) _ hS]
    exact cur_state (X := fun k => (M k).getD b .gone) ops.size (fun k hk hw => by
      simp only [wrB, Bool.or_eq_false_iff, Bool.and_eq_false_iff, decide_eq_false_iff_not] at hw
      obtain ⟨hw1, hw2⟩ := hw
      by_cases hb : b < (M k).length
      · exact (step_facts (hall k hk)).2.2.2.1 b hb (by simpa using hw1)
      · have h2 : ¬ b < (M (k + 1)).length := by omega
        simp [List.getD_eq_getElem?_getD, List.getElem?_eq_none (Nat.le_of_not_lt hb), List.getElem?_eq_none (Nat.le_of_not_lt h2)])
  have hs : ∀ x, slotAt ops A S x = (A ops.size).getD x undef := fun x => by
    unfold slotAt
    rw [cur_congr_wr (S' := fun _ => true) _ hS]
    exact cur_state (X := fun k => (A k).getD x undef) ops.size (fun k hk hw => (step_facts (hall k hk)).2.2.2.2.2 x (by simpa [wrS] using hw))
  refine ⟨h.size, fun x => by rw [← hs x]; exact h.slots x, by rw [← hc]; exact h.sim, fun b hb => ?_, by rw [← hc]; exact h.ext⟩
  rcases h.dom b hb with h | ⟨k, hk, _, _, h2⟩
  · exact Nat.lt_of_lt_of_le h (lenM _ (Nat.le_refl _) 0 (Nat.zero_le _))
  · exact Nat.lt_of_lt_of_le h2 (lenM _ (Nat.le_refl _) (k + 1) hk)

/-- What a block holds where all of those ahead have been, and no other one that writes it. -/
theorem cont_read (hall : ∀ k, k < ops.size → StepS P ops k (A k) (M k) (A (k + 1)) (M (k + 1)) (F k) (SF k)) {S : Nat → Bool} {i b : Nat} (hi : i ≤ ops.size) (h1 : ∀ k, k < i → wrB M F b k = true → S k = true)
    (h2 : ∀ k, i ≤ k → k < ops.size → wrB M F b k = true → S k = false) : contAt ops M F S b = (M i).getD b .gone := by
  unfold contAt
  rw [cur_read hi h1 h2]
  exact cur_state (X := fun k => (M k).getD b .gone) i (fun k hk hw => by
    simp only [wrB, Bool.or_eq_false_iff, Bool.and_eq_false_iff, decide_eq_false_iff_not] at hw
    obtain ⟨hw1, hw2⟩ := hw
    by_cases hb : b < (M k).length
    · exact (step_facts (hall k (by omega))).2.2.2.1 b hb (by simpa using hw1)
    · have h2 : ¬ b < (M (k + 1)).length := by omega
      simp [List.getD_eq_getElem?_getD, List.getElem?_eq_none (Nat.le_of_not_lt hb), List.getElem?_eq_none (Nat.le_of_not_lt h2)])
theorem cont_text (hall : ∀ k, k < ops.size → StepS P ops k (A k) (M k) (A (k + 1)) (M (k + 1)) (F k) (SF k)) {i b : Nat} (hi : i ≤ ops.size) : contAt ops M F (fun k => decide (k < i)) b = (M i).getD b .gone :=
  cont_read hall hi (fun k hk _ => by simpa using hk) (fun k hk _ _ => by simp; omega)

/-- A region that is carried out in the order of its text. -/
theorem region_seq {ι : Map} {t : Array Value} {w : World} {Q : Exit → Act → World → Prop} (hall : ∀ k, k < ops.size → StepS P ops k (A k) (M k) (A (k + 1)) (M (k + 1)) (F k) (SF k))
    (hl : (A 0).length ≤ t.size) (hs : ∀ x, RV ι ((A 0).getD x undef) (t.getD x undef)) (hm : Sim ι (at_ (M 0)) w) (hd : ∀ b, ι b ≠ none → b < (M 0).length)
    (hQ : ∀ t' w' ι', (A 0).length ≤ t'.size → (∀ x, RV ι' ((A ops.size).getD x undef) (t'.getD x undef)) → Sim ι' (at_ (M ops.size)) w' → (∀ b, ι' b ≠ none → b < (M ops.size).length) →
      Ext ι (at_ (M 0)) w ι' (at_ (M ops.size)) w' → Q .normal (act t') w') : wpOps P ops Q (List.range ops.size) (act t) w := by
  have key : ∀ d i, d + i = ops.size → ∀ ι' t' w', Inv ops A M F ι w (fun k => decide (k < i)) ι' t' w' → wpOps P ops Q (List.range' i d) (act t') w' := by
    intro d
    induction d with
    | zero =>
      intro i hi ι' t' w' hinv
      obtain ⟨h1, h2, h3, h4, h5⟩ := inv_end hall (fun k hk => by simp; omega) hinv
      exact hQ t' w' ι' h1 h2 h3 h4 h5
    | succ d ih =>
      intro i hi ι' t' w' hinv
      rw [List.range'_succ, wpOps_cons]
      refine inv_step hall (by omega) (by simp) ⟨fun x _ => ⟨fun k hk _ => by simpa using hk, fun k hk _ _ => by simp; omega⟩, fun x _ => ⟨fun k hk _ => by simpa using hk, fun k hk _ _ => by simp; omega⟩⟩ (fun b x _ => .inl (cont_text hall (by omega))) hinv _ _ (fun t2 w2 ι2 h2 => ?_)
      refine ih (i + 1) (by omega) ι2 t2 w2 ?_
      have : (ins (fun k => decide (k < i)) i) = fun k => decide (k < i + 1) := by
        funext k
        by_cases hk : k < i
        · have : k < i + 1 := by omega
          simp [ins, hk, this]
        · by_cases hk2 : k = i
          · simp [ins, hk2]
          · have : ¬ k < i + 1 := by omega
            simp [ins, hk, hk2, this]
      rwa [this] at h2
  have h0 := inv_start (ops := ops) (A := A) (M := M) (F := F) (n := w.drawn) hl hs hm hd
  have := key ops.size 0 (by omega) ι t w (by
    have e : (fun k => decide (k < 0)) = fun _ : Nat => false := by funext k; simp
    rw [e]; exact h0)
  rw [List.range_eq_range']
  exact this

/-! ### Regions that draw -/

/-- What must come ahead: by the edges, one behind the other. -/
inductive Bef (ops : Array Oper) : Nat → Nat → Prop
  | edge {j : Nat} {o : Oper} {e : Edge} (ho : ops[j]? = some o) (he : e ∈ o.after) (hb : Region.binds .any e = true) : Bef ops j e.on
  | far {j : Nat} {o : Oper} {e : Edge} {i : Nat} (ho : ops[j]? = some o) (he : e ∈ o.after) (hb : Region.binds .any e = true) (h : Bef ops e.on i) : Bef ops j i

/-- Do two operations, i ahead of j in the text, stand in each other's way? -/
def conflict (ops : Array Oper) (M : Nat → List Blk) (F : Nat → Fp) (i j : Nat) : Prop :=
  (∃ x, dstOf ops i = some x ∧ (x ∈ rdS ops j ∨ dstOf ops j = some x)) ∨ (∃ x, dstOf ops j = some x ∧ x ∈ rdS ops i) ∨
  (∃ b, wrB M F b i = true ∧ (b ∈ (F j).rd ∨ ((M j).length ≤ b ∧ b < (M (j + 1)).length))) ∨ (∃ b, wrB M F b j = true ∧ (b ∈ (F i).rd ∨ ((M i).length ≤ b ∧ b < (M (i + 1)).length)))

theorem region_draw {id : Nat} {ι : Map} {t : Array Value} {w : World} {Q : Exit → Act → World → Prop} (hm : P.follows .mixedOrders = true) (hall : ∀ k, k < ops.size → StepS P ops k (A k) (M k) (A (k + 1)) (M (k + 1)) (F k) (SF k))
    (hback : ∀ (j : Nat) (o : Oper) (e : Edge), ops[j]? = some o → e ∈ o.after → Region.binds .any e = true → e.on < j)
    (hord : ∀ i j, i < j → j < ops.size → conflict ops M F i j → Bef ops j i)
    (hsf : ∀ i b x, i < ops.size → SF i = some (b, x) → (∀ k, k < i → wrB M F b k = true → Bef ops i k) ∧ ∃ j, i < j ∧ (∀ k, i < k → k < ops.size → k ≠ j → wrB M F b k = true → Bef ops k i) ∧ (j < ops.size → (M (j + 1)).getD b .gone = x))
    (hl : (A 0).length ≤ t.size) (hs : ∀ x, RV ι ((A 0).getD x undef) (t.getD x undef)) (hsim : Sim ι (at_ (M 0)) w) (hd : ∀ b, ι b ≠ none → b < (M 0).length)
    (hQ : ∀ t' w' ι', (A 0).length ≤ t'.size → (∀ x, RV ι' ((A ops.size).getD x undef) (t'.getD x undef)) → Sim ι' (at_ (M ops.size)) w' → (∀ b, ι' b ≠ none → b < (M ops.size).length) →
      Ext ι (at_ (M 0)) w ι' (at_ (M ops.size)) w' → Q .normal (act t') w') : (Code.region id ops true).wp P Q (act t) w := by
  refine wp_region_any hm ?_
  -- the listed operations; what is ahead of a listed one is listed
  have key : ∀ fuel (listed : Array Bool), listed.size = ops.size → (∀ j o e, ops[j]? = some o → listed.getD j false = true → e ∈ o.after → Region.binds .any e = true → listed.getD e.on false = true) →
      (List.range ops.size).countP (fun i => !listed.getD i false) ≤ fuel → ∀ ι' t' w', Inv ops A M F ι w (fun k => listed.getD k false) ι' t' w' → wpAny P .any ops Q fuel listed (act t') w' := by
    have none_left : ∀ (listed : Array Bool), listed.size = ops.size → (∀ j o e, ops[j]? = some o → listed.getD j false = true → e ∈ o.after → Region.binds .any e = true → listed.getD e.on false = true) →
        Region.ready .any ops listed = [] → ∀ k, k < ops.size → listed.getD k false = true := by
      intro listed hsz _ hr k
      induction k using Nat.strongRecOn with
      | _ k ih =>
        intro hk
        cases hlk : listed.getD k false with
        | true => rfl
        | false =>
          have : k ∈ Region.ready .any ops listed := by
            rw [mem_ready]
            refine ⟨?_, ops[k], by simp [hk], fun e he hb => ?_⟩
            · have : k < listed.size := by omega
              simp [this] at hlk ⊢
              exact hlk
            · have hlt := hback k ops[k] e (by simp [hk]) he hb
              exact ih e.on hlt (by omega)
          rw [hr] at this
          cases this
    intro fuel
    induction fuel with
    | zero =>
      intro listed hsz hdc hcnt ι' t' w' hinv
      have hall2 : ∀ k, k < ops.size → listed.getD k false = true := fun k hk => by
        have h0 := Nat.le_zero.1 hcnt
        rw [List.countP_eq_zero] at h0
        have := h0 k (by simpa using hk)
        simpa using this
      refine ⟨?_, ?_⟩
      · cases hr : Region.ready .any ops listed with
        | nil => rfl
        | cons x xs =>
          have hx : x ∈ Region.ready .any ops listed := by rw [hr]; simp
          obtain ⟨h1, o, ho, _⟩ := mem_ready.1 hx
          have hlt : x < ops.size := (Array.getElem?_eq_some_iff.1 ho).1
          have h2 := hall2 x hlt
          have : x < listed.size := by omega
          simp [this] at h1 h2
          rw [h1] at h2; cases h2
      · obtain ⟨h1, h2, h3, h4, h5⟩ := inv_end hall hall2 hinv
        exact hQ t' w' ι' h1 h2 h3 h4 h5
    | succ fuel ih =>
      intro listed hsz hdc hcnt ι' t' w' hinv
      refine ⟨fun hr => ?_, fun i hi => ?_⟩
      · obtain ⟨h1, h2, h3, h4, h5⟩ := inv_end hall (none_left listed hsz hdc hr) hinv
        exact hQ t' w' ι' h1 h2 h3 h4 h5
      · obtain ⟨h1, o, ho, hedges⟩ := mem_ready.1 hi
        have hlt : i < ops.size := (Array.getElem?_eq_some_iff.1 ho).1
        have hlt' : i < listed.size := by omega
        have hun : listed.getD i false = false := by
          simp [hlt'] at h1 ⊢
          exact h1
        -- what is ahead of a listed operation is listed, however far
        have far : ∀ j k, Bef ops j k → listed.getD j false = true → listed.getD k false = true := by
          intro j k hb
          induction hb with
          | edge ho he hb => exact fun hj => hdc _ _ _ ho hj he hb
          | far ho he hb _ ih => exact fun hj => ih (hdc _ _ _ ho hj he hb)
        have mine : ∀ k, Bef ops i k → listed.getD k false = true := by
          intro k hb
          cases hb with
          | edge ho' he hb => rw [ho] at ho'; cases ho'; exact hedges _ he hb
          | far ho' he hb h => rw [ho] at ho'; cases ho'; exact far _ _ h (hedges _ he hb)
        have hfit : Fits ops M F (fun k => listed.getD k false) i := by
          refine ⟨fun x hx => ⟨fun k hk hw => mine k ?_, fun k hk hks hw => ?_⟩, fun b hb => ⟨fun k hk hw => mine k ?_, fun k hk hks hw => ?_⟩⟩
          · exact hord k i hk hlt (.inl ⟨x, by simpa [wrS] using hw, hx⟩)
          · cases hlk : listed.getD k false with
            | false => rfl
            | true =>
              have : Bef ops k i := by
                refine hord i k hk hks ?_
                rcases hx with hx | hx
                · exact .inr (.inl ⟨x, by simpa [wrS] using hw, hx⟩)
                · exact .inl ⟨x, hx, .inr (by simpa [wrS] using hw)⟩
              have := far k i this hlk
              rw [hun] at this; cases this
          · exact hord k i hk hlt (.inr (.inr (.inl ⟨b, hw, hb⟩)))
          · cases hlk : listed.getD k false with
            | false => rfl
            | true =>
              have : Bef ops k i := hord i k hk hks (.inr (.inr (.inr ⟨b, hw, hb⟩)))
              have := far k i this hlk
              rw [hun] at this; cases this
        have hsoft : ∀ b x, SF i = some (b, x) → contAt ops M F (fun k => listed.getD k false) b = (M i).getD b .gone ∨ contAt ops M F (fun k => listed.getD k false) b = x := fun b x hs => by
          obtain ⟨h1, j, hij, h2, h3⟩ := hsf i b x hlt hs
          have after : ∀ k, i < k → k < ops.size → k ≠ j → wrB M F b k = true → listed.getD k false = false := fun k hk hks hkj hw => by
            cases hlk : listed.getD k false with
            | false => rfl
            | true =>
              have := far k i (h2 k hk hks hkj hw) hlk
              rw [hun] at this; cases this
          by_cases hj : j < ops.size ∧ wrB M F b j = true ∧ listed.getD j false = true
          · obtain ⟨hjs, hjw, hjl⟩ := hj
            right
            have e : (fun k => listed.getD k false) = ins (fun k => listed.getD k false) j := by
              funext k
              unfold ins
              by_cases hk : k = j
              · subst hk; simp [hjl]
              · simp [hk]
            unfold contAt
            rw [e, cur_ins_self hjs hjw (fun k hk hks hw => after k (by omega) hks (by omega) hw)]
            exact h3 hjs
          · left
            refine cont_read hall (Nat.le_of_lt hlt) (fun k hk hw => mine k (h1 k hk hw)) (fun k hk hks hw => ?_)
            rcases Nat.eq_or_lt_of_le hk with e | hk
            · rw [← e]; exact hun
            · by_cases hkj : k = j
              · subst hkj
                cases hlk : listed.getD k false with
                | false => rfl
                | true => exact absurd ⟨hks, hw, hlk⟩ hj
              · exact after k hk hks hkj hw
        refine inv_step hall hlt hun hfit hsoft hinv _ _ (fun t2 w2 ι2 h2 => ?_)
        have hset : ∀ k, (listed.setIfInBounds i true).getD k false = (listed.getD k false || k == i) := fun k => by
          by_cases hki : i = k
          · subst hki; simp [hlt']
          · have : (k == i) = false := by simpa using fun e => hki e.symm
            rw [this, Bool.or_false]
            simp [Array.getElem?_setIfInBounds_ne hki]
        refine ih (listed.setIfInBounds i true) (by simpa using hsz) (fun j o' e ho' hj he hb => ?_) ?_ ι2 t2 w2 ?_
        · rw [hset] at hj ⊢
          rw [Bool.or_eq_true] at hj ⊢
          rcases hj with hj | hj
          · exact .inl (hdc j o' e ho' hj he hb)
          · have : j = i := by simpa using hj
            subst this
            rw [ho] at ho'; cases ho'
            exact .inl (hedges e he hb)
        · have hlt2 : (List.range ops.size).countP (fun k => !(listed.setIfInBounds i true).getD k false) < (List.range ops.size).countP (fun k => !listed.getD k false) := by
            refine countP_lt (x := i) (by simpa using hlt) (by rw [hset]; simp) (by rw [hun]; rfl) (fun k _ hk => ?_)
            rw [hset] at hk
            simp only [Bool.not_eq_true', Bool.or_eq_false_iff] at hk
            rw [hk.1]; rfl
          omega
        · have : (ins (fun k => listed.getD k false) i) = fun k => (listed.setIfInBounds i true).getD k false := by
            funext k
            rw [hset]; rfl
          rwa [this] at h2
  refine key ops.size (Array.replicate ops.size false) (by simp) (fun j o e ho hj _ _ => ?_) ?_ ι t _ ?_
  · simp [Array.getElem?_replicate] at hj
    split at hj <;> simp at hj
  · exact Nat.le_trans List.countP_le_length (by simp)
  · have e : (fun k => (Array.replicate ops.size false).getD k false) = fun _ : Nat => false := by
      funext k
      simp [Array.getElem?_replicate]
      split <;> simp
    rw [e]
    exact inv_start hl hs hsim hd

end

end

end Go.Dt
