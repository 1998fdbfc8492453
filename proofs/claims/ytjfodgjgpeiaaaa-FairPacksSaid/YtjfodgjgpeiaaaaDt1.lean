/- Canonical memories and how they stand to the model's worlds: values up to a renaming of blocks, blocks, frames. -/
import Derived.Orders
namespace Go.Dt

/-- Where a canonical block lies: the real block, the first cell, how many cells there are from there on, an element's size; 'ro': it is only read. -/
structure Loc where
  blk : Nat
  off : Nat
  room : Nat
  sz : Nat
  ro : Bool := false

/-- Where canonical blocks lie; which real blocks stand for good, with what they hold. -/
structure Map where
  loc : Nat → Option Loc
  fro : Nat → Option (Array Value)
instance : CoeFun Map (fun _ => Nat → Option Loc) := ⟨Map.loc⟩

/-- The mark of a slice that is known by what it holds, and will never be written; of an address within one. -/
abbrev frzT : Nat := 4000000000
abbrev frpT : Nat := 4000000001
abbrev empT : Nat := 4000000002
abbrev anyT : Nat := 4000000003
/-- A slice of n elements, by its cells. -/
abbrev frz (n : Nat) (c : List Value) : Value := .iface frzT (.tuple ⟨[.int .i64 n, .agg ⟨c⟩]⟩)
/-- A slice of nothing, with no room. -/
abbrev emp : Value := .iface empT (.bool true)
/-- A truth value that is not known. -/
abbrev anyB : Value := .iface anyT (.bool true)
/-- An address within such cells. -/
abbrev frp (c : List Value) (off : Nat) : Value := .iface frpT (.tuple ⟨[.int .i64 off, .agg ⟨c⟩]⟩)

/-! ### Values that hang on no block of one's own -/
mutual
def pureV : Value → Bool
  | .bool _ | .int _ _ | .float _ _ | .string _ | .nilFunc | .nilIface => true
  | .pointer none | .slice none _ _ | .map none => true
  | .iface t v => bif Nat.blt t frzT then pureV v else true
  | .func _ ⟨xs⟩ ⟨ys⟩ => pures xs && pures ys
  | .agg ⟨l⟩ => pures l
  | .tuple ⟨l⟩ => !l.isEmpty && pures l
  | _ => false
def pures : List Value → Bool
  | [] => true
  | v :: l => pureV v && pures l
end

/-- A canonical value and a real one. 'undef' stands for whatever it may be. -/
inductive RV (ι : Map) : Value → Value → Prop
  | any (v : Value) : RV ι undef v
  | skip : RV ι (.chan none) undef
  | bool (b : Bool) : RV ι (.bool b) (.bool b)
  | int (k : IntKind) (n : Int) : RV ι (.int k n) (.int k n)
  | float (k : FloatKind) (n : Nat) : RV ι (.float k n) (.float k n)
  | string (s : ByteArray) : RV ι (.string s) (.string s)
  | nilp : RV ι (.pointer none) (.pointer none)
  | ptr {b o : Nat} {L : Loc} (h : ι b = some L) : RV ι (.pointer (some ⟨b, o, none⟩)) (.pointer (some ⟨L.blk, L.off + o, none⟩))
  | nils (l c : Nat) : RV ι (.slice none l c) (.slice none l c)
  | slice {b o l c c' : Nat} {L : Loc} (h : ι b = some L) (hc : c ≤ c') (hr : L.ro = false → c ≠ c' → o + c' * L.sz ≤ L.room) :
      RV ι (.slice (some ⟨b, o, none⟩) l c) (.slice (some ⟨L.blk, L.off + o, none⟩) l c')
  | slice0 (x y : Addr) : RV ι (.slice (some x) 0 0) (.slice (some y) 0 0)
  | nilm : RV ι (.map none) (.map none)
  | map {b : Nat} {L : Loc} (h : ι b = some L) : RV ι (.map (some b)) (.map (some L.blk))
  | func (fn : Fn) {xs xs' ys ys' : Array Value} (hx : xs.size = xs'.size) (hy : ys.size = ys'.size)
      (h : ∀ i : Nat, RV ι (xs.getD i undef) (xs'.getD i undef)) (h' : ∀ i : Nat, RV ι (ys.getD i undef) (ys'.getD i undef)) : RV ι (.func fn xs ys) (.func fn xs' ys')
  | nilFunc : RV ι .nilFunc .nilFunc
  | iface (t : TypeId) {v v' : Value} (ht : t < frzT) (h : RV ι v v') : RV ι (.iface t v) (.iface t v')
  | frz {n : Nat} {c : List Value} {r o cap : Nat} {cr : Array Value} (h : ι.fro r = some cr) (hn : n ≤ cap) (hp : pures c = true) (hfit : o + c.length ≤ cr.size) (hc : ∀ i : Nat, i < c.length → RV ι (c.getD i undef) (cr.getD (o + i) undef)) :
      RV ι (frz n c) (.slice (some ⟨r, o, none⟩) n cap)
  | frzN : RV ι (frz 0 []) (.slice none 0 0)
  | frzE (x : Addr) (cap : Nat) : RV ι (frz 0 []) (.slice (some x) 0 cap)
  | empN : RV ι emp (.slice none 0 0)
  | empE (x : Addr) : RV ι emp (.slice (some x) 0 0)
  | anyB (b : Bool) : RV ι anyB (.bool b)
  | frp {c : List Value} {off r o : Nat} {cr : Array Value} (h : ι.fro r = some cr) (hp : pures c = true) (hfit : o + c.length ≤ cr.size) (hc : ∀ i : Nat, i < c.length → RV ι (c.getD i undef) (cr.getD (o + i) undef)) :
      RV ι (frp c off) (.pointer (some ⟨r, o + off, none⟩))
  | nilIface : RV ι .nilIface .nilIface
  | agg {cs cs' : Array Value} (hs : cs.size = cs'.size) (h : ∀ i : Nat, RV ι (cs.getD i undef) (cs'.getD i undef)) : RV ι (.agg cs) (.agg cs')
  | tuple {cs cs' : Array Value} (hs : cs.size = cs'.size) (h : ∀ i : Nat, RV ι (cs.getD i undef) (cs'.getD i undef)) : RV ι (.tuple cs) (.tuple cs')

structure Le (ι ι' : Map) : Prop where
  loc : ∀ b L, ι b = some L → ι' b = some L
  fro : ∀ r c, ι.fro r = some c → ι'.fro r = some c
instance (ι ι' : Map) : CoeFun (Le ι ι') (fun _ => ∀ b L, ι b = some L → ι' b = some L) := ⟨Le.loc⟩
theorem Le.refl (ι : Map) : Le ι ι := ⟨fun _ _ h => h, fun _ _ h => h⟩
theorem Le.trans {a b c : Map} (h : Le a b) (k : Le b c) : Le a c := ⟨fun x L hx => k x L (h x L hx), fun x L hx => k.fro x L (h.fro x L hx)⟩

theorem RV.mono {ι ι' : Map} (hle : Le ι ι') {v v' : Value} (h : RV ι v v') : RV ι' v v' := by
  induction h with
  | any v => exact .any v
  | skip => exact .skip
  | bool b => exact .bool b
  | int k n => exact .int k n
  | float k n => exact .float k n
  | string s => exact .string s
  | nilp => exact .nilp
  | ptr h => exact .ptr (hle _ _ h)
  | nils l c => exact .nils l c
  | slice h hc hr => exact .slice (hle _ _ h) hc hr
  | slice0 x y => exact .slice0 x y
  | nilm => exact .nilm
  | map h => exact .map (hle _ _ h)
  | func fn hx hy _ _ i1 i2 => exact .func fn hx hy i1 i2
  | nilFunc => exact .nilFunc
  | iface t ht _ ih => exact .iface t ht ih
  | frz h hn hp hfit _ ih => exact .frz (hle.fro _ _ h) hn hp hfit ih
  | frzN => exact .frzN
  | frzE x cap => exact .frzE x cap
  | empN => exact .empN
  | empE x => exact .empE x
  | anyB b => exact .anyB b
  | frp h hp hfit _ ih => exact .frp (hle.fro _ _ h) hp hfit ih
  | nilIface => exact .nilIface
  | agg hs _ ih => exact .agg hs ih
  | tuple hs _ ih => exact .tuple hs ih

/-- A canonical block. -/
inductive Blk where
  | cells (c : List Value) (sz : Nat) (rw : Bool)
  | map (es : List MapEntry) (clock : Nat)
  | gone

def Blk.own : Blk → Bool
  | .cells _ _ rw => rw
  | .map _ _ => true
  | .gone => false
def Blk.live : Blk → Bool
  | .gone => false
  | _ => true
theorem Blk.live_of_own {b : Blk} (h : b.own = true) : b.live = true := by cases b <;> simp_all [Blk.own, Blk.live]

def EntryOk (ι : Map) (e e' : MapEntry) : Prop := RV ι e.key e'.key ∧ RV ι e.val e'.val ∧ e.born = e'.born

def BlkOk (ι : Map) (w : World) (b : Nat) : Blk → Prop
  | .cells c sz rw => ∃ L c' t fz, ι b = some L ∧ w.heap[L.blk]? = some (.cells c' t fz) ∧ L.off + c.length ≤ c'.size ∧
      (rw = true → fz = (0, 0) ∧ c'.size = L.off + L.room ∧ L.sz = sz ∧ L.ro = false) ∧ (rw = false → L.ro = true) ∧ ∀ i, i < c.length → RV ι (c.getD i undef) (c'.getD (L.off + i) undef)
  | .map es clock => ∃ L es', ι b = some L ∧ w.heap[L.blk]? = some (.map es' clock) ∧ es.length = es'.size ∧
      ∀ (i : Nat) (e e' : MapEntry), es[i]? = some e → es'[i]? = some e' → EntryOk ι e e'
  | .gone => True

abbrev Cont := Nat → Blk

def OwnR (ι : Map) (C : Cont) (k : Nat) : Prop := ∃ b L, (C b).own = true ∧ ι b = some L ∧ L.blk = k
def LiveR (ι : Map) (C : Cont) (k : Nat) : Prop := ∃ b L, (C b).live = true ∧ ι b = some L ∧ L.blk = k

structure Sim (ι : Map) (C : Cont) (w : World) : Prop where
  blk : ∀ b, BlkOk ι w b (C b)
  sep : ∀ b b2 L L2, b ≠ b2 → (C b).own = true → (C b2).live = true → ι b = some L → ι b2 = some L2 → L.blk ≠ L2.blk
  fro : ∀ r c, ι.fro r = some c → ∃ t fz, w.heap[r]? = some (.cells c t fz)
  apart : ∀ b L r c, (C b).own = true → ι b = some L → ι.fro r = some c → L.blk ≠ r

theorem BlkOk.loc {ι : Map} {w : World} {b : Nat} {x : Blk} (h : BlkOk ι w b x) (hl : x.live = true) : ∃ L, ι b = some L ∧ L.blk < w.heap.size := by
  cases x with
  | cells c sz rw =>
    obtain ⟨L, c', t, fz, hL, hh, _⟩ := h
    exact ⟨L, hL, (Array.getElem?_eq_some_iff.1 hh).1⟩
  | map es clock =>
    obtain ⟨L, es', hL, hh, _⟩ := h
    exact ⟨L, hL, (Array.getElem?_eq_some_iff.1 hh).1⟩
  | gone => cases hl

theorem BlkOk.keep {ι ι' : Map} {w w' : World} {b : Nat} {x : Blk} (h : BlkOk ι w b x) (hle : Le ι ι') (hk : x.live = true → ∀ L, ι b = some L → w'.heap[L.blk]? = w.heap[L.blk]?) : BlkOk ι' w' b x := by
  cases x with
  | cells c sz rw =>
    obtain ⟨L, c', t, fz, hL, hh, hs, hr, hro, hc⟩ := h
    exact ⟨L, c', t, fz, hle _ _ hL, by rw [hk rfl L hL]; exact hh, hs, hr, hro, fun i hi => (hc i hi).mono hle⟩
  | map es clock =>
    obtain ⟨L, es', hL, hh, hs, he⟩ := h
    exact ⟨L, es', hle _ _ hL, by rw [hk rfl L hL]; exact hh, hs, fun i e e' h1 h2 => ⟨(he i e e' h1 h2).1.mono hle, (he i e e' h1 h2).2.1.mono hle, (he i e e' h1 h2).2.2⟩⟩
  | gone => trivial

/-- What a step may have done to a world: what it does not own is as it was. -/
structure Ext (ι : Map) (C : Cont) (w : World) (ι' : Map) (C' : Cont) (w' : World) : Prop where
  le : Le ι ι'
  size : w.heap.size ≤ w'.heap.size
  os : w'.os = w.os
  tape : w'.tape = w.tape
  output : w'.output = w.output
  frame : ∀ k, k < w.heap.size → ¬ OwnR ι C k → w'.heap[k]? = w.heap[k]?
  own : ∀ k, OwnR ι' C' k → OwnR ι C k ∨ w.heap.size ≤ k
  live : ∀ k, LiveR ι' C' k → LiveR ι C k ∨ w.heap.size ≤ k
  fro : ∀ r c, ι'.fro r = some c → ι.fro r = some c ∨ OwnR ι C r ∨ w.heap.size ≤ r

theorem Ext.refl (ι : Map) (C : Cont) (w : World) : Ext ι C w ι C w := ⟨Le.refl _, Nat.le_refl _, rfl, rfl, rfl, fun _ _ _ => rfl, fun _ h => .inl h, fun _ h => .inl h, fun _ _ h => .inl h⟩

theorem Ext.drew {ι ι' : Map} {C C' : Cont} {w w' : World} {n : Nat} (h : Ext ι C { w with drawn := n } ι' C' w') : Ext ι C w ι' C' w' := ⟨h.le, h.size, h.os, h.tape, h.output, h.frame, h.own, h.live, h.fro⟩

theorem Ext.trans {ι ι' ι'' : Map} {C C' C'' : Cont} {w w' w'' : World} (h : Ext ι C w ι' C' w') (k : Ext ι' C' w' ι'' C'' w'') : Ext ι C w ι'' C'' w'' where
  le := h.le.trans k.le
  size := Nat.le_trans h.size k.size
  os := k.os.trans h.os
  tape := k.tape.trans h.tape
  output := k.output.trans h.output
  frame := fun x hx hn => (k.frame x (Nat.lt_of_lt_of_le hx h.size) (fun ho => (h.own x ho).elim hn (fun hge => absurd hx (Nat.not_lt.2 hge)))).trans (h.frame x hx hn)
  own := fun x ho => (k.own x ho).elim (h.own x) (fun hge => .inr (Nat.le_trans h.size hge))
  live := fun x ho => (k.live x ho).elim (h.live x) (fun hge => .inr (Nat.le_trans h.size hge))
  fro := fun r c hr => by
    rcases k.fro r c hr with h1 | h1 | h1
    · exact h.fro r c h1
    · exact (h.own r h1).elim (fun h2 => .inr (.inl h2)) (fun h2 => .inr (.inr h2))
    · exact .inr (.inr (Nat.le_trans h.size h1))

/-- Only some blocks of a memory. -/
def Cont.only (C : Cont) (R : Nat → Bool) : Cont := fun b => if R b then C b else .gone

theorem Sim.only {ι : Map} {C : Cont} {w : World} (h : Sim ι C w) (R : Nat → Bool) : Sim ι (C.only R) w where
  blk := fun b => by
    unfold Cont.only
    split
    · exact h.blk b
    · trivial
  sep := fun b b2 L L2 hne ho hl => by
    unfold Cont.only at ho hl
    split at ho
    · split at hl
      · exact h.sep b b2 L L2 hne ho hl
      · cases hl
    · cases ho
  fro := h.fro
  apart := fun b L r c ho => by
    unfold Cont.only at ho
    split at ho
    · exact h.apart b L r c ho
    · cases ho

/-- THE FRAME: what a step does to the blocks that it touches, it does in any greater memory. -/
theorem Sim.frame {ι ι' : Map} {C C' D : Cont} {w w' : World} {R T : Nat → Bool} (hs : Sim ι C w) (hRT : ∀ b, R b = true → T b = true)
    (he : Ext ι (C.only R) w ι' (C'.only T) w') (hs' : Sim ι' (C'.only T) w') (hD : ∀ b, D b = if T b then C' b else C b) :
    Sim ι' D w' ∧ Ext ι C w ι' D w' := by
  have old : ∀ b, T b = false → (C b).live = true → ∃ L, ι b = some L ∧ L.blk < w.heap.size ∧ ι' b = some L := fun b hb hl => by
    obtain ⟨L, hL, hlt⟩ := (hs.blk b).loc hl
    exact ⟨L, hL, hlt, he.le _ _ hL⟩
  have ownOnly : ∀ k, OwnR ι (C.only R) k → OwnR ι C k := fun k ⟨b, L, ho, hL, hk⟩ => by
    unfold Cont.only at ho
    split at ho
    · exact ⟨b, L, ho, hL, hk⟩
    · cases ho
  have liveOnly : ∀ k, LiveR ι (C.only R) k → LiveR ι C k := fun k ⟨b, L, ho, hL, hk⟩ => by
    unfold Cont.only at ho
    split at ho
    · exact ⟨b, L, ho, hL, hk⟩
    · cases ho
  have inT : ∀ b, T b = true → (C'.only T) b = C' b := fun b hb => by simp [Cont.only, hb]
  have far : ∀ b L, T b = false → (C b).live = true → ι b = some L → ∀ b0 L0, ((C.only R) b0).own = true → ι b0 = some L0 → L0.blk ≠ L.blk := fun b L hb hl hL b0 L0 ho hL0 => by
    unfold Cont.only at ho
    split at ho
    · rename_i hR0
      have hne : b0 ≠ b := fun e => by have := hRT _ hR0; rw [e, hb] at this; cases this
      exact hs.sep b0 b L0 L hne ho hl hL0 hL
    · cases ho
  constructor
  · constructor
    · intro b
      rw [hD]
      cases hb : T b with
      | true =>
        simp only [if_true]
        have := hs'.blk b
        rwa [inT b hb] at this
      | false =>
        refine (hs.blk b).keep he.le fun hl L hL => ?_
        obtain ⟨L', hL', hlt, _⟩ := old b hb hl
        rw [hL] at hL'; cases hL'
        exact he.frame _ hlt fun ⟨b0, L0, ho, hL0, hk⟩ => far b L hb hl hL b0 L0 ho hL0 hk
    · intro b b2 L L2 hne ho hl hL hL2
      rw [hD] at ho hl
      cases hb : T b with
      | true =>
        simp only [hb, if_true] at ho
        cases hb2 : T b2 with
        | true =>
          simp only [hb2, if_true] at hl
          exact hs'.sep b b2 L L2 hne (by rw [inT b hb]; exact ho) (by rw [inT b2 hb2]; exact hl) hL hL2
        | false =>
          simp only [hb2] at hl
          obtain ⟨L2', hL2', hlt, hL2''⟩ := old b2 hb2 hl
          rw [hL2] at hL2''; cases hL2''
          rcases he.own L.blk ⟨b, L, by rw [inT b hb]; exact ho, hL, rfl⟩ with ⟨b0, L0, ho0, hL0, hk⟩ | hge
          · rw [← hk]; exact far b2 L2 hb2 hl hL2' b0 L0 ho0 hL0
          · omega
      | false =>
        simp only [hb] at ho
        obtain ⟨L', hL', hlt, hL''⟩ := old b hb (Blk.live_of_own ho)
        rw [hL] at hL''; cases hL''
        cases hb2 : T b2 with
        | true =>
          simp only [hb2, if_true] at hl
          rcases he.live L2.blk ⟨b2, L2, by rw [inT b2 hb2]; exact hl, hL2, rfl⟩ with ⟨b0, L0, hl0, hL0, hk⟩ | hge
          · unfold Cont.only at hl0
            split at hl0
            · rename_i hR0
              have hne : b ≠ b0 := fun e => by have := hRT _ hR0; rw [← e, hb] at this; cases this
              rw [← hk]; exact hs.sep b b0 L L0 hne ho hl0 hL' hL0
            · cases hl0
          · omega
        | false =>
          simp only [hb2] at hl
          obtain ⟨L2', hL2', _, hL2''⟩ := old b2 hb2 hl
          rw [hL2] at hL2''; cases hL2''
          exact hs.sep b b2 L L2 hne ho hl hL' hL2'
    · exact hs'.fro
    · intro b L r c ho hL hr
      rw [hD] at ho
      cases hb : T b with
      | true =>
        simp only [hb, if_true] at ho
        exact hs'.apart b L r c (by rw [inT b hb]; exact ho) hL hr
      | false =>
        simp only [hb] at ho
        obtain ⟨L', hL', hlt, hL''⟩ := old b hb (Blk.live_of_own ho)
        rw [hL] at hL''; cases hL''
        rcases he.fro r c hr with h | ⟨b0, L0, ho0, hL0, hk⟩ | h
        · exact hs.apart b L r c ho hL' h
        · rw [← hk]; exact Ne.symm (far b L hb (Blk.live_of_own ho) hL' b0 L0 ho0 hL0)
        · omega
  · refine ⟨he.le, he.size, he.os, he.tape, he.output, fun k hk hn => he.frame k hk (fun h => hn (ownOnly k h)), fun k => ?_, fun k => ?_, fun r c hr => (he.fro r c hr).imp id (Or.imp (ownOnly r) id)⟩
    · rintro ⟨b, L, ho, hL, hk⟩
      rw [hD] at ho
      cases hb : T b with
      | true =>
        simp only [hb, if_true] at ho
        exact (he.own k ⟨b, L, by rw [inT b hb]; exact ho, hL, hk⟩).imp (ownOnly k) id
      | false =>
        simp only [hb] at ho
        obtain ⟨L', hL', _, hL''⟩ := old b hb (Blk.live_of_own ho)
        rw [hL] at hL''; cases hL''
        exact .inl ⟨b, L, ho, hL', hk⟩
    · rintro ⟨b, L, ho, hL, hk⟩
      rw [hD] at ho
      cases hb : T b with
      | true =>
        simp only [hb, if_true] at ho
        exact (he.live k ⟨b, L, by rw [inT b hb]; exact ho, hL, hk⟩).imp (liveOnly k) id
      | false =>
        simp only [hb] at ho
        obtain ⟨L', hL', _, hL''⟩ := old b hb ho
        rw [hL] at hL''; cases hL''
        exact .inl ⟨b, L, ho, hL', hk⟩
end Go.Dt
