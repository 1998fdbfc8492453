/- Several texts in one: Dt0, Dt1, Dt2. -/
import Derived.Orders
import Derived.Shelf.Unicode.DecodeSlow
namespace Go.Dt

section


def GloOk (fro : Nat → Option (Array Value)) : Prop :=
  (∃ m, fro 4 = some #[.int .i64 m]) ∧
  (∃ c, fro 0 = some c ∧ ∀ k, k < 256 → c[k]? = some (.int .u8 (Lib.firstT k))) ∧
  (∃ c, fro 1 = some c ∧ ∀ i, i < 16 → c[2 * i]? = some (.int .u8 (Lib.accLo i)) ∧ c[2 * i + 1]? = some (.int .u8 (Lib.accHi i))) ∧
  (∃ ev, fro 2 = some #[ev] ∧ (ev = .nilIface ∨ ∃ te pe, ev = .iface te pe)) ∧
  (∃ ev, fro 3 = some #[ev] ∧ (ev = .nilIface ∨ ∃ te pe, ev = .iface te pe))
theorem GloOk.mono {f g : Nat → Option (Array Value)} (h : ∀ r c, f r = some c → g r = some c) (k : GloOk f) : GloOk g := by
  obtain ⟨⟨m, h0⟩, ⟨c1, h1, p1⟩, ⟨c2, h2, p2⟩, ⟨e3, h3, p3⟩, e4, h4, p4⟩ := k
  exact ⟨⟨m, h _ _ h0⟩, ⟨c1, h _ _ h1, p1⟩, ⟨c2, h _ _ h2, p2⟩, ⟨e3, h _ _ h3, p3⟩, e4, h _ _ h4, p4⟩

end

section


/-- Where a canonical block lies: the real block, the first cell, how many cells there are from there on, an element's size; 'ro': it is only read. -/
structure Loc where
  blk : Nat
  off : Nat
  room : Nat
  sz : Nat
  ro : Bool := false

/-- Where canonical blocks lie; which real blocks stand for good, with what they hold. -/
structure Map where
  loc : Nat → Option Loc
  fro : Nat → Option (Array Value)
instance : CoeFun Map (fun _ => Nat → Option Loc) := ⟨Map.loc⟩

/-- The mark of a slice that is known by what it holds, and will never be written; of an address within one. -/
abbrev frzT : Nat := 4000000000
abbrev frpT : Nat := 4000000001
abbrev empT : Nat := 4000000002
abbrev anyT : Nat := 4000000003
/-- A slice of n elements, by its cells. -/
abbrev frz (n : Nat) (c : List Value) : Value := .iface frzT (.tuple ⟨[.int .i64 n, .agg ⟨c⟩]⟩)
/-- A slice of nothing, with no room. -/
abbrev emp : Value := .iface empT (.bool true)
/-- A truth value that is not known. -/
abbrev anyB : Value := .iface anyT (.bool true)
/-- An address within such cells. -/
abbrev frp (c : List Value) (off : Nat) : Value := .iface frpT (.tuple ⟨[.int .i64 off, .agg ⟨c⟩]⟩)

/-! ### Values that hang on no block of one's own -/
mutual
def pureV : Value → Bool
  | .bool _ | .int _ _ | .float _ _ | .string _ | .nilFunc | .nilIface => true
  | .pointer none | .slice none _ _ | .map none => true
  | .iface t v => bif Nat.blt t frzT then pureV v else true
  | .func _ ⟨xs⟩ ⟨ys⟩ => pures xs && pures ys
  | .agg ⟨l⟩ => pures l
  | .tuple ⟨l⟩ => !l.isEmpty && pures l
  | _ => false
def pures : List Value → Bool
  | [] => true
  | v :: l => pureV v && pures l
end

/-- A canonical value and a real one. 'undef' stands for whatever it may be. -/
inductive RV (ι : Map) : Value → Value → Prop
  | any (v : Value) : RV ι undef v
  | skip : RV ι (.chan none) undef
  | bool (b : Bool) : RV ι (.bool b) (.bool b)
  | int (k : IntKind) (n : Int) : RV ι (.int k n) (.int k n)
  | float (k : FloatKind) (n : Nat) : RV ι (.float k n) (.float k n)
  | string (s : ByteArray) : RV ι (.string s) (.string s)
  | nilp : RV ι (.pointer none) (.pointer none)
  | ptr {b o : Nat} {L : Loc} (h : ι b = some L) : RV ι (.pointer (some ⟨b, o, none⟩)) (.pointer (some ⟨L.blk, L.off + o, none⟩))
  | nils (l c : Nat) : RV ι (.slice none l c) (.slice none l c)
  | slice {b o l c c' : Nat} {L : Loc} (h : ι b = some L) (hc : c ≤ c') (hr : L.ro = false → c ≠ c' → o + c' * L.sz ≤ L.room) :
      RV ι (.slice (some ⟨b, o, none⟩) l c) (.slice (some ⟨L.blk, L.off + o, none⟩) l c')
  | slice0 (x y : Addr) : RV ι (.slice (some x) 0 0) (.slice (some y) 0 0)
  | nilm : RV ι (.map none) (.map none)
  | map {b : Nat} {L : Loc} (h : ι b = some L) : RV ι (.map (some b)) (.map (some L.blk))
  | func (fn : Fn) {xs xs' ys ys' : Array Value} (hx : xs.size = xs'.size) (hy : ys.size = ys'.size)
      (h : ∀ i : Nat, RV ι (xs.getD i undef) (xs'.getD i undef)) (h' : ∀ i : Nat, RV ι (ys.getD i undef) (ys'.getD i undef)) : RV ι (.func fn xs ys) (.func fn xs' ys')
  | nilFunc : RV ι .nilFunc .nilFunc
  | yld {b : Nat} {L : Loc} (h : ι b = some L) : RV ι (.chan (some b)) (.func (.yield L.blk) #[] #[])
  | iface (t : TypeId) {v v' : Value} (ht : t < frzT) (h : RV ι v v') : RV ι (.iface t v) (.iface t v')
  | frz {n : Nat} {c : List Value} {r o cap : Nat} {cr : Array Value} (h : ι.fro r = some cr) (hn : n ≤ cap) (hp : pures c = true) (hfit : o + c.length ≤ cr.size) (hc : ∀ i : Nat, i < c.length → RV ι (c.getD i undef) (cr.getD (o + i) undef)) :
      RV ι (frz n c) (.slice (some ⟨r, o, none⟩) n cap)
  | frzN : RV ι (frz 0 []) (.slice none 0 0)
  | frzE (x : Addr) (cap : Nat) : RV ι (frz 0 []) (.slice (some x) 0 cap)
  | empN : RV ι emp (.slice none 0 0)
  | empE (x : Addr) : RV ι emp (.slice (some x) 0 0)
  | anyB (b : Bool) : RV ι anyB (.bool b)
  | frp {c : List Value} {off r o : Nat} {cr : Array Value} (h : ι.fro r = some cr) (hp : pures c = true) (hfit : o + c.length ≤ cr.size) (hc : ∀ i : Nat, i < c.length → RV ι (c.getD i undef) (cr.getD (o + i) undef)) :
      RV ι (frp c off) (.pointer (some ⟨r, o + off, none⟩))
  | nilIface : RV ι .nilIface .nilIface
  | agg {cs cs' : Array Value} (hs : cs.size = cs'.size) (h : ∀ i : Nat, RV ι (cs.getD i undef) (cs'.getD i undef)) : RV ι (.agg cs) (.agg cs')
  | tuple {cs cs' : Array Value} (hs : cs.size = cs'.size) (h : ∀ i : Nat, RV ι (cs.getD i undef) (cs'.getD i undef)) : RV ι (.tuple cs) (.tuple cs')

structure Le (ι ι' : Map) : Prop where
  loc : ∀ b L, ι b = some L → ι' b = some L
  fro : ∀ r c, ι.fro r = some c → ι'.fro r = some c
instance (ι ι' : Map) : CoeFun (Le ι ι') (fun _ => ∀ b L, ι b = some L → ι' b = some L) := ⟨Le.loc⟩
theorem Le.refl (ι : Map) : Le ι ι := ⟨fun _ _ h => h, fun _ _ h => h⟩
theorem Le.trans {a b c : Map} (h : Le a b) (k : Le b c) : Le a c := ⟨fun x L hx => k x L (h x L hx), fun x L hx => k.fro x L (h.fro x L hx)⟩

theorem RV.mono {ι ι' : Map} (hle : Le ι ι') {v v' : Value} (h : RV ι v v') : RV ι' v v' := by
  induction h with
  | any v => exact .any v
  | skip => exact .skip
  | bool b => exact .bool b
  | int k n => exact .int k n
  | float k n => exact .float k n
  | string s => exact .string s
  | nilp => exact .nilp
  | ptr h => exact .ptr (hle _ _ h)
  | nils l c => exact .nils l c
  | slice h hc hr => exact .slice (hle _ _ h) hc hr
  | slice0 x y => exact .slice0 x y
  | nilm => exact .nilm
  | map h => exact .map (hle _ _ h)
  | func fn hx hy _ _ i1 i2 => exact .func fn hx hy i1 i2
  | nilFunc => exact .nilFunc
  | yld h => exact .yld (hle _ _ h)
  | iface t ht _ ih => exact .iface t ht ih
  | frz h hn hp hfit _ ih => exact .frz (hle.fro _ _ h) hn hp hfit ih
  | frzN => exact .frzN
  | frzE x cap => exact .frzE x cap
  | empN => exact .empN
  | empE x => exact .empE x
  | anyB b => exact .anyB b
  | frp h hp hfit _ ih => exact .frp (hle.fro _ _ h) hp hfit ih
  | nilIface => exact .nilIface
  | agg hs _ ih => exact .agg hs ih
  | tuple hs _ ih => exact .tuple hs ih

/-- A canonical block. -/
inductive Blk where
  | cells (c : List Value) (sz : Nat) (rw : Bool)
  | map (es : List MapEntry) (clock : Nat)
  | gone

def Blk.own : Blk → Bool
  | .cells _ _ rw => rw
  | .map _ _ => true
  | .gone => false
def Blk.live : Blk → Bool
  | .gone => false
  | _ => true
theorem Blk.live_of_own {b : Blk} (h : b.own = true) : b.live = true := by cases b <;> simp_all [Blk.own, Blk.live]

def EntryOk (ι : Map) (e e' : MapEntry) : Prop := RV ι e.key e'.key ∧ RV ι e.val e'.val ∧ e.born = e'.born

def BlkOk (ι : Map) (w : World) (b : Nat) : Blk → Prop
  | .cells c sz rw => ∃ L c' t fz, ι b = some L ∧ w.heap[L.blk]? = some (.cells c' t fz) ∧ L.off + c.length ≤ c'.size ∧
      (rw = true → fz = (0, 0) ∧ c'.size = L.off + L.room ∧ L.sz = sz ∧ L.ro = false) ∧ (rw = false → L.ro = true) ∧ ∀ i, i < c.length → RV ι (c.getD i undef) (c'.getD (L.off + i) undef)
  | .map es clock => ∃ L es', ι b = some L ∧ w.heap[L.blk]? = some (.map es' clock) ∧ es.length = es'.size ∧
      ∀ (i : Nat) (e e' : MapEntry), es[i]? = some e → es'[i]? = some e' → EntryOk ι e e'
  | .gone => True

abbrev Cont := Nat → Blk

def OwnR (ι : Map) (C : Cont) (k : Nat) : Prop := ∃ b L, (C b).own = true ∧ ι b = some L ∧ L.blk = k
def LiveR (ι : Map) (C : Cont) (k : Nat) : Prop := ∃ b L, (C b).live = true ∧ ι b = some L ∧ L.blk = k

structure Sim (ι : Map) (C : Cont) (w : World) : Prop where
  blk : ∀ b, BlkOk ι w b (C b)
  sep : ∀ b b2 L L2, b ≠ b2 → (C b).own = true → (C b2).live = true → ι b = some L → ι b2 = some L2 → L.blk ≠ L2.blk
  fro : ∀ r c, ι.fro r = some c → ∃ t fz, w.heap[r]? = some (.cells c t fz)
  apart : ∀ b L r c, (C b).own = true → ι b = some L → ι.fro r = some c → L.blk ≠ r
  glo : GloOk ι.fro

theorem BlkOk.loc {ι : Map} {w : World} {b : Nat} {x : Blk} (h : BlkOk ι w b x) (hl : x.live = true) : ∃ L, ι b = some L ∧ L.blk < w.heap.size := by
  cases x with
  | cells c sz rw =>
    obtain ⟨L, c', t, fz, hL, hh, _⟩ := h
    exact ⟨L, hL, (Array.getElem?_eq_some_iff.1 hh).1⟩
  | map es clock =>
    obtain ⟨L, es', hL, hh, _⟩ := h
    exact ⟨L, hL, (Array.getElem?_eq_some_iff.1 hh).1⟩
  | gone => cases hl

theorem BlkOk.keep {ι ι' : Map} {w w' : World} {b : Nat} {x : Blk} (h : BlkOk ι w b x) (hle : Le ι ι') (hk : x.live = true → ∀ L, ι b = some L → w'.heap[L.blk]? = w.heap[L.blk]?) : BlkOk ι' w' b x := by
  cases x with
  | cells c sz rw =>
    obtain ⟨L, c', t, fz, hL, hh, hs, hr, hro, hc⟩ := h
    exact ⟨L, c', t, fz, hle _ _ hL, by rw [hk rfl L hL]; exact hh, hs, hr, hro, fun i hi => (hc i hi).mono hle⟩
  | map es clock =>
    obtain ⟨L, es', hL, hh, hs, he⟩ := h
    exact ⟨L, es', hle _ _ hL, by rw [hk rfl L hL]; exact hh, hs, fun i e e' h1 h2 => ⟨(he i e e' h1 h2).1.mono hle, (he i e e' h1 h2).2.1.mono hle, (he i e e' h1 h2).2.2⟩⟩
  | gone => trivial

/-- What a step may have done to a world: what it does not own is as it was. -/
structure Ext (ι : Map) (C : Cont) (w : World) (ι' : Map) (C' : Cont) (w' : World) : Prop where
  le : Le ι ι'
  size : w.heap.size ≤ w'.heap.size
  os : w'.os = w.os
  tape : w'.tape = w.tape
  output : w'.output = w.output
  frame : ∀ k, k < w.heap.size → ¬ OwnR ι C k → w'.heap[k]? = w.heap[k]?
  own : ∀ k, OwnR ι' C' k → OwnR ι C k ∨ w.heap.size ≤ k
  live : ∀ k, LiveR ι' C' k → LiveR ι C k ∨ w.heap.size ≤ k
  fro : ∀ r c, ι'.fro r = some c → ι.fro r = some c ∨ OwnR ι C r ∨ w.heap.size ≤ r

theorem Ext.refl (ι : Map) (C : Cont) (w : World) : Ext ι C w ι C w := ⟨Le.refl _, Nat.le_refl _, rfl, rfl, rfl, fun _ _ _ => rfl, fun _ h => .inl h, fun _ h => .inl h, fun _ _ h => .inl h⟩

theorem Ext.drew {ι ι' : Map} {C C' : Cont} {w w' : World} {n : Nat} (h : Ext ι C { w with drawn := n } ι' C' w') : Ext ι C w ι' C' w' := ⟨h.le, h.size, h.os, h.tape, h.output, h.frame, h.own, h.live, h.fro⟩

theorem Ext.trans {ι ι' ι'' : Map} {C C' C'' : Cont} {w w' w'' : World} (h : Ext ι C w ι' C' w') (k : Ext ι' C' w' ι'' C'' w'') : Ext ι C w ι'' C'' w'' where
  le := h.le.trans k.le
  size := Nat.le_trans h.size k.size
  os := k.os.trans h.os
  tape := k.tape.trans h.tape
  output := k.output.trans h.output
  frame := fun x hx hn => (k.frame x (Nat.lt_of_lt_of_le hx h.size) (fun ho => (h.own x ho).elim hn (fun hge => absurd hx (Nat.not_lt.2 hge)))).trans (h.frame x hx hn)
  own := fun x ho => (k.own x ho).elim (h.own x) (fun hge => .inr (Nat.le_trans h.size hge))
  live := fun x ho => (k.live x ho).elim (h.live x) (fun hge => .inr (Nat.le_trans h.size hge))
  fro := fun r c hr => by
    rcases k.fro r c hr with h1 | h1 | h1
    · exact h.fro r c h1
    · exact (h.own r h1).elim (fun h2 => .inr (.inl h2)) (fun h2 => .inr (.inr h2))
    · exact .inr (.inr (Nat.le_trans h.size h1))

/-- Only some blocks of a memory. -/
def Cont.only (C : Cont) (R : Nat → Bool) : Cont := fun b => if R b then C b else .gone

theorem Sim.only {ι : Map} {C : Cont} {w : World} (h : Sim ι C w) (R : Nat → Bool) : Sim ι (C.only R) w where
  blk := fun b => by
    unfold Cont.only
    split
    · exact h.blk b
    · trivial
  sep := fun b b2 L L2 hne ho hl => by
    unfold Cont.only at ho hl
    split at ho
    · split at hl
      · exact h.sep b b2 L L2 hne ho hl
      · cases hl
    · cases ho
  fro := h.fro
  apart := fun b L r c ho => by
    unfold Cont.only at ho
    split at ho
    · exact h.apart b L r c ho
    · cases ho
  glo := h.glo

/-- THE FRAME: what a step does to the blocks that it touches, it does in any greater memory. -/
theorem Sim.frame {ι ι' : Map} {C C' D : Cont} {w w' : World} {R T : Nat → Bool} (hs : Sim ι C w) (hRT : ∀ b, R b = true → T b = true)
    (he : Ext ι (C.only R) w ι' (C'.only T) w') (hs' : Sim ι' (C'.only T) w') (hD : ∀ b, D b = if T b then C' b else C b) :
    Sim ι' D w' ∧ Ext ι C w ι' D w' := by
  have old : ∀ b, T b = false → (C b).live = true → ∃ L, ι b = some L ∧ L.blk < w.heap.size ∧ ι' b = some L := fun b hb hl => by
    obtain ⟨L, hL, hlt⟩ := (hs.blk b).loc hl
    exact ⟨L, hL, hlt, he.le _ _ hL⟩
  have ownOnly : ∀ k, OwnR ι (C.only R) k → OwnR ι C k := fun k ⟨b, L, ho, hL, hk⟩ => by
    unfold Cont.only at ho
    split at ho
    · exact ⟨b, L, ho, hL, hk⟩
    · cases ho
  have liveOnly : ∀ k, LiveR ι (C.only R) k → LiveR ι C k := fun k ⟨b, L, ho, hL, hk⟩ => by
    unfold Cont.only at ho
    split at ho
    · exact ⟨b, L, ho, hL, hk⟩
    · cases ho
  have inT : ∀ b, T b = true → (C'.only T) b = C' b := fun b hb => by simp [Cont.only, hb]
  have far : ∀ b L, T b = false → (C b).live = true → ι b = some L → ∀ b0 L0, ((C.only R) b0).own = true → ι b0 = some L0 → L0.blk ≠ L.blk := fun b L hb hl hL b0 L0 ho hL0 => by
    unfold Cont.only at ho
    split at ho
    · rename_i hR0
      have hne : b0 ≠ b := fun e => by have := hRT _ hR0; rw [e, hb] at this; cases this
      exact hs.sep b0 b L0 L hne ho hl hL0 hL
    · cases ho
  constructor
  · constructor
    · intro b
      rw [hD]
      cases hb : T b with
      | true =>
        simp only [if_true]
        have := hs'.blk b
        rwa [inT b hb] at this
      | false =>
        refine (hs.blk b).keep he.le fun hl L hL => ?_
        obtain ⟨L', hL', hlt, _⟩ := old b hb hl
        rw [hL] at hL'; cases hL'
        exact he.frame _ hlt fun ⟨b0, L0, ho, hL0, hk⟩ => far b L hb hl hL b0 L0 ho hL0 hk
    · intro b b2 L L2 hne ho hl hL hL2
      rw [hD] at ho hl
      cases hb : T b with
      | true =>
        simp only [hb, if_true] at ho
        cases hb2 : T b2 with
        | true =>
          simp only [hb2, if_true] at hl
          exact hs'.sep b b2 L L2 hne (by rw [inT b hb]; exact ho) (by rw [inT b2 hb2]; exact hl) hL hL2
        | false =>
          simp only [hb2] at hl
          obtain ⟨L2', hL2', hlt, hL2''⟩ := old b2 hb2 hl
          rw [hL2] at hL2''; cases hL2''
          rcases he.own L.blk ⟨b, L, by rw [inT b hb]; exact ho, hL, rfl⟩ with ⟨b0, L0, ho0, hL0, hk⟩ | hge
          · rw [← hk]; exact far b2 L2 hb2 hl hL2' b0 L0 ho0 hL0
          · omega
      | false =>
        simp only [hb] at ho
        obtain ⟨L', hL', hlt, hL''⟩ := old b hb (Blk.live_of_own ho)
        rw [hL] at hL''; cases hL''
        cases hb2 : T b2 with
        | true =>
          simp only [hb2, if_true] at hl
          rcases he.live L2.blk ⟨b2, L2, by rw [inT b2 hb2]; exact hl, hL2, rfl⟩ with ⟨b0, L0, hl0, hL0, hk⟩ | hge
          · unfold Cont.only at hl0
            split at hl0
            · rename_i hR0
              have hne : b ≠ b0 := fun e => by have := hRT _ hR0; rw [← e, hb] at this; cases this
              rw [← hk]; exact hs.sep b b0 L L0 hne ho hl0 hL' hL0
            · cases hl0
          · omega
        | false =>
          simp only [hb2] at hl
          obtain ⟨L2', hL2', _, hL2''⟩ := old b2 hb2 hl
          rw [hL2] at hL2''; cases hL2''
          exact hs.sep b b2 L L2 hne ho hl hL' hL2'
    · exact hs'.fro
    · intro b L r c ho hL hr
      rw [hD] at ho
      cases hb : T b with
      | true =>
        simp only [hb, if_true] at ho
        exact hs'.apart b L r c (by rw [inT b hb]; exact ho) hL hr
      | false =>
        simp only [hb] at ho
        obtain ⟨L', hL', hlt, hL''⟩ := old b hb (Blk.live_of_own ho)
        rw [hL] at hL''; cases hL''
        rcases he.fro r c hr with h | ⟨b0, L0, ho0, hL0, hk⟩ | h
        · exact hs.apart b L r c ho hL' h
        · rw [← hk]; exact Ne.symm (far b L hb (Blk.live_of_own ho) hL' b0 L0 ho0 hL0)
        · omega
    · exact hs'.glo
  · refine ⟨he.le, he.size, he.os, he.tape, he.output, fun k hk hn => he.frame k hk (fun h => hn (ownOnly k h)), fun k => ?_, fun k => ?_, fun r c hr => (he.fro r c hr).imp id (Or.imp (ownOnly r) id)⟩
    · rintro ⟨b, L, ho, hL, hk⟩
      rw [hD] at ho
      cases hb : T b with
      | true =>
        simp only [hb, if_true] at ho
        exact (he.own k ⟨b, L, by rw [inT b hb]; exact ho, hL, hk⟩).imp (ownOnly k) id
      | false =>
        simp only [hb] at ho
        obtain ⟨L', hL', _, hL''⟩ := old b hb (Blk.live_of_own ho)
        rw [hL] at hL''; cases hL''
        exact .inl ⟨b, L, ho, hL', hk⟩
    · rintro ⟨b, L, ho, hL, hk⟩
      rw [hD] at ho
      cases hb : T b with
      | true =>
        simp only [hb, if_true] at ho
        exact (he.live k ⟨b, L, by rw [inT b hb]; exact ho, hL, hk⟩).imp (liveOnly k) id
      | false =>
        simp only [hb] at ho
        obtain ⟨L', hL', _, hL''⟩ := old b hb ho
        rw [hL] at hL''; cases hL''
        exact .inl ⟨b, L, ho, hL', hk⟩

end

section


/-- What a step touches: blocks (all; those written). -/
structure Fp where
  rd : List Nat
  wr : List Nat

def at_ (m : List Blk) : Cont := fun b => m.getD b .gone

/-- Blocks touched or new. -/
def tch (rd : List Nat) (lo hi : Nat) : Nat → Bool := fun b => rd.contains b || (decide (lo ≤ b) && decide (b < hi))
def isIn (l : List Nat) : Nat → Bool := fun b => l.contains b

def slotsOf (o : Oper) : List Nat := o.op.operands.toList.filterMap fun | .tmp t => some t | _ => none

def act (t : Array Value) : Act := ⟨t, []⟩

/-- An operation, carried out where the canonical slots and blocks that it looks at stand for the real ones, does what is said. -/
structure OpOk (P : Program) (o : Oper) (a : List Value) (m : List Blk) (v : Value) (m' : List Blk) (fp : Fp) : Prop where
  len : m.length ≤ m'.length
  sub : ∀ b, b ∈ fp.wr → b ∈ fp.rd
  rdlt : ∀ b, b ∈ fp.rd → b < m.length
  same : ∀ b, b < m.length → b ∉ fp.wr → m'.getD b .gone = m.getD b .gone
  run : ∀ (ι : Map) (t : Array Value) (w : World), (∀ x, x ∈ slotsOf o → RV ι (a.getD x undef) (t.getD x undef)) →
    (∀ b, m.length ≤ b → b < m'.length → ι b = none) → Sim ι ((at_ m).only (isIn fp.rd)) w →
    ∀ (next : Act → World → Prop) (Q : Exit → Act → World → Prop),
      (∀ v' w1 ι', RV ι' v v' → Ext ι ((at_ m).only (isIn fp.rd)) w ι' ((at_ m').only (tch fp.rd m.length m'.length)) w1 →
        Sim ι' ((at_ m').only (tch fp.rd m.length m'.length)) w1 → (∀ b, ι b = none → ι' b ≠ none → m.length ≤ b ∧ b < m'.length) → next ((act t).put o.dst v') w1) →
      o.wp P (act t) w next Q

def put (a : List Value) (d : Option Nat) (v : Value) : List Value :=
  match d with
  | some d => a.set d v
  | none => a

/-- The slot that a guard reads. -/
def guardSlot (ops : Array Oper) (o : Oper) : Option Nat :=
  match o.guard with
  | none => none
  | some (j, _) => (ops[j]?).bind (·.dst)

/-- Is it wanted, as far as is known? -/
def wantedC (ops : Array Oper) (o : Oper) (a : List Value) : Option Bool :=
  match o.guard with
  | none => some true
  | some (j, want) =>
    match (ops[j]?).bind (·.dst) with
    | none => none
    | some d => match a.getD d undef with
      | .bool b => some (b == want)
      | .chan none => some false
      | _ => none

/-- One step of a region: operation i. -/
inductive StepAt (P : Program) (ops : Array Oper) (i : Nat) (a : List Value) (m : List Blk) : List Value → List Blk → Fp → Prop
  | skip {o : Oper} (ho : ops[i]? = some o) (hw : wantedC ops o a = some false) : StepAt P ops i a m (put a o.dst (.chan none)) m ⟨[], []⟩
  | op {o : Oper} {v : Value} {m' : List Blk} {fp : Fp} (ho : ops[i]? = some o) (hw : wantedC ops o a = some true) (h : OpOk P o a m v m' fp) :
      StepAt P ops i a m (put a o.dst v) m' fp

/-- As a step; or one that reads a block where it holds either of two things (sf: the block, the other thing). -/
inductive StepS (P : Program) (ops : Array Oper) (i : Nat) (a : List Value) (m : List Blk) : List Value → List Blk → Fp → Option (Nat × Blk) → Prop
  | hard {a' : List Value} {m' : List Blk} {fp : Fp} (h : StepAt P ops i a m a' m' fp) : StepS P ops i a m a' m' fp none
  | soft {o : Oper} {v : Value} {fp : Fp} {b : Nat} {x : Blk} (ho : ops[i]? = some o) (hw : wantedC ops o a = some true) (h : OpOk P o a m v m fp) (h2 : OpOk P o a (m.set b x) v (m.set b x) fp) (hwr : fp.wr = []) (hb : b < m.length) :
      StepS P ops i a m (put a o.dst v) m ⟨fp.rd.filter (fun r => !Nat.beq r b), []⟩ (some (b, x))

theorem getD_put {a : List Value} {d : Option Nat} {v : Value} {x : Nat} (h : d ≠ some x) : (put a d v).getD x undef = a.getD x undef := by
  cases d with
  | none => rfl
  | some d =>
    have : d ≠ x := fun e => h (e ▸ rfl)
    simp [put, List.getD_eq_getElem?_getD, this]

theorem length_put (a : List Value) (d : Option Nat) (v : Value) : (put a d v).length = a.length := by cases d <;> simp [put]

theorem rv_put {ι : Map} {a : List Value} {t : Array Value} {d : Option Nat} {v v' : Value} (hs : a.length ≤ t.size) (hv : RV ι v v') (x : Nat)
    (h : RV ι (a.getD x undef) (t.getD x undef)) : RV ι ((put a d v).getD x undef) (((act t).put d v').tmps.getD x undef) := by
  cases d with
  | none => exact h
  | some d =>
    simp only [Act.put, act]
    by_cases hdx : d = x
    · subst hdx
      by_cases hl : d < a.length
      · have h1 : (put a (some d) v).getD d undef = v := by simp [put, List.getD_eq_getElem?_getD, hl]
        have h2 : (t.setIfInBounds d v').getD d undef = v' := by
          have : d < t.size := by omega
          simp [Array.getD_eq_getD_getElem?, this]
        rw [h1, h2]; exact hv
      · have h1 : (put a (some d) v).getD d undef = undef := by
          simp [put, List.getD_eq_getElem?_getD, List.getElem?_eq_none (l := a.set d v) (i := d) (by simp; omega)]
        rw [h1]; exact .any _
    · rw [getD_put (by simpa using hdx)]
      have h2 : (t.setIfInBounds d v').getD x undef = t.getD x undef := by
        simp [Array.getD_eq_getD_getElem?, Array.getElem?_setIfInBounds_ne hdx]
      rw [h2]; exact h

theorem RV.bool_inv {ι : Map} {b : Bool} {v : Value} (h : RV ι (.bool b) v) : v = .bool b := by
  cases h; rfl

/-- What the canonical guard says, the real one says. -/
theorem wanted_of {ops : Array Oper} {o : Oper} {a : List Value} {t : Array Value} {ι : Map} {b : Bool} (h : wantedC ops o a = some b)
    (hr : ∀ x, guardSlot ops o = some x → RV ι (a.getD x undef) (t.getD x undef)) : Region.wanted o (yielded ops t) = b := by
  unfold wantedC at h
  unfold Region.wanted
  cases hg : o.guard with
  | none => simp only [hg] at h; cases h; rfl
  | some g =>
    obtain ⟨j, want⟩ := g
    simp only [hg] at h
    cases hd : (ops[j]?).bind (·.dst) with
    | none => simp only [hd] at h; cases h
    | some d =>
      simp only [hd] at h
      have hr' := hr d (by simp [guardSlot, hg, hd])
      cases hv : a.getD d undef with
      | bool c =>
        simp only [hv] at h
        cases h
        rw [hv] at hr'
        have ht := hr'.bool_inv
        have hlt : t[d]? = some (.bool c) := by
          rw [Array.getD_eq_getD_getElem?] at ht
          cases hx : t[d]? with
          | none => rw [hx] at ht; simp [undef] at ht
          | some u => rw [hx] at ht; simp at ht; rw [ht]
        simp only []
        have hy : yielded ops t j = some c := by
          unfold yielded
          rw [hd]
          simp [hlt]
        rw [hy]
        cases c <;> cases want <;> rfl
      | chan r =>
        cases r with
        | some _ => simp only [hv] at h; cases h
        | none =>
          simp only [hv] at h
          cases h
          rw [hv] at hr'
          have ht : t.getD d undef = undef := by
            generalize t.getD d undef = u at hr'
            cases hr'
            rfl
          have hy : yielded ops t j = none := by
            unfold yielded
            rw [hd]
            rw [Array.getD_eq_getD_getElem?] at ht
            cases hx : t[d]? with
            | none => simp [hx]
            | some u =>
              rw [hx] at ht
              have hu : u = undef := ht
              subst hu
              simp [hx, undef]
          simp only []
          rw [hy]
          cases want <;> rfl
      | _ => simp only [hv] at h; cases h

/-! ### The last writer -/
def cur (wr S : Nat → Bool) : Nat → Nat
  | 0 => 0
  | k + 1 => if S k && wr k then k + 1 else cur wr S k

theorem cur_congr {wr S S' : Nat → Bool} : ∀ n, (∀ k, k < n → wr k = true → S k = S' k) → cur wr S n = cur wr S' n
  | 0, _ => rfl
  | n + 1, h => by
    simp only [cur]
    rw [cur_congr n (fun k hk => h k (by omega))]
    cases hw : wr n with
    | false => simp
    | true => rw [h n (by omega) hw]

theorem cur_above {wr S : Nat → Bool} {i : Nat} : ∀ n, i ≤ n → (∀ k, i ≤ k → k < n → wr k = true → S k = false) → cur wr S n = cur wr S i
  | 0, h, _ => by rw [Nat.le_zero.1 h]
  | n + 1, h, hk => by
    by_cases e : i = n + 1
    · rw [e]
    · simp only [cur]
      have : (S n && wr n) = false := by
        cases hw : wr n with
        | false => simp
        | true => rw [hk n (by omega) (by omega) hw]; rfl
      rw [this]
      exact cur_above n (by omega) (fun k h1 h2 => hk k h1 (by omega))

theorem cur_read {wr S : Nat → Bool} {n i : Nat} (hi : i ≤ n) (h1 : ∀ k, k < i → wr k = true → S k = true) (h2 : ∀ k, i ≤ k → k < n → wr k = true → S k = false) :
    cur wr S n = cur wr (fun _ => true) i := by
  rw [cur_above n hi h2]
  exact cur_congr i h1

theorem cur_state {α : Type} {wr : Nat → Bool} {X : Nat → α} : ∀ i, (∀ k, k < i → wr k = false → X (k + 1) = X k) → X (cur wr (fun _ => true) i) = X i
  | 0, _ => rfl
  | i + 1, h => by
    simp only [cur, Bool.true_and]
    cases hw : wr i with
    | true => simp
    | false =>
      simp only [Bool.false_eq_true, if_false]
      rw [h i (by omega) hw]
      exact cur_state i (fun k hk => h k (by omega))

def ins (S : Nat → Bool) (i : Nat) : Nat → Bool := fun k => S k || k == i

theorem cur_ins_other {wr S : Nat → Bool} {i n : Nat} (h : wr i = false) : cur wr (ins S i) n = cur wr S n :=
  cur_congr n fun k _ hw => by
    have : k ≠ i := fun e => by rw [e, h] at hw; cases hw
    simp [ins, this]

theorem cur_ins_self {wr S : Nat → Bool} {i n : Nat} (hi : i < n) (h : wr i = true) (h2 : ∀ k, i < k → k < n → wr k = true → S k = false) : cur wr (ins S i) n = i + 1 := by
  rw [cur_above (i := i + 1) n (by omega) (fun k h1 h3 hw => by
    have hne : k ≠ i := by omega
    simp [ins, hne, h2 k (by omega) h3 hw])]
  simp [cur, ins, h]

end

end Go.Dt
