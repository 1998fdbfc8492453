/- Operations over canonical memories, one by one: memory. -/
import Derived.Test.YtjfodgjgpeiaaaaDt5
namespace Go.Dt
open Go.Instr

section
variable {P : Program} {o : Oper} {a : List Value} {m : List Blk}

theorem RV.bool_of {ι : Map} {b : Bool} {v : Value} (h : RV ι (.bool b) v) : v = .bool b := h.bool_inv
theorem RV.int_inv {ι : Map} {k : IntKind} {n : Int} {v : Value} (h : RV ι (.int k n) v) : v = .int k n := by cases h; rfl
theorem RV.ptr_inv {ι : Map} {b off : Nat} {v : Value} (h : RV ι (.pointer (some ⟨b, off, none⟩)) v) : ∃ L, ι b = some L ∧ v = .pointer (some ⟨L.blk, L.off + off, none⟩) := by
  cases h with
  | ptr h => exact ⟨_, h, rfl⟩

/-- What a choice yields. -/
def pickC (c x y : Value) : Option Value :=
  match x, y, c with
  | .bool p, .bool q, .bool b => some (.bool (bif b then p else q))
  | .int k p, .int k' q, .bool b => if k = k' then some (.int k (bif b then p else q)) else none
  | x, _, .bool true => some x
  | _, y, .bool false => some y
  | _, _, _ => none

theorem pick_rv {ι : Map} {c x y v c' x' y' : Value} (h : pickC c x y = some v) (hc : RV ι c c') (hx : RV ι x x') (hy : RV ι y y') : ∃ b, c' = .bool b ∧ RV ι v (if b then x' else y') := by
  unfold pickC at h
  split at h
  · cases h
    have e1 := hc.bool_inv; have e2 := hx.bool_inv; have e3 := hy.bool_inv
    subst e1 e2 e3
    rename_i b
    exact ⟨b, rfl, by cases b <;> exact .bool _⟩
  · rename_i k p k' q b
    split at h
    · rename_i hk; subst hk
      cases h
      have e1 := hc.bool_inv; have e2 := hx.int_inv; have e3 := hy.int_inv
      subst e1 e2 e3
      exact ⟨b, rfl, by cases b <;> exact .int _ _⟩
    · cases h
  · cases h
    have e1 := hc.bool_inv; subst e1
    exact ⟨true, rfl, hx⟩
  · cases h
    have e1 := hc.bool_inv; subst e1
    exact ⟨false, rfl, hy⟩
  · cases h

theorem OpOk.pick {c x y : Operand} {v : Value} (ho : o.op = .pick c x y) (h1 : okConst c = true) (h2 : okConst x = true) (h3 : okConst y = true)
    (hv : pickC (evalC a c) (evalC a x) (evalC a y) = some v) : OpOk P o a m v m ⟨[], []⟩ :=
  OpOk.quiet fun ι t w hs => by
    obtain ⟨b, hb, hrv⟩ := pick_rv hv (rv_operand hs (x := c) (by rw [ho]; simp [Op.operands]) h1) (rv_operand hs (x := x) (by rw [ho]; simp [Op.operands]) h2) (rv_operand hs (x := y) (by rw [ho]; simp [Op.operands]) h3)
    refine ⟨_, hrv, ?_⟩
    unfold execOp; rw [ho]
    cases b <;> simp [asBool, hb]

theorem OpOk.nilCheck {x : Operand} {b off : Nat} (ho : o.op = .nilCheck x) (hx : evalC a x = .pointer (some ⟨b, off, none⟩)) (hc : okConst x = true) : OpOk P o a m (.pointer (some ⟨b, off, none⟩)) m ⟨[], []⟩ :=
  OpOk.quiet fun ι t w hs => by
    have h := rv_operand hs (x := x) (by rw [ho]; simp [Op.operands]) hc
    rw [hx] at h
    obtain ⟨L, hL, he⟩ := h.ptr_inv
    refine ⟨_, .ptr hL, ?_⟩
    unfold execOp; rw [ho]
    simp [he]

theorem OpOk.makeInterface {t : TypeId} {x : Operand} (ho : o.op = .makeInterface t x) (hc : okConst x = true) (ht : Nat.blt t frzT = true) (hu : (match P.underlying t with | some (.interface _) => false | some _ => true | none => false) = true) :
    OpOk P o a m (.iface t (evalC a x)) m ⟨[], []⟩ :=
  OpOk.quiet fun ι tt w hs => by
    have h := rv_operand hs (x := x) (by rw [ho]; simp [Op.operands]) hc
    refine ⟨_, .iface t (Nat.lt_of_succ_le (Nat.le_of_ble_eq_true ht)) h, ?_⟩
    unfold execOp; rw [ho]
    cases hd : P.underlying t with
    | none => simp [hd] at hu
    | some d => cases d <;> simp_all [Instr.makeInterface, run_underlying hd w]

theorem RV.of_map {ι : Map} {f f' : Operand → Value} {xs : Array Operand} (h : ∀ x, x ∈ xs → RV ι (f x) (f' x)) (i : Nat) : RV ι ((xs.map f).getD i undef) ((xs.map f').getD i undef) := by
  by_cases hi : i < xs.size
  · simpa [hi] using h xs[i] (by simp)
  · have : (xs.map f).getD i undef = undef := by
      have h2 : ¬ i < (xs.map f).size := by simpa using hi
      simp only [Array.getD, h2, dite_false]
    rw [this]; exact .any _

theorem OpOk.makeFunc {fn : Fn} {xs ys : Array Operand} (ho : o.op = .makeFunc fn xs ys) (hc : (xs ++ ys).all okConst = true) : OpOk P o a m (.func fn (xs.map (evalC a)) (ys.map (evalC a))) m ⟨[], []⟩ :=
  OpOk.quiet fun ι t w hs => by
    have hall : ∀ x, x ∈ xs ++ ys → RV ι (evalC a x) ((act t).eval x) := fun x hx =>
      rv_operand hs (x := x) (by rw [ho]; simpa [Op.operands] using hx) (by simpa using Array.all_eq_true_iff_forall_mem.1 hc x hx)
    refine ⟨.func fn (xs.map (act t).eval) (ys.map (act t).eval), .func fn (by simp) (by simp) (RV.of_map fun x hx => hall x (by simp [hx])) (RV.of_map fun x hx => hall x (by simp [hx])), ?_⟩
    unfold execOp; rw [ho]
    simp [Instr.makeFunc]

/-! ### Addresses -/
theorem addr_add (b off n : Nat) : (⟨b, off, none⟩ : Addr).add n = ⟨b, off + n, none⟩ := by
  unfold Addr.add
  split <;> simp_all

theorem OpOk.fieldAddr {t : TypeId} {x : Operand} {f : Nat} {fs : Array Field} {fd : Field} {b off n : Nat} (ho : o.op = .fieldAddr t x f) (hc : okConst x = true) (hx : evalC a x = .pointer (some ⟨b, off, none⟩))
    (hu : P.underlying t = some (.struct fs)) (hf : fs[f]? = some fd) (hz : szC P fd.type = some (n + 1)) : OpOk P o a m (.pointer (some ⟨b, off + fd.offset, none⟩)) m ⟨[], []⟩ :=
  OpOk.quiet fun ι tt w hs => by
    have h := rv_operand hs (x := x) (by rw [ho]; simp [Op.operands]) hc
    rw [hx] at h
    obtain ⟨L, hL, he⟩ := h.ptr_inv
    refine ⟨.pointer (some ⟨L.blk, L.off + (off + fd.offset), none⟩), .ptr hL, ?_⟩
    unfold execOp; rw [ho]
    simp [Instr.fieldAt, run_underlying hu w, hf, he, sureAddr, fieldPlace, run_szC hz, addr_add, Nat.add_assoc]

/-- An element's address: of an array at an address. -/
theorem OpOk.indexArr {t e : TypeId} {x ix : Operand} {len n : Nat} {k : IntKind} {i : Int} {b off : Nat} (ho : o.op = .indexAddr t x ix) (hc : okConst x = true) (hc2 : okConst ix = true) (hx : evalC a x = .pointer (some ⟨b, off, none⟩))
    (hi : evalC a ix = .int k i) (hu : P.underlying t = some (.array len e)) (hz : szC P e = some n) (h0 : 0 ≤ i) (h1 : i < len) : OpOk P o a m (.pointer (some ⟨b, off + i.toNat * n, none⟩)) m ⟨[], []⟩ :=
  OpOk.quiet fun ι tt w hs => by
    have h := rv_operand hs (x := x) (by rw [ho]; simp [Op.operands]) hc
    rw [hx] at h
    obtain ⟨L, hL, he⟩ := h.ptr_inv
    have h2 := rv_operand hs (x := ix) (by rw [ho]; simp [Op.operands]) hc2
    rw [hi] at h2
    have he2 := h2.int_inv
    refine ⟨.pointer (some ⟨L.blk, L.off + (off + i.toNat * n), none⟩), .ptr hL, ?_⟩
    unfold execOp; rw [ho]
    simp [Instr.indexAt, run_underlying hu w, he, he2, sureAddr, asIntOf, run_szC hz, addr_add, Nat.add_assoc, h0, h1]

/-- Of a slice. -/
theorem OpOk.indexSl {t e : TypeId} {x ix : Operand} {len cap n : Nat} {k : IntKind} {i : Int} {b off : Nat} (ho : o.op = .indexAddr t x ix) (hc : okConst x = true) (hc2 : okConst ix = true) (hx : evalC a x = .slice (some ⟨b, off, none⟩) len cap)
    (hi : evalC a ix = .int k i) (hu : P.underlying t = some (.slice e)) (hz : szC P e = some n) (h0 : 0 ≤ i) (h1 : i < len) : OpOk P o a m (.pointer (some ⟨b, off + i.toNat * n, none⟩)) m ⟨[], []⟩ :=
  OpOk.quiet fun ι tt w hs => by
    have h := rv_operand hs (x := x) (by rw [ho]; simp [Op.operands]) hc
    rw [hx] at h
    have h2 := rv_operand hs (x := ix) (by rw [ho]; simp [Op.operands]) hc2
    rw [hi] at h2
    have he2 := h2.int_inv
    generalize hy : (act tt).eval x = y at h
    cases h with
    | slice0 => omega
    | slice hL hcc hr =>
      rename_i cap' L
      refine ⟨.pointer (some ⟨L.blk, L.off + (off + i.toNat * n), none⟩), .ptr hL, ?_⟩
      unfold execOp; rw [ho]
      simp [Instr.indexAt, run_underlying hu w, hy, he2, asIntOf, run_szC hz, addr_add, Nat.add_assoc, h0, h1]

/-! ### Loads and stores -/
theorem cell_of {w : World} {L : Loc} {c' : Array Value} {e : TypeId} {fz : Nat × Nat} (hh : w.heap[L.blk]? = some (.cells c' e fz)) {i : Nat} (hi : i < c'.size) : w.cell? ⟨L.blk, i, none⟩ = some (c'.getD i undef) := by
  simp [World.cell?, hh, hi]

theorem OpOk.load1 {t : TypeId} {x : Operand} {b off : Nat} {c : List Value} {sz : Nat} {rw_ : Bool} {v : Value} (ho : o.op = .load t x) (hc : okConst x = true) (hx : evalC a x = .pointer (some ⟨b, off, none⟩)) (hb : m[b]? = some (.cells c sz rw_))
    (ht : isAggC P t = some false) (hv : c[off]? = some v) : OpOk P o a m v m ⟨[b], []⟩ := by
  have hblt : b < m.length := (List.getElem?_eq_some_iff.1 hb).1
  refine OpOk.reads (by simpa using hblt) fun ι tt w hs hbl => ?_
  have h := rv_operand hs (x := x) (by rw [ho]; simp [Op.operands]) hc
  rw [hx] at h
  obtain ⟨L, hL, he⟩ := h.ptr_inv
  have := hbl b (by simp)
  rw [show m.getD b .gone = .cells c sz rw_ by simp [List.getD_eq_getElem?_getD, hb]] at this
  obtain ⟨L', c', e, fz, hL', hh, hfit, _, _, hcells⟩ := this
  rw [hL] at hL'; cases hL'
  have hlt : off < c.length := (List.getElem?_eq_some_iff.1 hv).1
  have hrv := hcells off hlt
  rw [show c.getD off undef = v by simp [List.getD_eq_getElem?_getD, hv]] at hrv
  refine ⟨_, hrv, ?_⟩
  unfold execOp; rw [ho]
  have hcell := cell_of (L := L) hh (i := L.off + off) (by omega)
  simp [loadAt, he, sureAddr, loadVar, run_isAgg ht w, hcell]

theorem toArr_range (n : Nat) (f : Nat → Value) (i : Nat) : ((List.range n).map f).toArray.getD i undef = if i < n then f i else undef := by
  by_cases h : i < n
  · simp [h]
  · simp [h]

theorem OpOk.loadN {t : TypeId} {x : Operand} {b off n : Nat} {c : List Value} {sz : Nat} {rw_ : Bool} (ho : o.op = .load t x) (hc : okConst x = true) (hx : evalC a x = .pointer (some ⟨b, off, none⟩)) (hb : m[b]? = some (.cells c sz rw_))
    (ht : isAggC P t = some true) (hn : szC P t = some n) (hfit : off + n ≤ c.length) : OpOk P o a m (.agg ((c.drop off).take n).toArray) m ⟨[b], []⟩ := by
  have hblt : b < m.length := (List.getElem?_eq_some_iff.1 hb).1
  refine OpOk.reads (by simpa using hblt) fun ι tt w hs hbl => ?_
  have h := rv_operand hs (x := x) (by rw [ho]; simp [Op.operands]) hc
  rw [hx] at h
  obtain ⟨L, hL, he⟩ := h.ptr_inv
  have := hbl b (by simp)
  rw [show m.getD b .gone = .cells c sz rw_ by simp [List.getD_eq_getElem?_getD, hb]] at this
  obtain ⟨L', c', e, fz, hL', hh, hfit', _, _, hcells⟩ := this
  rw [hL] at hL'; cases hL'
  refine ⟨.agg ((List.range n).map fun j => c'.getD (L.off + off + j) undef).toArray, .agg (by simp; omega) (fun i => ?_), ?_⟩
  · rw [toArr_range]
    by_cases hi : i < n
    · rw [if_pos hi]
      have h1 : ((c.drop off).take n).toArray.getD i undef = c.getD (off + i) undef := by
        simp [List.getD_eq_getElem?_getD, hi]
      rw [h1, Nat.add_assoc]
      exact hcells (off + i) (by omega)
    · rw [if_neg hi]
      have h1 : ((c.drop off).take n).toArray.getD i undef = undef := by
        simp [List.getElem?_take, hi]
      rw [h1]; exact .any _
  · unfold execOp; rw [ho]
    have hl := run_loadCells (P := P) w ⟨L.blk, L.off + off, none⟩ n (fun j => c'.getD (L.off + off + j) undef) (fun j hj => by rw [addr_add]; exact cell_of hh (by omega))
    simp [loadAt, he, sureAddr, loadVar, run_isAgg ht w, run_szC hn, hl]

/-- One cell, neither an aggregate nor unknown. -/
def one : Value → Bool
  | .agg _ | .tuple _ | .chan _ => false
  | _ => true

theorem RV.one {ι : Map} {v v' : Value} (h : RV ι v v') (ho : one v = true) : v'.oneCell' = true := by
  cases h <;> simp_all [Dt.one, undef, Value.oneCell']

theorem setRow_eq {w : World} {g : Nat} {c c2 : Array Value} {e : TypeId} {fz : Nat × Nat} (hh : w.heap[g]? = some (.cells c e fz)) : w.setRow g c2 = { w with heap := w.heap.setIfInBounds g (.cells c2 e fz) } := by
  unfold World.setRow
  congr 1
  apply Array.ext_getElem?
  intro i
  have hlt : g < w.heap.size := (Array.getElem?_eq_some_iff.1 hh).1
  rw [Array.getElem?_modify, Array.getElem?_setIfInBounds]
  by_cases hi : g = i
  · subst hi
    rw [if_pos rfl, if_pos rfl, hh, if_pos hlt]
    rfl
  · simp [hi]

theorem cells_of_one {v : Value} (h : one v = true) : v.cells = #[v] := by cases v <;> simp_all [one, Value.cells]

/-- A store of a list of cells into a row. -/
def splice (c : List Value) (off : Nat) (vs : List Value) : List Value := c.take off ++ vs ++ c.drop (off + vs.length)

theorem splice_length {c vs : List Value} {off : Nat} (h : off + vs.length ≤ c.length) : (splice c off vs).length = c.length := by
  simp [splice]; omega

theorem splice_get {c vs : List Value} {off : Nat} (h : off + vs.length ≤ c.length) (i : Nat) (d : Value) : (splice c off vs).getD i d = if off ≤ i ∧ i < off + vs.length then vs.getD (i - off) d else c.getD i d := by
  unfold splice
  simp only [List.getD_eq_getElem?_getD]
  have hl : (c.take off).length = off := by simp; omega
  by_cases h1 : i < off
  · rw [if_neg (by omega), List.append_assoc, List.getElem?_append_left (by omega), List.getElem?_take_of_lt h1]
  · by_cases h2 : i < off + vs.length
    · rw [if_pos ⟨by omega, h2⟩, List.append_assoc, List.getElem?_append_right (by omega), hl, List.getElem?_append_left (by omega)]
    · rw [if_neg (by omega), List.getElem?_append_right (by simp; omega)]
      simp only [List.length_append, hl, List.getElem?_drop]
      congr 2
      omega

theorem run_storeCells {w : World} {g off : Nat} {c : Array Value} {e : TypeId} {vs : List Value} (hh : w.heap[g]? = some (.cells c e (0, 0))) (hfit : off + vs.length ≤ c.size) (h1 : ∀ v, v ∈ vs → v.oneCell' = true) :
    (storeCells ⟨g, off, none⟩ vs).run P w = .ok () { w with heap := w.heap.setIfInBounds g (.cells (splice c.toList off vs).toArray e (0, 0)) } := by
  have := run_storeCells_at P g off e vs 0 c w hh (by simpa using hfit) h1
  rw [this, setRow_eq hh]
  simp [splice]

theorem OpOk.store {t : TypeId} {x y : Operand} {b off n : Nat} {c : List Value} {sz : Nat} {v : Value} (ho : o.op = .store t x y) (hc : okConst x = true) (hc2 : okConst y = true) (hx : evalC a x = .pointer (some ⟨b, off, none⟩))
    (hb : m[b]? = some (.cells c sz true)) (hy : evalC a y = v) (hn : szC P t = some n) (hvn : v.cells.size = n) (hone : v.cells.toList.all one = true) (hfit : off + n ≤ c.length) :
    OpOk P o a m undef (m.set b (.cells (splice c off v.cells.toList) sz true)) ⟨[b], [b]⟩ := by
  have hblt : b < m.length := (List.getElem?_eq_some_iff.1 hb).1
  refine OpOk.writes (c := c) (by simp [List.getD_eq_getElem?_getD, hb]) hblt fun ι tt w L c' e hs hL hh hroom hsz hfit' hcells => ?_
  have h := rv_operand hs (x := x) (by rw [ho]; simp [Op.operands]) hc
  rw [hx] at h
  obtain ⟨L', hL', he⟩ := h.ptr_inv
  rw [hL] at hL'; cases hL'
  have h2 := rv_operand hs (x := y) (by rw [ho]; simp [Op.operands]) hc2
  rw [hy] at h2
  -- the cells of the real value
  have hcv : ∃ v', (act tt).eval y = v' ∧ v'.cells.size = n ∧ (∀ i, i < n → RV ι (v.cells.getD i undef) (v'.cells.getD i undef)) ∧ ∀ u, u ∈ v'.cells.toList → u.oneCell' = true := by
    have ones : ∀ i, i < n → one (v.cells.getD i undef) = true := fun i hi => by
      have := List.all_eq_true.1 hone (v.cells.getD i undef) (by
        have hlt : i < v.cells.size := by omega
        simp [hlt])
      exact this
    refine ⟨_, rfl, ?_⟩
    generalize (act tt).eval y = v' at h2
    have key : v'.cells.size = n ∧ ∀ i, i < n → RV ι (v.cells.getD i undef) (v'.cells.getD i undef) := by
      cases hv1 : one v with
      | true =>
        have hv1' := h2.one hv1
        have : v'.cells = #[v'] := by cases v' <;> simp_all [Value.oneCell', Value.cells]
        rw [cells_of_one hv1] at hvn ⊢
        rw [this]
        refine ⟨by simpa using hvn, fun i hi => ?_⟩
        have : i = 0 := by simp at hvn; omega
        subst this
        simpa using h2
      | false =>
        cases v with
        | agg cs =>
          obtain ⟨cs', rfl, hsz', hh'⟩ := h2.agg_inv
          exact ⟨by simpa [Value.cells, ← hsz'] using hvn, fun i _ => hh' i⟩
        | tuple cs =>
          have := ones 0 (by rw [← hvn]; simp [Value.cells])
          simp [Value.cells, one] at this
        | chan r =>
          have := ones 0 (by rw [← hvn]; simp [Value.cells])
          simp [Value.cells, one] at this
        | _ => simp [one] at hv1
    refine ⟨key.1, key.2, fun u hu' => ?_⟩
    obtain ⟨i, hi, hiu⟩ := List.getElem_of_mem hu'
    have hi' : i < n := by rw [← key.1]; simpa using hi
    have := (key.2 i hi').one (ones i hi')
    have he2 : v'.cells.getD i undef = u := by
      have : i < v'.cells.size := by simpa using hi
      simp only [Array.getD, this, dite_true]
      simpa using hiu
    rwa [he2] at this
  obtain ⟨v', hv', hn', hrv', hones⟩ := hcv
  have hlen : v'.cells.toList.length = n := by simpa using hn'
  have hlen0 : v.cells.toList.length = n := by simpa using hvn
  refine ⟨(splice c'.toList (L.off + off) v'.cells.toList).toArray, ?_, ?_, fun i hi => ?_, .skip, undef, ?_, .any _, .inr ⟨rfl, rfl⟩⟩
  · have := splice_length (c := c'.toList) (vs := v'.cells.toList) (off := L.off + off) (by rw [hlen]; simp; omega)
    simpa using this
  · rw [splice_length (by rw [hlen0]; exact hfit)]; exact hfit'
  · rw [splice_length (by rw [hlen0]; exact hfit)] at hi
    have e1 := splice_get (c := c) (vs := v.cells.toList) (off := off) (by rw [hlen0]; exact hfit) i undef
    have e2 := splice_get (c := c'.toList) (vs := v'.cells.toList) (off := L.off + off) (by rw [hlen]; simp; omega) (L.off + i) undef
    have e3 : (splice c'.toList (L.off + off) v'.cells.toList).toArray.getD (L.off + i) undef = (splice c'.toList (L.off + off) v'.cells.toList).getD (L.off + i) undef := by
      simp [List.getD_eq_getElem?_getD]
    rw [e1, e3, e2, hlen, hlen0]
    by_cases hin : off ≤ i ∧ i < off + n
    · rw [if_pos hin, if_pos (by omega)]
      have := hrv' (i - off) (by omega)
      have e4 : L.off + i - (L.off + off) = i - off := by omega
      rw [e4]
      simpa [List.getD_eq_getElem?_getD] using this
    · rw [if_neg hin, if_neg (by omega)]
      have := hcells i hi
      simpa [List.getD_eq_getElem?_getD] using this
  · unfold execOp; rw [ho]
    have hst := run_storeCells (P := P) (w := w) (g := L.blk) (off := L.off + off) (vs := v'.cells.toList) hh (by rw [hlen]; omega) hones
    simp only [Instr.storeAt, he, sureAddr, hv', storeVar]
    simp [run_szC hn, hn', hst]

end
end Go.Dt
