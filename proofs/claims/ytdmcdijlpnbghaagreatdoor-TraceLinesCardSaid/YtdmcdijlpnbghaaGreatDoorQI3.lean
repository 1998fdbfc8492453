/- Several texts in one: Dt6, Dt7, Dt8. -/
import Derived.Test.YtdmcdijlpnbghaaGreatDoorQI2
namespace Go.Dt

section
open Go.Instr

section
variable {P : Program} {o : Oper} {a : List Value} {m : List Blk}

theorem RV.int_inv {ι : Map} {k : IntKind} {n : Int} {v : Value} (h : RV ι (.int k n) v) : v = .int k n := by cases h; rfl
theorem RV.ptr_inv {ι : Map} {b off : Nat} {v : Value} (h : RV ι (.pointer (some ⟨b, off, none⟩)) v) : ∃ L, ι b = some L ∧ v = .pointer (some ⟨L.blk, L.off + off, none⟩) := by
  cases h with
  | ptr h => exact ⟨_, h, rfl⟩

/-- What a choice yields. -/
def pickC (c x y : Value) : Option Value :=
  match x, y, c with
  | .bool p, .bool q, .bool b => some (.bool (bif b then p else q))
  | .int k p, .int k' q, .bool b => if k = k' then some (.int k (bif b then p else q)) else none
  | x, _, .bool true => some x
  | _, y, .bool false => some y
  | _, _, _ => none

theorem pick_rv {ι : Map} {c x y v c' x' y' : Value} (h : pickC c x y = some v) (hc : RV ι c c') (hx : RV ι x x') (hy : RV ι y y') : ∃ b, c' = .bool b ∧ RV ι v (if b then x' else y') := by
  unfold pickC at h
  split at h
  · cases h
    have e1 := hc.bool_inv; have e2 := hx.bool_inv; have e3 := hy.bool_inv
    subst e1 e2 e3
    rename_i b
    exact ⟨b, rfl, by cases b <;> exact .bool _⟩
  · rename_i k p k' q b
    split at h
    · rename_i hk; subst hk
      cases h
      have e1 := hc.bool_inv; have e2 := hx.int_inv; have e3 := hy.int_inv
      subst e1 e2 e3
      exact ⟨b, rfl, by cases b <;> exact .int _ _⟩
    · cases h
  · cases h
    have e1 := hc.bool_inv; subst e1
    exact ⟨true, rfl, hx⟩
  · cases h
    have e1 := hc.bool_inv; subst e1
    exact ⟨false, rfl, hy⟩
  · cases h

theorem OpOk.pick {c x y : Operand} {v : Value} (ho : o.op = .pick c x y) (h1 : okConst c = true) (h2 : okConst x = true) (h3 : okConst y = true)
    (hv : pickC (evalC a c) (evalC a x) (evalC a y) = some v) : OpOk P o a m v m ⟨[], []⟩ :=
  OpOk.quiet fun ι t w hs => by
    obtain ⟨b, hb, hrv⟩ := pick_rv hv (rv_operand hs (x := c) (by rw [ho]; simp [Op.operands]) h1) (rv_operand hs (x := x) (by rw [ho]; simp [Op.operands]) h2) (rv_operand hs (x := y) (by rw [ho]; simp [Op.operands]) h3)
    refine ⟨_, hrv, ?_⟩
    unfold execOp; rw [ho]
    cases b <;> simp [asBool, hb]

theorem OpOk.nilCheck {x : Operand} {b off : Nat} (ho : o.op = .nilCheck x) (hx : evalC a x = .pointer (some ⟨b, off, none⟩)) (hc : okConst x = true) : OpOk P o a m (.pointer (some ⟨b, off, none⟩)) m ⟨[], []⟩ :=
  OpOk.quiet fun ι t w hs => by
    have h := rv_operand hs (x := x) (by rw [ho]; simp [Op.operands]) hc
    rw [hx] at h
    obtain ⟨L, hL, he⟩ := h.ptr_inv
    refine ⟨_, .ptr hL, ?_⟩
    unfold execOp; rw [ho]
    simp [he]

theorem OpOk.makeInterface {t : TypeId} {x : Operand} (ho : o.op = .makeInterface t x) (hc : okConst x = true) (ht : Nat.blt t frzT = true) (hu : (match P.underlying t with | some (.interface _) => false | some _ => true | none => false) = true) :
    OpOk P o a m (.iface t (evalC a x)) m ⟨[], []⟩ :=
  OpOk.quiet fun ι tt w hs => by
    have h := rv_operand hs (x := x) (by rw [ho]; simp [Op.operands]) hc
    refine ⟨_, .iface t (Nat.lt_of_succ_le (Nat.le_of_ble_eq_true ht)) h, ?_⟩
    unfold execOp; rw [ho]
    cases hd : P.underlying t with
    | none => simp [hd] at hu
    | some d => cases d <;> simp_all [Instr.makeInterface, run_underlying hd w]

theorem RV.of_map {ι : Map} {f f' : Operand → Value} {xs : Array Operand} (h : ∀ x, x ∈ xs → RV ι (f x) (f' x)) (i : Nat) : RV ι ((xs.map f).getD i undef) ((xs.map f').getD i undef) := by
  by_cases hi : i < xs.size
  · simpa [hi] using h xs[i] (by simp)
  · have : (xs.map f).getD i undef = undef := by
      have h2 : ¬ i < (xs.map f).size := by simpa using hi
      simp only [Array.getD, h2, dite_false]
    rw [this]; exact .any _

theorem OpOk.makeFunc {fn : Fn} {xs ys : Array Operand} (ho : o.op = .makeFunc fn xs ys) (hc : (xs ++ ys).all okConst = true) : OpOk P o a m (.func fn (xs.map (evalC a)) (ys.map (evalC a))) m ⟨[], []⟩ :=
  OpOk.quiet fun ι t w hs => by
    have hall : ∀ x, x ∈ xs ++ ys → RV ι (evalC a x) ((act t).eval x) := fun x hx =>
      rv_operand hs (x := x) (by rw [ho]; simpa [Op.operands] using hx) (by simpa using Array.all_eq_true_iff_forall_mem.1 hc x hx)
    refine ⟨.func fn (xs.map (act t).eval) (ys.map (act t).eval), .func fn (by simp) (by simp) (RV.of_map fun x hx => hall x (by simp [hx])) (RV.of_map fun x hx => hall x (by simp [hx])), ?_⟩
    unfold execOp; rw [ho]
    simp [Instr.makeFunc]

/-! ### Addresses -/
theorem addr_add (b off n : Nat) : (⟨b, off, none⟩ : Addr).add n = ⟨b, off + n, none⟩ := by
  unfold Addr.add
  split <;> simp_all

theorem OpOk.fieldAddr {t : TypeId} {x : Operand} {f : Nat} {fs : Array Field} {fd : Field} {b off n : Nat} (ho : o.op = .fieldAddr t x f) (hc : okConst x = true) (hx : evalC a x = .pointer (some ⟨b, off, none⟩))
    (hu : P.underlying t = some (.struct fs)) (hf : fs[f]? = some fd) (hz : szC P fd.type = some (n + 1)) : OpOk P o a m (.pointer (some ⟨b, off + fd.offset, none⟩)) m ⟨[], []⟩ :=
  OpOk.quiet fun ι tt w hs => by
    have h := rv_operand hs (x := x) (by rw [ho]; simp [Op.operands]) hc
    rw [hx] at h
    obtain ⟨L, hL, he⟩ := h.ptr_inv
    refine ⟨.pointer (some ⟨L.blk, L.off + (off + fd.offset), none⟩), .ptr hL, ?_⟩
    unfold execOp; rw [ho]
    simp [Instr.fieldAt, run_underlying hu w, hf, he, sureAddr, fieldPlace, run_szC hz, addr_add, Nat.add_assoc]

/-- An element's address: of an array at an address. -/
theorem OpOk.indexArr {t e : TypeId} {x ix : Operand} {len n : Nat} {k : IntKind} {i : Int} {b off : Nat} (ho : o.op = .indexAddr t x ix) (hc : okConst x = true) (hc2 : okConst ix = true) (hx : evalC a x = .pointer (some ⟨b, off, none⟩))
    (hi : evalC a ix = .int k i) (hu : P.underlying t = some (.array len e)) (hz : szC P e = some n) (h0 : 0 ≤ i) (h1 : i < len) : OpOk P o a m (.pointer (some ⟨b, off + i.toNat * n, none⟩)) m ⟨[], []⟩ :=
  OpOk.quiet fun ι tt w hs => by
    have h := rv_operand hs (x := x) (by rw [ho]; simp [Op.operands]) hc
    rw [hx] at h
    obtain ⟨L, hL, he⟩ := h.ptr_inv
    have h2 := rv_operand hs (x := ix) (by rw [ho]; simp [Op.operands]) hc2
    rw [hi] at h2
    have he2 := h2.int_inv
    refine ⟨.pointer (some ⟨L.blk, L.off + (off + i.toNat * n), none⟩), .ptr hL, ?_⟩
    unfold execOp; rw [ho]
    simp [Instr.indexAt, run_underlying hu w, he, he2, sureAddr, asIntOf, run_szC hz, addr_add, Nat.add_assoc, h0, h1]

/-- Of a slice. -/
theorem OpOk.indexSl {t e : TypeId} {x ix : Operand} {len cap n : Nat} {k : IntKind} {i : Int} {b off : Nat} (ho : o.op = .indexAddr t x ix) (hc : okConst x = true) (hc2 : okConst ix = true) (hx : evalC a x = .slice (some ⟨b, off, none⟩) len cap)
    (hi : evalC a ix = .int k i) (hu : P.underlying t = some (.slice e)) (hz : szC P e = some n) (h0 : 0 ≤ i) (h1 : i < len) : OpOk P o a m (.pointer (some ⟨b, off + i.toNat * n, none⟩)) m ⟨[], []⟩ :=
  OpOk.quiet fun ι tt w hs => by
    have h := rv_operand hs (x := x) (by rw [ho]; simp [Op.operands]) hc
    rw [hx] at h
    have h2 := rv_operand hs (x := ix) (by rw [ho]; simp [Op.operands]) hc2
    rw [hi] at h2
    have he2 := h2.int_inv
    generalize hy : (act tt).eval x = y at h
    cases h with
    | slice0 => omega
    | slice hL hcc hr =>
      rename_i cap' L
      refine ⟨.pointer (some ⟨L.blk, L.off + (off + i.toNat * n), none⟩), .ptr hL, ?_⟩
      unfold execOp; rw [ho]
      simp [Instr.indexAt, run_underlying hu w, hy, he2, asIntOf, run_szC hz, addr_add, Nat.add_assoc, h0, h1]

/-! ### Loads and stores -/
theorem cell_of {w : World} {L : Loc} {c' : Array Value} {e : TypeId} {fz : Nat × Nat} (hh : w.heap[L.blk]? = some (.cells c' e fz)) {i : Nat} (hi : i < c'.size) : w.cell? ⟨L.blk, i, none⟩ = some (c'.getD i undef) := by
  simp [World.cell?, hh, hi]

theorem OpOk.load1 {t : TypeId} {x : Operand} {b off : Nat} {c : List Value} {sz : Nat} {rw_ : Bool} {v : Value} (ho : o.op = .load t x) (hc : okConst x = true) (hx : evalC a x = .pointer (some ⟨b, off, none⟩)) (hb : m[b]? = some (.cells c sz rw_))
    (ht : isAggC P t = some false) (hv : c[off]? = some v) : OpOk P o a m v m ⟨[b], []⟩ := by
  have hblt : b < m.length := (List.getElem?_eq_some_iff.1 hb).1
  refine OpOk.reads (by simpa using hblt) fun ι tt w hs hbl => ?_
  have h := rv_operand hs (x := x) (by rw [ho]; simp [Op.operands]) hc
  rw [hx] at h
  obtain ⟨L, hL, he⟩ := h.ptr_inv
  have := hbl b (by simp)
  rw [show m.getD b .gone = .cells c sz rw_ by simp [List.getD_eq_getElem?_getD, hb]] at this
  obtain ⟨L', c', e, fz, hL', hh, hfit, _, _, hcells⟩ := this
  rw [hL] at hL'; cases hL'
  have hlt : off < c.length := (List.getElem?_eq_some_iff.1 hv).1
  have hrv := hcells off hlt
  rw [show c.getD off undef = v by simp [List.getD_eq_getElem?_getD, hv]] at hrv
  refine ⟨_, hrv, ?_⟩
  unfold execOp; rw [ho]
  have hcell := cell_of (L := L) hh (i := L.off + off) (by omega)
  simp [loadAt, he, sureAddr, loadVar, run_isAgg ht w, hcell]

theorem toArr_range (n : Nat) (f : Nat → Value) (i : Nat) : ((List.range n).map f).toArray.getD i undef = if i < n then f i else undef := by
  by_cases h : i < n
  · simp [h]
  · simp [h]

theorem OpOk.loadN {t : TypeId} {x : Operand} {b off n : Nat} {c : List Value} {sz : Nat} {rw_ : Bool} (ho : o.op = .load t x) (hc : okConst x = true) (hx : evalC a x = .pointer (some ⟨b, off, none⟩)) (hb : m[b]? = some (.cells c sz rw_))
    (ht : isAggC P t = some true) (hn : szC P t = some n) (hfit : off + n ≤ c.length) : OpOk P o a m (.agg ((c.drop off).take n).toArray) m ⟨[b], []⟩ := by
  have hblt : b < m.length := (List.getElem?_eq_some_iff.1 hb).1
  refine OpOk.reads (by simpa using hblt) fun ι tt w hs hbl => ?_
  have h := rv_operand hs (x := x) (by rw [ho]; simp [Op.operands]) hc
  rw [hx] at h
  obtain ⟨L, hL, he⟩ := h.ptr_inv
  have := hbl b (by simp)
  rw [show m.getD b .gone = .cells c sz rw_ by simp [List.getD_eq_getElem?_getD, hb]] at this
  obtain ⟨L', c', e, fz, hL', hh, hfit', _, _, hcells⟩ := this
  rw [hL] at hL'; cases hL'
  refine ⟨.agg ((List.range n).map fun j => c'.getD (L.off + off + j) undef).toArray, .agg (by simp; omega) (fun i => ?_), ?_⟩
  · rw [toArr_range]
    by_cases hi : i < n
    · rw [if_pos hi]
      have h1 : ((c.drop off).take n).toArray.getD i undef = c.getD (off + i) undef := by
        simp [List.getD_eq_getElem?_getD, hi]
      rw [h1, Nat.add_assoc]
      exact hcells (off + i) (by omega)
    · rw [if_neg hi]
      have h1 : ((c.drop off).take n).toArray.getD i undef = undef := by
        simp [List.getElem?_take, hi]
      rw [h1]; exact .any _
  · unfold execOp; rw [ho]
    have hl := run_loadCells (P := P) w ⟨L.blk, L.off + off, none⟩ n (fun j => c'.getD (L.off + off + j) undef) (fun j hj => by rw [addr_add]; exact cell_of hh (by omega))
    simp [loadAt, he, sureAddr, loadVar, run_isAgg ht w, run_szC hn, hl]

/-- One cell, neither an aggregate nor unknown. -/
def one : Value → Bool
  | .agg _ | .tuple _ | .chan _ => false
  | _ => true

theorem RV.one {ι : Map} {v v' : Value} (h : RV ι v v') (ho : one v = true) : v'.oneCell' = true := by
  cases h <;> simp_all [Dt.one, undef, Value.oneCell']

theorem setRow_eq {w : World} {g : Nat} {c c2 : Array Value} {e : TypeId} {fz : Nat × Nat} (hh : w.heap[g]? = some (.cells c e fz)) : w.setRow g c2 = { w with heap := w.heap.setIfInBounds g (.cells c2 e fz) } := by
  unfold World.setRow
  congr 1
  apply Array.ext_getElem?
  intro i
  have hlt : g < w.heap.size := (Array.getElem?_eq_some_iff.1 hh).1
  rw [Array.getElem?_modify, Array.getElem?_setIfInBounds]
  by_cases hi : g = i
  · subst hi
    rw [if_pos rfl, if_pos rfl, hh, if_pos hlt]
    rfl
  · simp [hi]

theorem cells_of_one {v : Value} (h : one v = true) : v.cells = #[v] := by cases v <;> simp_all [one, Value.cells]

/-- A store of a list of cells into a row. -/
def splice (c : List Value) (off : Nat) (vs : List Value) : List Value := c.take off ++ vs ++ c.drop (off + vs.length)

theorem splice_length {c vs : List Value} {off : Nat} (h : off + vs.length ≤ c.length) : (splice c off vs).length = c.length := by
  simp [splice]; omega

theorem splice_get {c vs : List Value} {off : Nat} (h : off + vs.length ≤ c.length) (i : Nat) (d : Value) : (splice c off vs).getD i d = if off ≤ i ∧ i < off + vs.length then vs.getD (i - off) d else c.getD i d := by
  unfold splice
  simp only [List.getD_eq_getElem?_getD]
  have hl : (c.take off).length = off := by simp; omega
  by_cases h1 : i < off
  · rw [if_neg (by omega), List.append_assoc, List.getElem?_append_left (by omega), List.getElem?_take_of_lt h1]
  · by_cases h2 : i < off + vs.length
    · rw [if_pos ⟨by omega, h2⟩, List.append_assoc, List.getElem?_append_right (by omega), hl, List.getElem?_append_left (by omega)]
    · rw [if_neg (by omega), List.getElem?_append_right (by simp; omega)]
      simp only [List.length_append, hl, List.getElem?_drop]
      congr 2
      omega

theorem run_storeCells {w : World} {g off : Nat} {c : Array Value} {e : TypeId} {vs : List Value} (hh : w.heap[g]? = some (.cells c e (0, 0))) (hfit : off + vs.length ≤ c.size) (h1 : ∀ v, v ∈ vs → v.oneCell' = true) :
    (storeCells ⟨g, off, none⟩ vs).run P w = .ok () { w with heap := w.heap.setIfInBounds g (.cells (splice c.toList off vs).toArray e (0, 0)) } := by
  have := run_storeCells_at P g off e vs 0 c w hh (by simpa using hfit) h1
  rw [this, setRow_eq hh]
  simp [splice]

theorem OpOk.store {t : TypeId} {x y : Operand} {b off n : Nat} {c : List Value} {sz : Nat} {v : Value} (ho : o.op = .store t x y) (hc : okConst x = true) (hc2 : okConst y = true) (hx : evalC a x = .pointer (some ⟨b, off, none⟩))
    (hb : m[b]? = some (.cells c sz true)) (hy : evalC a y = v) (hn : szC P t = some n) (hvn : v.cells.size = n) (hone : v.cells.toList.all one = true) (hfit : off + n ≤ c.length) :
    OpOk P o a m undef (m.set b (.cells (splice c off v.cells.toList) sz true)) ⟨[b], [b]⟩ := by
  have hblt : b < m.length := (List.getElem?_eq_some_iff.1 hb).1
  refine OpOk.writes (c := c) (by simp [List.getD_eq_getElem?_getD, hb]) hblt fun ι tt w L c' e hs hL hh hroom hsz hfit' hcells => ?_
  have h := rv_operand hs (x := x) (by rw [ho]; simp [Op.operands]) hc
  rw [hx] at h
  obtain ⟨L', hL', he⟩ := h.ptr_inv
  rw [hL] at hL'; cases hL'
  have h2 := rv_operand hs (x := y) (by rw [ho]; simp [Op.operands]) hc2
  rw [hy] at h2
  -- the cells of the real value
  have hcv : ∃ v', (act tt).eval y = v' ∧ v'.cells.size = n ∧ (∀ i, i < n → RV ι (v.cells.getD i undef) (v'.cells.getD i undef)) ∧ ∀ u, u ∈ v'.cells.toList → u.oneCell' = true := by
    have ones : ∀ i, i < n → one (v.cells.getD i undef) = true := fun i hi => by
      have := List.all_eq_true.1 hone (v.cells.getD i undef) (by
        have hlt : i < v.cells.size := by omega
        simp [hlt])
      exact this
    refine ⟨_, rfl, ?_⟩
    generalize (act tt).eval y = v' at h2
    have key : v'.cells.size = n ∧ ∀ i, i < n → RV ι (v.cells.getD i undef) (v'.cells.getD i undef) := by
      cases hv1 : one v with
      | true =>
        have hv1' := h2.one hv1
        have : v'.cells = #[v'] := by cases v' <;> simp_all [Value.oneCell', Value.cells]
        rw [cells_of_one hv1] at hvn ⊢
        rw [this]
        refine ⟨by simpa using hvn, fun i hi => ?_⟩
        have : i = 0 := by simp at hvn; omega
        subst this
        simpa using h2
      | false =>
        cases v with
        | agg cs =>
          obtain ⟨cs', rfl, hsz', hh'⟩ := h2.agg_inv
          exact ⟨by simpa [Value.cells, ← hsz'] using hvn, fun i _ => hh' i⟩
        | tuple cs =>
          have := ones 0 (by rw [← hvn]; simp [Value.cells])
          simp [Value.cells, one] at this
        | chan r =>
          have := ones 0 (by rw [← hvn]; simp [Value.cells])
          simp [Value.cells, one] at this
        | _ => simp [one] at hv1
    refine ⟨key.1, key.2, fun u hu' => ?_⟩
    obtain ⟨i, hi, hiu⟩ := List.getElem_of_mem hu'
    have hi' : i < n := by rw [← key.1]; simpa using hi
    have := (key.2 i hi').one (ones i hi')
    have he2 : v'.cells.getD i undef = u := by
      have : i < v'.cells.size := by simpa using hi
      simp only [Array.getD, this, dite_true]
      simpa using hiu
    rwa [he2] at this
  obtain ⟨v', hv', hn', hrv', hones⟩ := hcv
  have hlen : v'.cells.toList.length = n := by simpa using hn'
  have hlen0 : v.cells.toList.length = n := by simpa using hvn
  refine ⟨(splice c'.toList (L.off + off) v'.cells.toList).toArray, ?_, ?_, fun i hi => ?_, .skip, undef, ?_, .any _, .inr ⟨rfl, rfl⟩⟩
  · have := splice_length (c := c'.toList) (vs := v'.cells.toList) (off := L.off + off) (by rw [hlen]; simp; omega)
    simpa using this
  · rw [splice_length (by rw [hlen0]; exact hfit)]; exact hfit'
  · rw [splice_length (by rw [hlen0]; exact hfit)] at hi
    have e1 := splice_get (c := c) (vs := v.cells.toList) (off := off) (by rw [hlen0]; exact hfit) i undef
    have e2 := splice_get (c := c'.toList) (vs := v'.cells.toList) (off := L.off + off) (by rw [hlen]; simp; omega) (L.off + i) undef
    have e3 : (splice c'.toList (L.off + off) v'.cells.toList).toArray.getD (L.off + i) undef = (splice c'.toList (L.off + off) v'.cells.toList).getD (L.off + i) undef := by
      simp [List.getD_eq_getElem?_getD]
    rw [e1, e3, e2, hlen, hlen0]
    by_cases hin : off ≤ i ∧ i < off + n
    · rw [if_pos hin, if_pos (by omega)]
      have := hrv' (i - off) (by omega)
      have e4 : L.off + i - (L.off + off) = i - off := by omega
      rw [e4]
      simpa [List.getD_eq_getElem?_getD] using this
    · rw [if_neg hin, if_neg (by omega)]
      have := hcells i hi
      simpa [List.getD_eq_getElem?_getD] using this
  · unfold execOp; rw [ho]
    have hst := run_storeCells (P := P) (w := w) (g := L.blk) (off := L.off + off) (vs := v'.cells.toList) hh (by rw [hlen]; omega) hones
    simp only [Instr.storeAt, he, sureAddr, hv', storeVar]
    simp [run_szC hn, hn', hst]

end

end

section
open Go.Instr

section
variable {P : Program} {o : Oper} {a : List Value} {m : List Blk}

def notTuple : Value → Bool
  | .tuple _ | .chan _ => false
  | _ => true

theorem cells_rv {ι : Map} {v v' : Value} (h : RV ι v v') (hn : notTuple v = true) : v.cells.size = v'.cells.size ∧ ∀ i : Nat, RV ι (v.cells.getD i undef) (v'.cells.getD i undef) := by
  have single : ∀ {u u' : Value}, RV ι u u' → u.cells = #[u] → u'.cells = #[u'] → u.cells.size = u'.cells.size ∧ ∀ i : Nat, RV ι (u.cells.getD i undef) (u'.cells.getD i undef) := by
    intro u u' hr h1 h2
    rw [h1, h2]
    refine ⟨rfl, fun i => ?_⟩
    cases i with
    | zero => simpa using hr
    | succ i => simpa using RV.any undef
  cases h with
  | agg hs hh => exact ⟨hs, hh⟩
  | any => simp [notTuple, undef] at hn
  | skip => simp [notTuple] at hn
  | tuple => simp [notTuple] at hn
  | bool b => exact single (.bool b) rfl rfl
  | int k n => exact single (.int k n) rfl rfl
  | float k n => exact single (.float k n) rfl rfl
  | string s => exact single (.string s) rfl rfl
  | nilp => exact single .nilp rfl rfl
  | ptr h => exact single (.ptr h) rfl rfl
  | nils l c => exact single (.nils l c) rfl rfl
  | slice h h1 h2 => exact single (.slice h h1 h2) rfl rfl
  | slice0 x y => exact single (.slice0 x y) rfl rfl
  | nilm => exact single .nilm rfl rfl
  | map h => exact single (.map h) rfl rfl
  | func fn h1 h2 h3 h4 => exact single (.func fn h1 h2 h3 h4) rfl rfl
  | nilFunc => exact single .nilFunc rfl rfl
  | yld => simp [notTuple] at hn
  | iface t ht h => exact single (.iface t ht h) rfl rfl
  | frz h h1 h2 h3 h4 => exact single (.frz h h1 h2 h3 h4) rfl rfl
  | frzN => exact single .frzN rfl rfl
  | frzE x cap => exact single (.frzE x cap) rfl rfl
  | empN => exact single .empN rfl rfl
  | empE x => exact single (.empE x) rfl rfl
  | anyB b => exact single (.anyB b) rfl rfl
  | frp h h1 h2 h3 => exact single (.frp h h1 h2 h3) rfl rfl
  | nilIface => exact single .nilIface rfl rfl

theorem OpOk.box {t : TypeId} {x : Operand} (ho : o.op = .box t x) (hc : okConst x = true) (hn : notTuple (evalC a x) = true) :
    OpOk P o a m (.pointer (some ⟨m.length, 0, none⟩)) (m ++ [.cells (evalC a x).cells.toList 0 true]) ⟨[], []⟩ :=
  OpOk.makes fun ι tt w hs => by
    have h := rv_operand hs (x := x) (by rw [ho]; simp [Op.operands]) hc
    obtain ⟨h1, h2⟩ := cells_rv h hn
    refine ⟨.pointer (some ⟨w.heap.size, 0, none⟩), ((act tt).eval x).cells, t, by simp [h1], fun i _ => ?_, fun ι' hle hι => ?_, ?_⟩
    · have := h2 i
      simpa [List.getD_eq_getElem?_getD] using this
    · exact RV.ptr (o := 0) hι
    · unfold execOp; rw [ho]
      simp [Instr.box, newVar, newRow, newObj, Sem.run]

theorem OpOk.alloc {t : TypeId} {i : TypeInfo} {z : Value} (ho : o.op = .alloc t) (hi : P.info? t = some i) (hz : i.zero = some z) (hp : plains z.cells.toList = true) :
    OpOk P o a m (.pointer (some ⟨m.length, 0, none⟩)) (m ++ [.cells z.cells.toList 0 true]) ⟨[], []⟩ :=
  OpOk.makes fun ι tt w hs => by
    refine ⟨.pointer (some ⟨w.heap.size, 0, none⟩), z.cells, t, by simp, fun j hj => ?_, fun ι' hle hι => ?_, ?_⟩
    · have := RV.refl ι _ (plains_get hp hj)
      have e : z.cells.toList.getD j undef = z.cells.getD j undef := by simp [List.getD_eq_getElem?_getD]
      rw [← e]; exact this
    · exact RV.ptr (o := 0) hι
    · unfold execOp; rw [ho]
      simp [Instr.alloc, zeroValue, run_info hi, hz, newVar, newRow, newObj, Sem.run]

theorem pureEval_bind {α β : Type} (s : Sem α) (f : α → Sem β) : pureEval P (s >>= f) = (pureEval P s).bind fun x => pureEval P (f x) := by
  show pureEval P (Sem.bind s f) = _
  induction s with
  | pure a => rfl
  | program k ih => simp only [Sem.bind, pureEval]; exact ih P
  | _ => rfl

@[simp] theorem pureEval_pure {α : Type} (x : α) : pureEval P (Pure.pure x : Sem α) = some x := rfl
@[simp] theorem pureEval_pure' {α : Type} (x : α) : pureEval P (Sem.pure x) = some x := rfl

/-! ### Aggregates built -/
def Rows (ι : Map) (cs cs' : Array Value) : Prop := cs.size = cs'.size ∧ ∀ i : Nat, RV ι (cs.getD i undef) (cs'.getD i undef)

theorem Rows.set {ι : Map} {cs cs' : Array Value} {v v' : Value} (h : Rows ι cs cs') (hv : RV ι v v') (j : Nat) : Rows ι (cs.setIfInBounds j v) (cs'.setIfInBounds j v') := by
  refine ⟨by simp [h.1], fun i => ?_⟩
  have hi := h.2 i
  simp only [Array.getD_eq_getD_getElem?, Array.getElem?_setIfInBounds] at hi ⊢
  by_cases hji : j = i
  · subst hji
    simp only [if_true, h.1]
    by_cases hlt : j < cs'.size
    · simpa [hlt] using hv
    · simpa [hlt] using RV.any undef
  · simpa [hji] using hi

theorem Rows.fold {ι : Map} {off : Nat} : ∀ (l l' : List (Value × Nat)) (cs cs' : Array Value), l.length = l'.length → (∀ (i : Nat) (p p' : Value × Nat), l[i]? = some p → l'[i]? = some p' → RV ι p.1 p'.1 ∧ p.2 = p'.2) → Rows ι cs cs' →
    Rows ι (l.foldl (fun cs (c, j) => cs.setIfInBounds (off + j) c) cs) (l'.foldl (fun cs (c, j) => cs.setIfInBounds (off + j) c) cs')
  | [], [], _, _, _, _, h => h
  | [], _ :: _, _, _, hl, _, _ => by simp at hl
  | _ :: _, [], _, _, hl, _, _ => by simp at hl
  | (c, j) :: l, (c', j') :: l', cs, cs', hl, hh, h => by
    obtain ⟨h1, h2⟩ := hh 0 _ _ rfl rfl
    simp only at h1 h2
    subst h2
    simp only [List.foldl_cons]
    exact Rows.fold l l' _ _ (by simpa using hl) (fun i p p' hp hp' => hh (i + 1) p p' (by simpa using hp) (by simpa using hp')) (h.set h1 _)

theorem fill_rv {ι : Map} {place : Nat → Option (Nat × Nat)} : ∀ (l l' : List (Nat × Value)) (cs cs' r : Array Value), l.length = l'.length →
    (∀ (i : Nat) (p p' : Nat × Value), l[i]? = some p → l'[i]? = some p' → p.1 = p'.1 ∧ RV ι p.2 p'.2) → (∀ p, p ∈ l → notTuple p.2 = true) → Rows ι cs cs' → fill place cs l = some r →
    ∃ r', fill place cs' l' = some r' ∧ Rows ι r r'
  | [], [], cs, cs', r, _, _, _, h, hf => by simp only [fill] at hf; cases hf; exact ⟨cs', rfl, h⟩
  | [], _ :: _, _, _, _, hl, _, _, _, _ => by simp at hl
  | _ :: _, [], _, _, _, hl, _, _, _, _ => by simp at hl
  | (i, v) :: l, (i', v') :: l', cs, cs', r, hl, hh, hn, h, hf => by
    obtain ⟨h1, h2⟩ := hh 0 _ _ rfl rfl
    simp only at h1 h2
    subst h1
    have hnv := hn (i, v) (by simp)
    obtain ⟨hc1, hc2⟩ := cells_rv h2 hnv
    simp only [fill] at hf ⊢
    cases hp : place i with
    | none => simp [hp] at hf
    | some q =>
      obtain ⟨off, size⟩ := q
      simp only [hp] at hf ⊢
      rw [← hc1, ← h.1]
      split at hf
      · cases hf
      · rename_i hcond
        rw [if_neg hcond]
        refine fill_rv l l' _ _ r (by simpa using hl) (fun k p p' hp hp' => hh (k + 1) p p' (by simpa using hp) (by simpa using hp')) (fun p hp => hn p (by simp [hp])) ?_ hf
        have e1 := Array.foldl_toList (f := fun (cs : Array Value) (x : Value × Nat) => cs.setIfInBounds (off + x.2) x.1) (init := cs) (xs := v.cells.zipIdx)
        have e2 := Array.foldl_toList (f := fun (cs : Array Value) (x : Value × Nat) => cs.setIfInBounds (off + x.2) x.1) (init := cs') (xs := v'.cells.zipIdx)
        rw [← e1, ← e2]
        refine Rows.fold _ _ _ _ (by simp [hc1]) (fun k p p' hp hp' => ?_) h
        simp only [Array.toList_zipIdx, List.getElem?_zipIdx, Option.map_eq_some_iff] at hp hp'
        obtain ⟨u, hu, rfl⟩ := hp
        obtain ⟨u', hu', rfl⟩ := hp'
        refine ⟨?_, rfl⟩
        have := hc2 k
        simp only [Array.getElem?_toList] at hu hu'
        simpa [Array.getD_eq_getD_getElem?, hu, hu'] using this

/-- The parts' values, as far as they are known. -/
def partsC (a : List Value) (ps : Array (Nat × Operand)) : Array (Nat × Value) := ps.map fun (i, x) => (i, evalC a x)

theorem OpOk.build {t : TypeId} {ps : Array (Nat × Operand)} {cs : Array Value} (ho : o.op = .build t ps) (hc : ps.toList.all (fun p => okConst p.2) = true)
    (hn : ps.toList.all (fun p => notTuple (evalC a p.2)) = true) {i : TypeInfo} {z : Value} (hi : P.info? t = some i) (hz : i.zero = some z) (hp : plains z.cells.toList = true)
    (h : pureEval P (Instr.build t (partsC a ps)) = some (.agg cs)) : OpOk P o a m (.agg cs) m ⟨[], []⟩ :=
  OpOk.quiet fun ι tt w hs => by
    have hops : ∀ p, p ∈ ps → RV ι (evalC a p.2) ((act tt).eval p.2) := fun p hp => rv_operand hs (x := p.2) (by rw [ho]; simp only [Op.operands]; simp only [List.mem_toArray, List.mem_map]; exact ⟨p, by simpa using hp, rfl⟩) (List.all_eq_true.1 hc p (by simpa using hp))
    have hz0 : Rows ι z.cells z.cells := ⟨rfl, fun j => by
      by_cases hj : j < z.cells.toList.length
      · have := RV.refl ι _ (plains_get hp hj)
        simpa [List.getD_eq_getElem?_getD] using this
      · have : z.cells.getD j undef = undef := by
          have h2 : ¬ j < z.cells.size := by simpa using hj
          simp only [Array.getD, h2, dite_false]
        rw [this]; exact .any _⟩
    have hfill : ∀ place r, fill place z.cells (partsC a ps).toList = some r → ∃ r', fill place z.cells (ps.map fun (i, x) => (i, (act tt).eval x)).toList = some r' ∧ Rows ι r r' := fun place r hf => by
      refine fill_rv _ _ _ _ _ (by simp [partsC]) (fun k p p' hp hp' => ?_) (fun p hp => ?_) hz0 hf
      · simp only [partsC, Array.toList_map, List.getElem?_map, Option.map_eq_some_iff] at hp hp'
        obtain ⟨q, hq, rfl⟩ := hp
        obtain ⟨q', hq', rfl⟩ := hp'
        rw [hq] at hq'; cases hq'
        exact ⟨rfl, hops q (by simpa using List.mem_of_getElem? hq)⟩
      · simp only [partsC, Array.toList_map, List.mem_map] at hp
        obtain ⟨q, hq, rfl⟩ := hp
        exact List.all_eq_true.1 hn q hq
    have hzv : pureEval P (zeroValue t) = some z := by
      simp [zeroValue, pureEval_bind, typeInfo, program, pureEval, hi, hz]
    cases hu : P.underlying t with
    | none =>
      have : pureEval P (underlying t) = none := by simp [underlying, program, pureEval_bind, pureEval, hu, stuck]
      simp [Instr.build, pureEval_bind, hzv, this] at h
    | some d =>
      have hud : pureEval P (underlying t) = some d := by simp [underlying, program, pureEval_bind, pureEval, hu]
      have target : ∀ cs', pureEval P (Instr.build t (ps.map fun (i, x) => (i, (act tt).eval x))) = some (.agg cs') → Rows ι cs cs' → ∃ v', RV ι (.agg cs) v' ∧ (execOp (act tt).eval o).run P w = .ok (.value v') w := fun cs' he hr => by
        refine ⟨.agg cs', .agg hr.1 hr.2, ?_⟩
        unfold execOp; rw [ho]
        simp only [Sem.run_bind, run_of_pureEval he w, Result.andThen_ok, Sem.run_pure]
      cases d with
      | struct fields =>
        simp only [Instr.build, pureEval_bind, hzv, hud, Option.bind_some] at h target
        cases hpl : pureEval P (fields.mapM fun f => do pure (f.offset, ← sizeOf f.type)) with
        | none => rw [hpl] at h; cases h
        | some places =>
          simp only [hpl, Option.bind_some] at h target
          cases hf : fill (places[·]?) z.cells (partsC a ps).toList with
          | none => simp [hf, stuck, pureEval] at h
          | some r =>
            simp only [hf] at h
            have : r = cs := by simpa [pureEval] using h
            subst this
            obtain ⟨r', hr', hrows⟩ := hfill _ _ hf
            exact target r' (by rw [hr']; rfl) hrows
      | array len elem =>
        simp only [Instr.build, pureEval_bind, hzv, hud, Option.bind_some] at h target
        cases hpl : pureEval P (sizeOf elem) with
        | none => simp [hpl] at h
        | some size =>
          simp only [hpl, Option.bind_some] at h target
          cases hf : fill (fun i => some (i * size, size)) z.cells (partsC a ps).toList with
          | none => simp [hf, stuck, pureEval] at h
          | some r =>
            simp only [hf] at h
            have : r = cs := by simpa [pureEval] using h
            subst this
            obtain ⟨r', hr', hrows⟩ := hfill _ _ hf
            exact target r' (by rw [hr']; rfl) hrows
      | _ => simp [Instr.build, pureEval_bind, hzv, hud, stuck, pureEval] at h

/-- The length of a slice. -/
theorem OpOk.lenSl {x : Operand} {t e : TypeId} {base : Option Addr} {l c : Nat} (ho : o.op = .call { callee := .builtin .len, args := #[x], argTypes := #[t] }) (hc : okConst x = true) (hx : evalC a x = .slice base l c)
    (hu : P.underlying t = some (.slice e)) : OpOk P o a m (.int .i64 l) m ⟨[], []⟩ :=
  OpOk.quiet fun ι tt w hs => by
    have h := rv_operand hs (x := x) (by rw [ho]; simp [Op.operands, Call.operands]) hc
    rw [hx] at h
    refine ⟨_, .int _ _, ?_⟩
    unfold execOp; rw [ho]
    generalize hy : (act tt).eval x = y at h
    cases h <;> simp [resolve, invoke, builtin, Builtin.len_, hy, run_underlying hu w, goInt]

end

end

section


/-- THE CONTRACT: called with values that stand for 'args', in a world where 'm' stands, the function returns what stands for 'v', and leaves 'm''. -/
def FnEq (P : Program) (f : FuncId) (args : List Value) (m : List Blk) (v : Value) (m' : List Blk) : Prop :=
  ∀ (ι : Map) (args' : Array Value) (w : World), args'.size = args.length → (∀ i, RV ι (args.getD i undef) (args'.getD i undef)) → Sim ι (at_ m) w → (∀ b, ι b ≠ none → b < m.length) →
    Calls P f args' w fun e w' => ∃ v' ι', e = .returned v' ∧ RV ι' v v' ∧ Sim ι' (at_ m') w' ∧ (∀ b, ι' b ≠ none → b < m'.length) ∧ Ext ι (at_ m) w ι' (at_ m') w'

/-- Where a callee's block lies in the caller's memory: the block, the first cell, and whether it is a window that is only read. -/
abbrev Emb := Nat → Option (Nat × Nat × Bool)

inductive Ren (κ : Emb) : Value → Value → Prop
  | plain {v : Value} (h : plain v = true) : Ren κ v v
  | undef (v : Value) : Ren κ undef v
  | ptr {b b' d o : Nat} {r : Bool} (h : κ b = some (b', d, r)) : Ren κ (.pointer (some ⟨b, o, none⟩)) (.pointer (some ⟨b', d + o, none⟩))
  | slice {b b' o l c : Nat} (h : κ b = some (b', 0, false)) : Ren κ (.slice (some ⟨b, o, none⟩) l c) (.slice (some ⟨b', o, none⟩) l c)
  | window {b b' d o l c c2 : Nat} (h : κ b = some (b', d, true)) (hc : c ≤ c2) : Ren κ (.slice (some ⟨b, o, none⟩) l c) (.slice (some ⟨b', d + o, none⟩) l c2)
  | map {b b' : Nat} (h : κ b = some (b', 0, false)) : Ren κ (.map (some b)) (.map (some b'))
  | func (fn : Fn) {xs xs' ys ys' : Array Value} (hx : xs.size = xs'.size) (hy : ys.size = ys'.size)
      (h : ∀ i : Nat, Ren κ (xs.getD i Go.undef) (xs'.getD i Go.undef)) (h' : ∀ i : Nat, Ren κ (ys.getD i Go.undef) (ys'.getD i Go.undef)) : Ren κ (.func fn xs ys) (.func fn xs' ys')
  | iface (t : TypeId) {v v' : Value} (ht : t < frzT) (h : Ren κ v v') : Ren κ (.iface t v) (.iface t v')
  | pure {v : Value} (h : pureV v = true) : Ren κ v v
  | agg {cs cs' : Array Value} (hs : cs.size = cs'.size) (h : ∀ i : Nat, Ren κ (cs.getD i Go.undef) (cs'.getD i Go.undef)) : Ren κ (.agg cs) (.agg cs')
  | tuple {cs cs' : Array Value} (hs : cs.size = cs'.size) (h : ∀ i : Nat, Ren κ (cs.getD i Go.undef) (cs'.getD i Go.undef)) : Ren κ (.tuple cs) (.tuple cs')

/-- The map of the callee. -/
def cmp (κ : Emb) (ι : Map) : Map := ⟨fun i => match κ i with
  | none => none
  | some (b, d, true) => (ι b).map fun L => { L with off := L.off + d, ro := true }
  | some (b, _, false) => ι b, ι.fro⟩

def GoodEmb (κ : Emb) : Prop := ∀ i b d, κ i = some (b, d, false) → d = 0

theorem Ren.down {κ : Emb} (hg : GoodEmb κ) {ι : Map} {v u : Value} (h : Ren κ v u) : ∀ {x : Value}, RV ι u x → RV (cmp κ ι) v x := by
  induction h with
  | plain h => intro x hx; rw [← hx.eq_of_plain h]; exact RV.refl _ _ h
  | undef v => intro x _; exact .any _
  | @ptr b b' d o r h =>
    intro x hx
    obtain ⟨L, hL, rfl⟩ := hx.ptr_inv
    cases r with
    | true =>
      have : cmp κ ι b = some { L with off := L.off + d, ro := true } := by simp [cmp, h, hL]
      have := RV.ptr (o := o) this
      simpa [Nat.add_assoc] using this
    | false =>
      have hd := hg _ _ _ h
      subst hd
      have : cmp κ ι b = some L := by simp [cmp, h, hL]
      simpa using RV.ptr (o := o) this
  | slice h =>
    intro x hx
    cases hx with
    | slice hL hc hr => exact .slice (by simp [cmp, h, hL]) hc hr
    | slice0 x y => exact .slice0 _ _
  | @window b b' d o l c c2 h hc =>
    intro x hx
    cases hx with
    | @slice _ _ _ _ c' L hL hc' hr =>
      have e : cmp κ ι b = some { L with off := L.off + d, ro := true } := by simp [cmp, h, hL]
      have := RV.slice (o := o) (l := l) e (Nat.le_trans hc hc') (by simp)
      simpa [Nat.add_assoc] using this
    | slice0 x y =>
      have : c = 0 := by omega
      subst this
      exact .slice0 _ _
  | map h =>
    intro x hx
    cases hx with
    | map hL => exact .map (by simp [cmp, h, hL])
  | func fn hx hy _ _ i1 i2 =>
    intro x hr
    cases hr with
    | func fn h1 h2 h3 h4 => exact .func fn (hx.trans h1) (hy.trans h2) (fun i => i1 i (h3 i)) (fun i => i2 i (h4 i))
  | iface t ht _ ih =>
    intro x hr
    cases hr with
    | iface t ht h => exact .iface t ht (ih h)
    | frz => exact absurd ht (by decide)
    | frzN => exact absurd ht (by decide)
    | frzE => exact absurd ht (by decide)
    | empN => exact absurd ht (by decide)
    | empE => exact absurd ht (by decide)
    | anyB => exact absurd ht (by decide)
    | frp => exact absurd ht (by decide)
  | pure h => intro x hx; exact RV.pure_move (ι := ι) (ι2 := cmp κ ι) (fun _ _ h => h) hx h
  | agg hs _ ih =>
    intro x hr
    cases hr with
    | agg h1 h2 => exact .agg (hs.trans h1) (fun i => ih i (h2 i))
  | tuple hs hh ih =>
    intro x hr
    cases hr with
    | tuple h1 h2 => exact .tuple (hs.trans h1) (fun i => ih i (h2 i))
    | any =>
      rename_i cs
      have : cs = #[] := by
        apply Array.eq_empty_of_size_eq_zero
        simpa using hs
      subst this
      exact .any _

/-- Back: what the callee yields, in the caller's numbers. -/
inductive Lift (κ : Nat → Option Nat) : Value → Value → Prop
  | plain {v : Value} (h : plain v = true) : Lift κ v v
  | any (v : Value) : Lift κ v undef
  | ptr {b b' o : Nat} (h : κ b = some b') : Lift κ (.pointer (some ⟨b, o, none⟩)) (.pointer (some ⟨b', o, none⟩))
  | slice {b b' o l c : Nat} (h : κ b = some b') : Lift κ (.slice (some ⟨b, o, none⟩) l c) (.slice (some ⟨b', o, none⟩) l c)
  | map {b b' : Nat} (h : κ b = some b') : Lift κ (.map (some b)) (.map (some b'))
  | func (fn : Fn) {xs xs' ys ys' : Array Value} (hx : xs.size = xs'.size) (hy : ys.size = ys'.size)
      (h : ∀ i : Nat, Lift κ (xs.getD i Go.undef) (xs'.getD i Go.undef)) (h' : ∀ i : Nat, Lift κ (ys.getD i Go.undef) (ys'.getD i Go.undef)) : Lift κ (.func fn xs ys) (.func fn xs' ys')
  | iface (t : TypeId) {v v' : Value} (ht : t < frzT) (h : Lift κ v v') : Lift κ (.iface t v) (.iface t v')
  | pure {v : Value} (h : pureV v = true) : Lift κ v v
  | agg {cs cs' : Array Value} (hs : cs.size = cs'.size) (h : ∀ i : Nat, Lift κ (cs.getD i Go.undef) (cs'.getD i Go.undef)) : Lift κ (.agg cs) (.agg cs')
  | tuple {cs cs' : Array Value} (hs : cs.size = cs'.size) (h : ∀ i : Nat, Lift κ (cs.getD i Go.undef) (cs'.getD i Go.undef)) : Lift κ (.tuple cs) (.tuple cs')

theorem Lift.up {κ : Nat → Option Nat} {ι ι2 : Map} (hk : ∀ i b L, κ i = some b → ι2 i = some L → ι b = some L) (hf : ∀ r c, ι2.fro r = some c → ι.fro r = some c) {v u : Value} (h : Lift κ v u) : ∀ {x : Value}, RV ι2 v x → RV ι u x := by
  induction h with
  | plain h => intro x hx; rw [← hx.eq_of_plain h]; exact RV.refl _ _ h
  | any v => intro x _; exact .any _
  | ptr h =>
    intro x hx
    obtain ⟨L, hL, rfl⟩ := hx.ptr_inv
    exact .ptr (hk _ _ _ h hL)
  | slice h =>
    intro x hx
    cases hx with
    | slice hL hc hr => exact .slice (hk _ _ _ h hL) hc hr
    | slice0 x y => exact .slice0 _ _
  | map h =>
    intro x hx
    cases hx with
    | map hL => exact .map (hk _ _ _ h hL)
  | func fn hx hy _ _ i1 i2 =>
    intro x hr
    cases hr with
    | func fn h1 h2 h3 h4 => exact .func fn (hx.symm.trans h1) (hy.symm.trans h2) (fun i => i1 i (h3 i)) (fun i => i2 i (h4 i))
  | iface t ht _ ih =>
    intro x hr
    cases hr with
    | iface t ht h => exact .iface t ht (ih h)
    | frz => exact absurd ht (by decide)
    | frzN => exact absurd ht (by decide)
    | frzE => exact absurd ht (by decide)
    | empN => exact absurd ht (by decide)
    | empE => exact absurd ht (by decide)
    | anyB => exact absurd ht (by decide)
    | frp => exact absurd ht (by decide)
  | pure h => intro x hx; exact hx.pure_move (hf) h
  | agg hs _ ih =>
    intro x hr
    cases hr with
    | agg h1 h2 => exact .agg (hs.symm.trans h1) (fun i => ih i (h2 i))
  | tuple hs hh ih =>
    intro x hr
    cases hr with
    | tuple h1 h2 => exact .tuple (hs.symm.trans h1) (fun i => ih i (h2 i))
    | any =>
      rename_i cs'
      have : cs' = #[] := by
        apply Array.eq_empty_of_size_eq_zero
        simpa using hs.symm
      subst this
      exact .any _

def ELift (κ : Nat → Option Nat) (e e' : MapEntry) : Prop := Lift κ e.key e'.key ∧ Lift κ e.val e'.val ∧ e.born = e'.born
def ERen (κ : Emb) (e e' : MapEntry) : Prop := Ren κ e.key e'.key ∧ Ren κ e.val e'.val ∧ e.born = e'.born

inductive BLift (κ : Nat → Option Nat) : Blk → Blk → Prop
  | cells {c c' : List Value} (sz : Nat) (rw_ : Bool) (hl : c.length = c'.length) (h : ∀ i, i < c.length → Lift κ (c.getD i undef) (c'.getD i undef)) : BLift κ (.cells c sz rw_) (.cells c' sz rw_)
  | map {es es' : List MapEntry} (ck : Nat) (hl : es.length = es'.length) (h : ∀ (i : Nat) (e e' : MapEntry), es[i]? = some e → es'[i]? = some e' → ELift κ e e') : BLift κ (.map es ck) (.map es' ck)
  | gone (x : Blk) : BLift κ x .gone

/-- What of the caller's memory a callee's block is. -/
inductive Down (κ : Emb) (m : List Blk) (i : Nat) : Blk → Prop
  | gone : Down κ m i .gone
  | window {c cu : List Value} {sz szu b d : Nat} {r : Bool} (hk : κ i = some (b, d, true)) (hb : m[b]? = some (.cells cu szu r)) (hl : d + c.length ≤ cu.length)
      (h : ∀ j, j < c.length → Ren κ (c.getD j undef) (cu.getD (d + j) undef)) : Down κ m i (.cells c sz false)
  | whole {c cu : List Value} {sz b : Nat} (hk : κ i = some (b, 0, false)) (hb : m[b]? = some (.cells cu sz true)) (hl : c.length = cu.length)
      (h : ∀ j, j < c.length → Ren κ (c.getD j undef) (cu.getD j undef)) : Down κ m i (.cells c sz true)
  | map {es esu : List MapEntry} {ck b : Nat} (hk : κ i = some (b, 0, false)) (hb : m[b]? = some (.map esu ck)) (hl : es.length = esu.length)
      (h : ∀ (j : Nat) (e e' : MapEntry), es[j]? = some e → esu[j]? = some e' → ERen κ e e') : Down κ m i (.map es ck)

def ownOrGone : Blk → Bool
  | .cells _ _ rw => rw
  | _ => true

theorem BLift.up {κ : Nat → Option Nat} {ι ι2 : Map} {w : World} {i b : Nat} {x y : Blk} (hk : ∀ i b L, κ i = some b → ι2 i = some L → ι b = some L) (hf : ∀ r c, ι2.fro r = some c → ι.fro r = some c) (hib : κ i = some b) (h : BLift κ x y) (hx : BlkOk ι2 w i x) : BlkOk ι w b y := by
  cases h with
  | gone => trivial
  | cells sz rw_ hl h =>
    obtain ⟨L, c', t, fz, hL, hh, hs, hr, hro, hc⟩ := hx
    exact ⟨L, c', t, fz, hk _ _ _ hib hL, hh, by omega, hr, hro, fun j hj => (h j (by omega)).up hk hf (hc j (by omega))⟩
  | map ck hl h =>
    obtain ⟨L, es', hL, hh, hs, he⟩ := hx
    rename_i es esu
    refine ⟨L, es', hk _ _ _ hib hL, hh, by omega, fun j e e' h1 h2 => ?_⟩
    have hj : j < es.length := by
      have := (List.getElem?_eq_some_iff.1 h1).1
      omega
    have h3 := h j es[j] e (by simp [hj]) h1
    have h4 := he j es[j] e' (by simp [hj]) h2
    exact ⟨h3.1.up hk hf h4.1, h3.2.1.up hk hf h4.2.1, h3.2.2.symm.trans h4.2.2⟩

theorem BLift.own {κ : Nat → Option Nat} {x y : Blk} (h : BLift κ x y) (ho : y.own = true) : x.own = true := by
  cases h with
  | gone => cases ho
  | cells sz rw_ _ _ => exact ho
  | map => rfl
theorem BLift.live {κ : Nat → Option Nat} {x y : Blk} (h : BLift κ x y) (ho : y.live = true) : x.live = true := by
  cases h with
  | gone => cases ho
  | cells sz rw_ _ _ => rfl
  | map => rfl

theorem Down.ok {κ : Emb} (hg : GoodEmb κ) {ι : Map} {C : Cont} {w : World} {m : List Blk} {i : Nat} {x : Blk} (h : Down κ m i x) (hC : ∀ i b d r, κ i = some (b, d, r) → C b = m.getD b .gone) (hs : Sim ι C w) : BlkOk (cmp κ ι) w i x := by
  have get : ∀ {b : Nat} {y : Blk}, m[b]? = some y → m.getD b .gone = y := fun h => by simp [List.getD_eq_getElem?_getD, h]
  cases h with
  | gone => trivial
  | @window c cu sz szu b d r hk hb hl h =>
    have hB := hs.blk b
    rw [hC _ _ _ _ hk, get hb] at hB
    obtain ⟨L, c', t, fz, hL, hh, hfit, _, _, hc⟩ := hB
    refine ⟨{ L with off := L.off + d, ro := true }, c', t, fz, by simp [cmp, hk, hL], hh, by simp only; omega, by simp, by simp, fun j hj => ?_⟩
    have := (h j hj).down hg (hc (d + j) (by omega))
    simpa [Nat.add_assoc] using this
  | @whole c cu sz b hk hb hl h =>
    have hB := hs.blk b
    rw [hC _ _ _ _ hk, get hb] at hB
    obtain ⟨L, c', t, fz, hL, hh, hfit, hr, hro, hc⟩ := hB
    exact ⟨L, c', t, fz, by simp [cmp, hk, hL], hh, by omega, hr, hro, fun j hj => (h j hj).down hg (hc j (by omega))⟩
  | @map es esu ck b hk hb hl h =>
    have hB := hs.blk b
    rw [hC _ _ _ _ hk, get hb] at hB
    obtain ⟨L, es', hL, hh, hsz, he⟩ := hB
    refine ⟨L, es', by simp [cmp, hk, hL], hh, by omega, fun j e e' h1 h2 => ?_⟩
    have hj : j < esu.length := by
      have := (List.getElem?_eq_some_iff.1 h1).1
      omega
    have h3 := h j e esu[j] h1 (by simp [hj])
    have h4 := he j esu[j] e' (by simp [hj]) h2
    exact ⟨h3.1.down hg h4.1, h3.2.1.down hg h4.2.1, h3.2.2.trans h4.2.2⟩

/-- The callee's blocks behind the call, in the caller's numbers. -/
def back (κ : Emb) (k k' n : Nat) : Nat → Option Nat := fun i =>
  if i < k then (match κ i with | some (b, _, false) => some b | _ => none) else if i < k' then some (n + (i - k)) else none

structure CallData (m mf mf' m' : List Blk) (κ : Emb) (rd wr : List Nat) : Prop where
  good : GoodEmb κ
  dom : ∀ i b d r, κ i = some (b, d, r) → i < mf.length ∧ b < m.length ∧ b ∈ rd
  kl : ∀ i b d r, κ i = some (b, d, r) → (m.getD b .gone).live = true
  rdlt : ∀ b, b ∈ rd → b < m.length
  wrs : ∀ b, b ∈ wr → b ∈ rd
  iswr : ∀ i b, κ i = some (b, 0, false) → b ∈ wr
  dist : ∀ i j b d r, i ≠ j → κ i = some (b, 0, false) → κ j = some (b, d, r) → False
  down : ∀ i, i < mf.length → Down κ m i (mf.getD i .gone)
  len : mf.length ≤ mf'.length
  len' : m'.length = m.length + (mf'.length - mf.length)
  whole : ∀ i b, κ i = some (b, 0, false) → BLift (back κ mf.length mf'.length m.length) (mf'.getD i .gone) (m'.getD b .gone) ∧ ownOrGone (mf'.getD i .gone) = true
  new : ∀ j, mf.length ≤ j → j < mf'.length → BLift (back κ mf.length mf'.length m.length) (mf'.getD j .gone) (m'.getD (m.length + (j - mf.length)) .gone) ∧ ownOrGone (mf'.getD j .gone) = true
  keep : ∀ b, b < m.length → (∀ i, κ i ≠ some (b, 0, false)) → m'.getD b .gone = m.getD b .gone

/-- What a call does to the caller's memory. -/
theorem call_frame {m mf mf' m' : List Blk} {κ : Emb} {rd wr : List Nat} (D : CallData m mf mf' m' κ rd wr) {ι ι1 : Map} {w w' : World}
    (hdom : ∀ b, m.length ≤ b → b < m'.length → ι b = none) (hs : Sim ι ((at_ m).only (isIn rd)) w) (hs1 : Sim ι1 (at_ mf') w') (he : Ext (cmp κ ι) (at_ mf) w ι1 (at_ mf') w') :
    ∃ ι', (∀ r c, ι1.fro r = some c → ι'.fro r = some c) ∧ (∀ i b L, back κ mf.length mf'.length m.length i = some b → ι1 i = some L → ι' b = some L) ∧ Ext ι ((at_ m).only (isIn rd)) w ι' ((at_ m').only (tch rd m.length m'.length)) w' ∧
      Sim ι' ((at_ m').only (tch rd m.length m'.length)) w' ∧ (∀ b, ι b = none → ι' b ≠ none → m.length ≤ b ∧ b < m'.length) := by
  have hC : ∀ b, b ∈ rd → ((at_ m).only (isIn rd)) b = m.getD b .gone := fun b hb => by simp [Cont.only, isIn, hb, at_]
  have hCn : ∀ b, b ∉ rd → ((at_ m).only (isIn rd)) b = .gone := fun b hb => by simp [Cont.only, isIn, hb]
  have hlen := D.len
  have hlen' := D.len'
  let ι' : Map := ⟨fun b => match ι b with
    | some L => some L
    | none => if m.length ≤ b ∧ b < m'.length then ι1 (mf.length + (b - m.length)) else none, ι1.fro⟩
  have hfro : ∀ r c, ι1.fro r = some c → ι'.fro r = some c := fun _ _ h => h
  have old : ∀ b L, ι b = some L → ι' b = some L := fun b L h => by simp [ι', h]
  have newι : ∀ b, m.length ≤ b → b < m'.length → ι' b = ι1 (mf.length + (b - m.length)) := fun b h1 h2 => by simp [ι', hdom b h1 h2, h1, h2]
  have oldι : ∀ b, b < m.length → ι' b = ι b := fun b h => by
    simp only [ι']
    cases hb : ι b with
    | some L => rfl
    | none => simp only []; rw [if_neg (by omega)]
  -- the blocks that the callee may have turned, and the new ones
  have isBack : ∀ i b L, back κ mf.length mf'.length m.length i = some b → ι1 i = some L → ι' b = some L := fun i b L hb hL => by
    unfold back at hb
    split at hb
    · split at hb
      · rename_i b0 d0 hk
        cases hb
        obtain ⟨_, hlt, hrd⟩ := D.dom _ _ _ _ hk
        have hd := D.good _ _ _ hk
        subst hd
        rw [oldι b hlt]
        have hne : cmp κ ι i = ι b := by simp [cmp, hk]
        have hCb : ((at_ m).only (isIn rd) b).live = true := by rw [hC b hrd]; exact D.kl _ _ _ _ hk
        obtain ⟨L0, hιb, _⟩ := (hs.blk b).loc hCb
        have := he.le i L0 (by rw [hne, hιb]); rw [hL] at this; rw [hιb]; exact this.symm
      · cases hb
    · split at hb
      · cases hb
        rw [newι _ (by omega) (by omega)]
        rw [← hL]; congr 1; omega
      · cases hb
  have mfLive : ∀ i, (mf.getD i .gone).live = true → i < mf.length := fun i h => by
    rcases Nat.lt_or_ge i mf.length with h' | h'
    · exact h'
    · simp [List.getD_eq_getElem?_getD, List.getElem?_eq_none h', Blk.live] at h
  have mf'Live : ∀ i, (mf'.getD i .gone).live = true → i < mf'.length := fun i h => by
    rcases Nat.lt_or_ge i mf'.length with h' | h'
    · exact h'
    · simp [List.getD_eq_getElem?_getD, List.getElem?_eq_none h', Blk.live] at h
  have get : ∀ {b : Nat} {y : Blk}, m[b]? = some y → m.getD b .gone = y := fun h => by simp [List.getD_eq_getElem?_getD, h]
  have ownDown : ∀ k, OwnR (cmp κ ι) (at_ mf) k → ∃ j b L, κ j = some (b, 0, false) ∧ b ∈ rd ∧ (((at_ m).only (isIn rd)) b).own = true ∧ ι b = some L ∧ L.blk = k := by
    rintro k ⟨j, L, ho, hL, hk⟩
    have hj := mfLive j (Blk.live_of_own ho)
    have hd := D.down j hj
    simp only [at_] at ho
    generalize hx : mf.getD j .gone = x at ho hd
    cases hd with
    | gone => cases ho
    | window => cases ho
    | whole hk2 hb _ _ =>
      obtain ⟨_, _, hrd⟩ := D.dom _ _ _ _ hk2
      exact ⟨j, _, L, hk2, hrd, by rw [hC _ hrd, get hb]; rfl, by simpa [cmp, hk2] using hL, hk⟩
    | map hk2 hb _ _ =>
      obtain ⟨_, _, hrd⟩ := D.dom _ _ _ _ hk2
      exact ⟨j, _, L, hk2, hrd, by rw [hC _ hrd, get hb]; rfl, by simpa [cmp, hk2] using hL, hk⟩
  have liveDown : ∀ k, LiveR (cmp κ ι) (at_ mf) k → LiveR ι ((at_ m).only (isIn rd)) k := by
    rintro k ⟨j, L, ho, hL, hk⟩
    have hj := mfLive j ho
    have hd := D.down j hj
    simp only [at_] at ho
    generalize hx : mf.getD j .gone = x at ho hd
    cases hd with
    | gone => cases ho
    | @window c cu sz szu b d r hk2 hb _ _ =>
      obtain ⟨_, _, hrd⟩ := D.dom _ _ _ _ hk2
      simp only [cmp, hk2, Option.map_eq_some_iff] at hL
      obtain ⟨L0, hL0, rfl⟩ := hL
      exact ⟨b, L0, by rw [hC _ hrd, get hb]; rfl, hL0, hk⟩
    | @whole c cu sz b hk2 hb _ _ =>
      obtain ⟨_, _, hrd⟩ := D.dom _ _ _ _ hk2
      exact ⟨b, L, by rw [hC _ hrd, get hb]; rfl, by simpa [cmp, hk2] using hL, hk⟩
    | @map es esu ck b hk2 hb _ _ =>
      obtain ⟨_, _, hrd⟩ := D.dom _ _ _ _ hk2
      exact ⟨b, L, by rw [hC _ hrd, get hb]; rfl, by simpa [cmp, hk2] using hL, hk⟩
  have cls : ∀ b, tch rd m.length m'.length b = true →
      (∃ i, back κ mf.length mf'.length m.length i = some b ∧ BLift (back κ mf.length mf'.length m.length) (mf'.getD i .gone) (m'.getD b .gone) ∧ ownOrGone (mf'.getD i .gone) = true) ∨
      (b ∈ rd ∧ (∀ i, κ i ≠ some (b, 0, false)) ∧ m'.getD b .gone = m.getD b .gone) := fun b hb => by
    by_cases hw : ∃ i, κ i = some (b, 0, false)
    · obtain ⟨i, hi⟩ := hw
      obtain ⟨h1, _, _⟩ := D.dom _ _ _ _ hi
      exact .inl ⟨i, by unfold back; rw [if_pos h1]; simp [hi], D.whole i b hi⟩
    · have hw' : ∀ i, κ i ≠ some (b, 0, false) := fun i hi => hw ⟨i, hi⟩
      simp only [tch, Bool.or_eq_true, Bool.and_eq_true, decide_eq_true_eq, List.contains_eq_mem] at hb
      by_cases hbl : b < m.length
      · have hrd : b ∈ rd := by
          rcases hb with h | h
          · exact h
          · omega
        exact .inr ⟨hrd, hw', D.keep b hbl hw'⟩
      · have h2 : b < m'.length := by
          rcases hb with h | h
          · exact absurd (D.rdlt b h) hbl
          · exact h.2
        have := D.new (mf.length + (b - m.length)) (by omega) (by omega)
        have e : m.length + (mf.length + (b - m.length) - mf.length) = b := by omega
        rw [e] at this
        exact .inl ⟨mf.length + (b - m.length), by unfold back; rw [if_neg (by omega), if_pos (by omega), e], this⟩
  have hC' : ∀ b, tch rd m.length m'.length b = true → ((at_ m').only (tch rd m.length m'.length)) b = m'.getD b .gone := fun b hb => by simp [Cont.only, hb, at_]
  have hCn' : ∀ b, ((((at_ m').only (tch rd m.length m'.length)) b).live = true) → tch rd m.length m'.length b = true := fun b h => by
    unfold Cont.only at h
    split at h
    · assumption
    · cases h
  -- where a live block of the first kind lies
  have place : ∀ i b L, back κ mf.length mf'.length m.length i = some b → (mf'.getD i .gone).live = true → ι' b = some L → ι1 i = some L := fun i b L hb hl hL => by
    obtain ⟨L0, hL0, _⟩ := (hs1.blk i).loc hl
    have := isBack i b L0 hb hL0
    rw [hL] at this; cases this; exact hL0
  have place2 : ∀ b L, b ∈ rd → (m.getD b .gone).live = true → ι' b = some L → ι b = some L ∧ L.blk < w.heap.size := fun b L hrd hl hL => by
    obtain ⟨L0, hL0, hlt⟩ := (hs.blk b).loc (by rw [hC b hrd]; exact hl)
    have := old b L0 hL0
    rw [hL] at this; cases this; exact ⟨hL0, hlt⟩
  have hle : Le ι ι' := ⟨old, fun r c h => he.le.fro r c h⟩
  refine ⟨ι', hfro, isBack, ⟨hle, he.size, he.os, he.tape, he.output, fun k hk hn => he.frame k hk fun ho => ?_, fun k => ?_, fun k => ?_, fun r c hr => ?_⟩, ⟨fun b => ?_, fun b b2 L L2 hne ho hl hL hL2 => ?_, hs1.fro, fun b L r c ho hL hr => ?_, hs1.glo⟩, fun b h1 h2 => ?_⟩
  · obtain ⟨j, b, L, _, _, h1, h2, h3⟩ := ownDown k ho
    exact hn ⟨b, L, h1, h2, h3⟩
  · rintro ⟨b, L, ho, hL, hk⟩
    have hT := hCn' b (Blk.live_of_own ho)
    rw [hC' b hT] at ho
    rcases cls b hT with ⟨i, hi, hlift, _⟩ | ⟨hrd, hw, hkeep⟩
    · have ho1 := hlift.own ho
      have hL1 := place i b L hi (Blk.live_of_own ho1) hL
      exact (he.own k ⟨i, L, ho1, hL1, hk⟩).imp (fun h => by obtain ⟨j, b', L', _, _, h1, h2, h3⟩ := ownDown k h; exact ⟨b', L', h1, h2, h3⟩) id
    · rw [hkeep] at ho
      exact .inl ⟨b, L, by rw [hC b hrd]; exact ho, (place2 b L hrd (Blk.live_of_own ho) hL).1, hk⟩
  · rintro ⟨b, L, ho, hL, hk⟩
    have hT := hCn' b ho
    rw [hC' b hT] at ho
    rcases cls b hT with ⟨i, hi, hlift, _⟩ | ⟨hrd, hw, hkeep⟩
    · have ho1 := hlift.live ho
      have hL1 := place i b L hi ho1 hL
      exact (he.live k ⟨i, L, ho1, hL1, hk⟩).imp (liveDown k) id
    · rw [hkeep] at ho
      exact .inl ⟨b, L, by rw [hC b hrd]; exact ho, (place2 b L hrd ho hL).1, hk⟩
  · rcases he.fro r c hr with h | h | h
    · exact .inl h
    · obtain ⟨j, b', L', _, _, h1, h2, h3⟩ := ownDown r h
      exact .inr (.inl ⟨b', L', h1, h2, h3⟩)
    · exact .inr (.inr h)
  · by_cases hT : tch rd m.length m'.length b = true
    · rw [hC' b hT]
      rcases cls b hT with ⟨i, hi, hlift, _⟩ | ⟨hrd, hw, hkeep⟩
      · exact hlift.up isBack hfro hi (hs1.blk i)
      · rw [hkeep, ← hC b hrd]
        refine (hs.blk b).keep hle fun hl L hL => ?_
        obtain ⟨L0, hL0, hlt⟩ := (hs.blk b).loc hl
        rw [hL] at hL0; cases hL0
        refine he.frame _ hlt fun ho => ?_
        obtain ⟨j, bj, Lj, hj, _, h1, h2, h3⟩ := ownDown _ ho
        have hne : bj ≠ b := fun e => hw j (by rw [← e]; exact hj)
        exact hs.sep bj b Lj L hne h1 hl h2 hL h3
    · have : ((at_ m').only (tch rd m.length m'.length)) b = .gone := by simp [Cont.only, hT]
      rw [this]; trivial
  · have hT := hCn' b (Blk.live_of_own ho)
    have hT2 := hCn' b2 hl
    rw [hC' b hT] at ho
    rw [hC' b2 hT2] at hl
    rcases cls b hT with ⟨i, hi, hlift, _⟩ | ⟨hrd, hw, hkeep⟩
    · have ho1 := hlift.own ho
      have hL1 := place i b L hi (Blk.live_of_own ho1) hL
      rcases cls b2 hT2 with ⟨j, hj, hlift2, _⟩ | ⟨hrd2, hw2, hkeep2⟩
      · have hl2 := hlift2.live hl
        have hL21 := place j b2 L2 hj hl2 hL2
        exact hs1.sep i j L L2 (fun e => hne (by rw [e, hj] at hi; cases hi; rfl)) ho1 hl2 hL1 hL21
      · rw [hkeep2] at hl
        obtain ⟨hι2, hlt2⟩ := place2 b2 L2 hrd2 hl hL2
        rcases he.own L.blk ⟨i, L, ho1, hL1, rfl⟩ with h | h
        · obtain ⟨jj, bj, Lj, hjj, _, h1, h2, h3⟩ := ownDown _ h
          have hne2 : bj ≠ b2 := fun e => hw2 jj (by rw [← e]; exact hjj)
          rw [← h3]
          exact hs.sep bj b2 Lj L2 hne2 h1 (by rw [hC b2 hrd2]; exact hl) h2 hι2
        · omega
    · rw [hkeep] at ho
      obtain ⟨hι, hlt⟩ := place2 b L hrd (Blk.live_of_own ho) hL
      rcases cls b2 hT2 with ⟨j, hj, hlift2, hog⟩ | ⟨hrd2, hw2, hkeep2⟩
      · have hl2 := hlift2.live hl
        have hL21 := place j b2 L2 hj hl2 hL2
        have ho2 : (mf'.getD j .gone).own = true := by
          generalize mf'.getD j .gone = x at hl2 hog
          cases x <;> simp_all [ownOrGone, Blk.live, Blk.own]
        rcases he.own L2.blk ⟨j, L2, ho2, hL21, rfl⟩ with h | h
        · obtain ⟨jj, bj, Lj, hjj, _, h1, h2, h3⟩ := ownDown _ h
          have hne2 : b ≠ bj := fun e => hw jj (by rw [e]; exact hjj)
          rw [← h3]
          exact hs.sep b bj L Lj hne2 (by rw [hC b hrd]; exact ho) (Blk.live_of_own h1) hι h2
        · omega
      · rw [hkeep2] at hl
        obtain ⟨hι2, _⟩ := place2 b2 L2 hrd2 hl hL2
        exact hs.sep b b2 L L2 hne (by rw [hC b hrd]; exact ho) (by rw [hC b2 hrd2]; exact hl) hι hι2
  · have hT := hCn' b (Blk.live_of_own ho)
    rw [hC' b hT] at ho
    rcases cls b hT with ⟨i, hi, hlift, _⟩ | ⟨hrd, hw, hkeep⟩
    · have ho1 := hlift.own ho
      exact hs1.apart i L r c ho1 (place i b L hi (Blk.live_of_own ho1) hL) hr
    · rw [hkeep] at ho
      obtain ⟨hι, hlt⟩ := place2 b L hrd (Blk.live_of_own ho) hL
      have ho' : (((at_ m).only (isIn rd)) b).own = true := by rw [hC b hrd]; exact ho
      rcases he.fro r c hr with h | h | h
      · exact hs.apart b L r c ho' hι h
      · obtain ⟨j, bj, Lj, hj, _, h1, h2, h3⟩ := ownDown r h
        have hne : b ≠ bj := fun e => hw j (by rw [e]; exact hj)
        rw [← h3]
        exact hs.sep b bj L Lj hne ho' (Blk.live_of_own h1) hι h2
      · omega
  · simp only [ι', h1] at h2
    by_cases h : m.length ≤ b ∧ b < m'.length
    · exact h
    · rw [if_neg h] at h2; exact absurd rfl h2

theorem CallData.frame {m mf mf' m' : List Blk} {κ : Emb} {rd wr : List Nat} (D : CallData m mf mf' m' κ rd wr) {ι : Map} {w : World} (hs : Sim ι ((at_ m).only (isIn rd)) w) : Sim (cmp κ ι) (at_ mf) w := by
  have hC : ∀ b, b ∈ rd → ((at_ m).only (isIn rd)) b = m.getD b .gone := fun b hb => by simp [Cont.only, isIn, hb, at_]
  have get : ∀ {b : Nat} {y : Blk}, m[b]? = some y → m.getD b .gone = y := fun h => by simp [List.getD_eq_getElem?_getD, h]
  refine ⟨fun i => ?_, fun i j L L2 hne ho hl hL hL2 => ?_, hs.fro, fun i L r c ho hL hr => ?_, hs.glo⟩
  · by_cases hi : i < mf.length
    · exact (D.down i hi).ok D.good (fun i b d r hk => hC b (D.dom _ _ _ _ hk).2.2) hs
    · have : at_ mf i = .gone := by simp [at_, List.getD_eq_getElem?_getD, List.getElem?_eq_none (Nat.le_of_not_lt hi)]
      rw [this]; trivial
  · have lt : ∀ i, (at_ mf i).live = true → i < mf.length := fun i h => by
      rcases Nat.lt_or_ge i mf.length with h' | h'
      · exact h'
      · simp [at_, List.getD_eq_getElem?_getD, List.getElem?_eq_none h', Blk.live] at h
    have h1 : ∃ b, κ i = some (b, 0, false) ∧ (m.getD b .gone).own = true ∧ ι b = some L := by
      have hd := D.down i (lt i (Blk.live_of_own ho))
      simp only [at_] at ho
      generalize mf.getD i .gone = x at ho hd
      cases hd with
      | gone => cases ho
      | window => cases ho
      | whole hk2 hb _ _ => exact ⟨_, hk2, by rw [get hb]; rfl, by simpa [cmp, hk2] using hL⟩
      | map hk2 hb _ _ => exact ⟨_, hk2, by rw [get hb]; rfl, by simpa [cmp, hk2] using hL⟩
    have h2 : ∃ b d r K, κ j = some (b, d, r) ∧ (m.getD b .gone).live = true ∧ ι b = some K ∧ K.blk = L2.blk := by
      have hd := D.down j (lt j hl)
      simp only [at_] at hl
      generalize mf.getD j .gone = x at hl hd
      cases hd with
      | gone => cases hl
      | @window c cu sz szu b d r hk2 hb _ _ =>
        simp only [cmp, hk2, Option.map_eq_some_iff] at hL2
        obtain ⟨K, hK, rfl⟩ := hL2
        exact ⟨b, d, true, K, hk2, by rw [get hb]; rfl, hK, rfl⟩
      | whole hk2 hb _ _ => exact ⟨_, _, _, L2, hk2, by rw [get hb]; rfl, by simpa [cmp, hk2] using hL2, rfl⟩
      | map hk2 hb _ _ => exact ⟨_, _, _, L2, hk2, by rw [get hb]; rfl, by simpa [cmp, hk2] using hL2, rfl⟩
    obtain ⟨b, hk, hob, hb⟩ := h1
    obtain ⟨b2, d, r, K, hk2, hlb, hb2, e⟩ := h2
    rw [← e]
    refine hs.sep b b2 L K (fun e => D.dist i j b d r hne hk (by rw [e]; exact hk2)) ?_ ?_ hb hb2
    · rw [hC b (D.dom _ _ _ _ hk).2.2]; exact hob
    · rw [hC b2 (D.dom _ _ _ _ hk2).2.2]; exact hlb
  · have lt : i < mf.length := by
      rcases Nat.lt_or_ge i mf.length with h' | h'
      · exact h'
      · simp [at_, List.getD_eq_getElem?_getD, List.getElem?_eq_none h', Blk.own] at ho
    have hd := D.down i lt
    simp only [at_] at ho
    generalize mf.getD i .gone = x at ho hd
    cases hd with
    | gone => cases ho
    | window => cases ho
    | whole hk2 hb _ _ => exact hs.apart _ L r c (by rw [hC _ (D.dom _ _ _ _ hk2).2.2, get hb]; rfl) (by simpa [cmp, hk2] using hL) hr
    | map hk2 hb _ _ => exact hs.apart _ L r c (by rw [hC _ (D.dom _ _ _ _ hk2).2.2, get hb]; rfl) (by simpa [cmp, hk2] using hL) hr

/-- The arguments of a call, as far as they are known: what a function value holds first, what is handed over, what it has captured. -/
def argsC (a : List Value) (xs : Array Operand) (first captured : Array Value) : List Value := first.toList ++ (xs.map (evalC a)).toList ++ captured.toList

theorem OpOk.call {P : Program} {o : Oper} {a : List Value} {m : List Blk} {g : Operand} {xs : Array Operand} {ts : Array TypeId} {f : FuncId} {fn : Func} {first captured : Array Value} {vs : List Value} {mf mf' m' : List Blk} {v u : Value} {κ : Emb} {rd wr : List Nat}
    (ho : o.op = .call { callee := .value g, args := xs, argTypes := ts }) (hg : evalC a g = .func (.func f) first captured) (hcg : okConst g = true) (hc : xs.toList.all okConst = true)
    (hf : P.funcs[f]? = some fn) (hnum : (fn.name == "runtime.NumGoroutine") = false) (hbody : fn.body.isNone = false) (hlen : vs.length = (argsC a xs first captured).length)
    (hargs : ∀ i, i < vs.length → Ren κ (vs.getD i undef) ((argsC a xs first captured).getD i undef)) (D : CallData m mf mf' m' κ rd wr) (hv : Lift (back κ mf.length mf'.length m.length) v u) (h : FnEq P f vs mf v mf') :
    OpOk P o a m u m' ⟨rd, wr⟩ where
  len := by have := D.len'; omega
  sub := D.wrs
  rdlt := D.rdlt
  same := fun b hb hn => D.keep b hb fun i hi => hn (D.iswr i b hi)
  run := fun ι t w hs hdom hsim next Q hn => by
    have hgv := rv_operand hs (x := g) (by rw [ho]; simp [Op.operands, Call.operands]) hcg
    rw [hg] at hgv
    generalize hgr : (act t).eval g = gr at hgv
    cases hgv with
    | @func _ _ first' _ captured' h1 h2 h3 h4 =>
      -- the real arguments
      let args' : Array Value := first' ++ xs.map (act t).eval ++ captured'
      have hrun : (execOp (act t).eval o).run P w = .ok (.enter f args') w := by
        unfold execOp; rw [ho]
        simp only [resolve, hgr, Deferred.ofValue, pure_bind, invoke]
        unfold callFunc
        simp only [program, Sem.run_bind]
        show Result.andThen (.ok P w) _ = _
        simp only [Result.andThen_ok, hf, hnum, hbody]
        rfl
      have hargs' : ∀ i, RV ι ((argsC a xs first captured).getD i undef) (args'.getD i undef) := fun i => by
        simp only [argsC, args', List.getD_eq_getElem?_getD, Array.getD_eq_getD_getElem?]
        by_cases hi : i < first.size
        · rw [List.append_assoc, List.getElem?_append_left (by simpa using hi), Array.append_assoc, Array.getElem?_append_left (by omega)]
          have := h3 i
          simpa [Array.getD_eq_getD_getElem?] using this
        · by_cases hi2 : i < first.size + xs.size
          · rw [List.append_assoc, List.getElem?_append_right (by simpa using Nat.le_of_not_lt hi), List.getElem?_append_left (by simp; omega),
              Array.append_assoc, Array.getElem?_append_right (by omega), Array.getElem?_append_left (by simp; omega)]
            have hj : i - first.size < xs.size := by omega
            have := rv_operand hs (x := xs[i - first.size]) (by rw [ho]; simp [Op.operands, Call.operands]) (List.all_eq_true.1 hc _ (by simp))
            have e : i - first'.size = i - first.size := by omega
            simpa [hj, e] using this
          · rw [List.getElem?_append_right (by simp; omega), Array.getElem?_append_right (by simp; omega)]
            have := h4 (i - (first.size + xs.size))
            have e : i - (first' ++ xs.map (act t).eval).size = i - (first.size + xs.size) := by simp; omega
            rw [e]
            simpa [Array.getD_eq_getD_getElem?] using this
      have hsz : args'.size = vs.length := by rw [hlen]; simp [args', argsC]; omega
      have hcall := h (cmp κ ι) args' w hsz (fun i => by
          by_cases hi : i < vs.length
          · exact (hargs i hi).down D.good (hargs' i)
          · have : vs.getD i undef = undef := by simp [List.getD_eq_getElem?_getD, List.getElem?_eq_none (Nat.le_of_not_lt hi)]
            rw [this]; exact .any _)
        (D.frame hsim) (fun i hi => by
          cases hk : κ i with
          | none => simp [cmp, hk] at hi
          | some x => obtain ⟨b, d, r⟩ := x; exact (D.dom _ _ _ _ hk).1)
      unfold Oper.wp
      rw [hrun, Oper.upon_enter]
      refine hcall.mono fun e w' he => ?_
      obtain ⟨v', ι1, rfl, hv', hs1, hd1, hext⟩ := he
      obtain ⟨ι', hfro, hback, hext', hsim', hdom'⟩ := call_frame D hdom hsim hs1 hext
      exact hn v' w' ι' (hv.up hback hfro hv') hext' hsim' hdom'

end

end Go.Dt
