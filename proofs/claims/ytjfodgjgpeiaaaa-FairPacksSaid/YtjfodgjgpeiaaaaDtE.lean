/- Operations over slices that are known by what they hold. -/
import Derived.Test.YtjfodgjgpeiaaaaDtD
namespace Go.Dt
open Go.Instr

section
variable {P : Program} {o : Oper} {a : List Value} {m : List Blk}

def asFrz : Value → Option (Nat × List Value)
  | .iface t (.tuple ⟨[.int .i64 (.ofNat n), .agg ⟨c⟩]⟩) => bif Nat.beq t frzT then some (n, c) else none
  | _ => none
theorem asFrz_ok {v : Value} {n : Nat} {c : List Value} (h : asFrz v = some (n, c)) : v = frz n c := by
  unfold asFrz at h
  split at h
  · rename_i t n' c'
    cases ht : Nat.beq t frzT with
    | false => rw [ht] at h; cases h
    | true => rw [ht] at h; cases h; rw [Nat.eq_of_beq_eq_true ht]; rfl
  · cases h
def asFrp : Value → Option (List Value × Nat)
  | .iface t (.tuple ⟨[.int .i64 (.ofNat n), .agg ⟨c⟩]⟩) => bif Nat.beq t frpT then some (c, n) else none
  | _ => none
theorem asFrp_ok {v : Value} {n : Nat} {c : List Value} (h : asFrp v = some (c, n)) : v = frp c n := by
  unfold asFrp at h
  split at h
  · rename_i t n' c'
    cases ht : Nat.beq t frpT with
    | false => rw [ht] at h; cases h
    | true => rw [ht] at h; cases h; rw [Nat.eq_of_beq_eq_true ht]; rfl
  · cases h

theorem OpOk.lenFrz {x : Operand} {t e : TypeId} {n : Nat} {c : List Value} (ho : o.op = .call { callee := .builtin .len, args := #[x], argTypes := #[t] }) (hc : okConst x = true) (hx : evalC a x = frz n c)
    (hu : P.underlying t = some (.slice e)) : OpOk P o a m (.int .i64 n) m ⟨[], []⟩ :=
  OpOk.quiet fun ι tt w hs => by
    have h := rv_operand hs (x := x) (by rw [ho]; simp [Op.operands, Call.operands]) hc
    rw [hx] at h
    refine ⟨_, .int _ _, ?_⟩
    unfold execOp; rw [ho]
    generalize hy : (act tt).eval x = y at h
    cases h with
    | iface _ ht => exact absurd ht (by decide)
    | _ => simp [resolve, invoke, builtin, Builtin.len_, hy, run_underlying hu w, goInt]

theorem OpOk.idxFrz {t e : TypeId} {x ix : Operand} {n sz : Nat} {c : List Value} {k : IntKind} {i : Int} (ho : o.op = .indexAddr t x ix) (hc : okConst x = true) (hc2 : okConst ix = true) (hx : evalC a x = frz n c)
    (hi : evalC a ix = .int k i) (hu : P.underlying t = some (.slice e)) (hz : szC P e = some sz) (h0 : 0 ≤ i) (h1 : i < n) : OpOk P o a m (frp c (i.toNat * sz)) m ⟨[], []⟩ :=
  OpOk.quiet fun ι tt w hs => by
    have h := rv_operand hs (x := x) (by rw [ho]; simp [Op.operands]) hc
    rw [hx] at h
    have h2 := rv_operand hs (x := ix) (by rw [ho]; simp [Op.operands]) hc2
    rw [hi] at h2
    have he2 := h2.int_inv
    generalize hy : (act tt).eval x = y at h
    cases h with
    | iface _ ht => exact absurd ht (by decide)
    | frzN => omega
    | frzE => omega
    | @frz _ _ r off cap cr hr hcap hp hfit hcc =>
      refine ⟨.pointer (some ⟨r, off + i.toNat * sz, none⟩), .frp hr hp hfit hcc, ?_⟩
      unfold execOp; rw [ho]
      simp [Instr.indexAt, run_underlying hu w, hy, he2, asIntOf, run_szC hz, addr_add, h0, h1]

theorem OpOk.fieldFrp {t : TypeId} {x : Operand} {f : Nat} {fs : Array Field} {fd : Field} {c : List Value} {off n : Nat} (ho : o.op = .fieldAddr t x f) (hc : okConst x = true) (hx : evalC a x = frp c off)
    (hu : P.underlying t = some (.struct fs)) (hf : fs[f]? = some fd) (hz : szC P fd.type = some (n + 1)) : OpOk P o a m (frp c (off + fd.offset)) m ⟨[], []⟩ :=
  OpOk.quiet fun ι tt w hs => by
    have h := rv_operand hs (x := x) (by rw [ho]; simp [Op.operands]) hc
    rw [hx] at h
    generalize hy : (act tt).eval x = y at h
    cases h with
    | iface _ ht => exact absurd ht (by decide)
    | @frp _ _ r ro cr hr hp hfit hcc =>
      refine ⟨.pointer (some ⟨r, ro + (off + fd.offset), none⟩), .frp hr hp hfit hcc, ?_⟩
      unfold execOp; rw [ho]
      simp [Instr.fieldAt, run_underlying hu w, hf, hy, sureAddr, fieldPlace, run_szC hz, addr_add, Nat.add_assoc]

/-- An element of an array within. -/
theorem OpOk.idxFrp {t e : TypeId} {x ix : Operand} {len sz off : Nat} {c : List Value} {k : IntKind} {i : Int} (ho : o.op = .indexAddr t x ix) (hc : okConst x = true) (hc2 : okConst ix = true) (hx : evalC a x = frp c off)
    (hi : evalC a ix = .int k i) (hu : P.underlying t = some (.array len e)) (hz : szC P e = some sz) (h0 : 0 ≤ i) (h1 : i < len) : OpOk P o a m (frp c (off + i.toNat * sz)) m ⟨[], []⟩ :=
  OpOk.quiet fun ι tt w hs => by
    have h := rv_operand hs (x := x) (by rw [ho]; simp [Op.operands]) hc
    rw [hx] at h
    have h2 := rv_operand hs (x := ix) (by rw [ho]; simp [Op.operands]) hc2
    rw [hi] at h2
    have he2 := h2.int_inv
    generalize hy : (act tt).eval x = y at h
    cases h with
    | iface _ ht => exact absurd ht (by decide)
    | @frp _ _ r ro cr hr hp hfit hcc =>
      refine ⟨.pointer (some ⟨r, ro + (off + i.toNat * sz), none⟩), .frp hr hp hfit hcc, ?_⟩
      unfold execOp; rw [ho]
      simp [Instr.indexAt, run_underlying hu w, hy, he2, sureAddr, asIntOf, run_szC hz, addr_add, Nat.add_assoc, h0, h1]

theorem OpOk.loadFrp {t : TypeId} {x : Operand} {c : List Value} {off : Nat} {v : Value} (ho : o.op = .load t x) (hc : okConst x = true) (hx : evalC a x = frp c off) (hv : loadC P t c off = some v) : OpOk P o a m v m ⟨[], []⟩ := by
  refine OpOk.readsF (by simp) fun ι tt w hs _ hfro => ?_
  have h := rv_operand hs (x := x) (by rw [ho]; simp [Op.operands]) hc
  rw [hx] at h
  generalize hy : (act tt).eval x = y at h
  cases h with
  | iface _ ht => exact absurd ht (by decide)
  | @frp _ _ r ro cr hr hp hfit hcc =>
    obtain ⟨te, fz, hh⟩ := hfro r cr hr
    unfold loadC at hv
    split at hv
    · rename_i ht
      split at hv
      · rename_i n hn
        split at hv
        · rename_i hle
          cases hv
          have hle := Nat.le_of_ble_eq_true hle
          refine ⟨.agg ((List.range n).map fun j => cr.getD (ro + off + j) undef).toArray, .agg (by simp; omega) (fun i => ?_), ?_⟩
          · rw [toArr_range]
            by_cases hi : i < n
            · rw [if_pos hi]
              have h1 : ((c.drop off).take n).toArray.getD i undef = c.getD (off + i) undef := by simp [List.getD_eq_getElem?_getD, hi]
              rw [h1, Nat.add_assoc]
              exact hcc (off + i) (by omega)
            · rw [if_neg hi]
              have h1 : ((c.drop off).take n).toArray.getD i undef = undef := by simp [List.getElem?_take, hi]
              rw [h1]; exact .any _
          · unfold execOp; rw [ho]
            have hl := run_loadCells (P := P) w ⟨r, ro + off, none⟩ n (fun j => cr.getD (ro + off + j) undef) (fun j hj => by rw [addr_add]; exact cell_of (L := ⟨r, ro, 0, 0, true⟩) hh (by omega))
            simp [loadAt, hy, sureAddr, loadVar, run_isAgg ht w, run_szC hn, hl]
        · cases hv
      · cases hv
    · rename_i ht
      have hlt : off < c.length := (List.getElem?_eq_some_iff.1 hv).1
      have hrv := hcc off hlt
      rw [show c.getD off undef = v by simp [List.getD_eq_getElem?_getD, hv]] at hrv
      refine ⟨_, hrv, ?_⟩
      unfold execOp; rw [ho]
      have hcell : w.cell? ⟨r, ro + off, none⟩ = some (cr.getD (ro + off) undef) := cell_of (L := ⟨r, ro, 0, 0, true⟩) hh (by omega)
      simp [loadAt, hy, sureAddr, loadVar, run_isAgg ht w, hcell]
    · cases hv

theorem OpOk.sliceFrz {t e : TypeId} {x : Operand} {lo hi : Option Operand} {n size l h : Nat} {c : List Value} {kl kh : IntKind} (ho : o.op = .slice t x lo hi none) (hc : okConst x = true)
    (hx : evalC a x = frz n c) (hu : P.underlying t = some (.slice e)) (hz : szC P e = some size) (hlen : c.length = n * size)
    (hlo : (lo = none ∧ l = 0) ∨ ∃ y, lo = some y ∧ okConst y = true ∧ evalC a y = .int kl l) (hhi : (hi = none ∧ h = n) ∨ ∃ y, hi = some y ∧ okConst y = true ∧ evalC a y = .int kh h) (hlh : l ≤ h) (hhc : h ≤ n) :
    OpOk P o a m (frz (h - l) ((c.drop (l * size)).take ((h - l) * size))) m ⟨[], []⟩ := by
  refine OpOk.quiet fun ι tt w hs => ?_
  have hrx := rv_operand hs (x := x) (by rw [ho]; simp [Op.operands]) hc
  rw [hx] at hrx
  have bounds : ∀ cap', h ≤ cap' → (sliceBounds true n cap' (lo.map (act tt).eval) (hi.map (act tt).eval) none).run P w = .ok (l, h, cap') w := fun cap' hcap' => by
    have hhv : hi.map (act tt).eval = hi.map (fun _ => Value.int kh h) := by
      rcases hhi with ⟨rfl, _⟩ | ⟨y, rfl, hy1, hy2⟩
      · rfl
      · have := rv_operand hs (x := y) (by rw [ho]; simp [Op.operands]) hy1
        rw [hy2] at this
        simp [this.int_inv]
    have hlv : lo.map (act tt).eval = lo.map (fun _ => Value.int kl l) := by
      rcases hlo with ⟨rfl, _⟩ | ⟨y, rfl, hy1, hy2⟩
      · rfl
      · have := rv_operand hs (x := y) (by rw [ho]; simp [Op.operands]) hy1
        rw [hy2] at this
        simp [this.int_inv]
    rw [hhv, hlv]
    rcases hhi with ⟨rfl, rfl⟩ | ⟨y, rfl, _, _⟩ <;> rcases hlo with ⟨rfl, rfl⟩ | ⟨z, rfl, _, _⟩ <;>
      simp [sliceBounds, sliceBound, asIntOf, *]
  have hsub : ∀ l h : Nat, l ≤ h → h ≤ n → ((c.drop (l * size)).take ((h - l) * size)).length = (h - l) * size := fun l h h1 h2 => by
    have e1 : (h - l) * size + l * size = h * size := by rw [← Nat.add_mul]; congr 1; omega
    have e2 : h * size ≤ n * size := Nat.mul_le_mul_right _ h2
    simp only [List.length_take, List.length_drop]
    omega
  generalize hy : (act tt).eval x = y at hrx
  cases hrx with
  | iface _ ht => exact absurd ht (by decide)
  | frzN =>
    have hh0 : h = 0 := by omega
    have hl0 : l = 0 := by omega
    subst hh0; subst hl0
    refine ⟨.slice none 0 0, by simpa using RV.frzN, ?_⟩
    unfold execOp; rw [ho]
    have hbnd := bounds 0 (by omega)
    simp [Instr.sliceAt, run_underlying hu w, hy, Instr.slice, hbnd, run_szC hz w]
  | frzE q cap =>
    have hh0 : h = 0 := by omega
    have hl0 : l = 0 := by omega
    subst hh0; subst hl0
    refine ⟨.slice (some q) 0 cap, by simpa using RV.frzE q cap, ?_⟩
    unfold execOp; rw [ho]
    have hbnd := bounds cap (by omega)
    simp only [Instr.sliceAt, Sem.run_bind, run_underlying hu w, Result.andThen_ok, hy, Instr.slice, hbnd, run_szC hz w, Sem.run_pure, Option.map_none]
    by_cases hcl : cap = 0 <;> simp [hcl, Addr.add]
  | @frz _ _ r off cap cr hr hcap hp hfit hcc =>
    have e1 : (h - l) * size + l * size = h * size := by rw [← Nat.add_mul]; congr 1; omega
    have e2 : h * size ≤ n * size := Nat.mul_le_mul_right _ hhc
    have hpsub : pures ((c.drop (l * size)).take ((h - l) * size)) = true := by
      have key : ∀ (c : List Value) (i j : Nat), pures c = true → pures ((c.drop i).take j) = true := by
        intro c
        induction c with
        | nil => intro i j _; simp [pures]
        | cons v c ih =>
          intro i j hp
          simp only [pures, Bool.and_eq_true] at hp
          cases i with
          | zero =>
            cases j with
            | zero => simp [pures]
            | succ j => have := ih 0 j hp.2; simp only [List.drop_zero] at this; simp [pures, hp.1, this]
          | succ i => simpa using ih i j hp.2
      exact key c _ _ hp
    by_cases hcl : cap = l
    · have hll : h - l = 0 := by omega
      refine ⟨.slice (some ⟨r, off, none⟩) 0 0, ?_, ?_⟩
      · rw [hll]; simpa using RV.frzE ⟨r, off, none⟩ 0
      · unfold execOp; rw [ho]
        have hbnd := bounds cap (by omega)
        simp only [Instr.sliceAt, Sem.run_bind, run_underlying hu w, Result.andThen_ok, hy, Instr.slice, hbnd, run_szC hz w, Sem.run_pure, Option.map_none]
        have : h = l := by omega
        subst this
        simp [hcl]
    · refine ⟨.slice (some ⟨r, off + l * size, none⟩) (h - l) (cap - l), .frz hr (by omega) hpsub (by rw [hsub l h hlh hhc]; omega) (fun i hi => ?_), ?_⟩
      · rw [hsub l h hlh hhc] at hi
        have := hcc (l * size + i) (by omega)
        rw [Nat.add_assoc]
        simpa [List.getD_eq_getElem?_getD, List.getElem?_take, hi, List.getElem?_drop] using this
      · unfold execOp; rw [ho]
        have hbnd := bounds cap (by omega)
        simp only [Instr.sliceAt, Sem.run_bind, run_underlying hu w, Result.andThen_ok, hy, Instr.slice, hbnd, run_szC hz w, Sem.run_pure, Option.map_none]
        simp [hcl, addr_add]

/-- A slice of nothing, with no room: s[:0:0]. -/
theorem OpOk.empFrz {t e : TypeId} {x y z : Operand} {n size : Nat} {c : List Value} {kh km : IntKind} (ho : o.op = .slice t x none (some y) (some z)) (hc : okConst x = true) (hcy : okConst y = true) (hcz : okConst z = true)
    (hx : evalC a x = frz n c) (hy : evalC a y = .int kh 0) (hz : evalC a z = .int km 0) (hu : P.underlying t = some (.slice e)) (hsz : szC P e = some size) : OpOk P o a m emp m ⟨[], []⟩ := by
  refine OpOk.quiet fun ι tt w hs => ?_
  have hrx := rv_operand hs (x := x) (by rw [ho]; simp [Op.operands]) hc
  rw [hx] at hrx
  have h1 := rv_operand hs (x := y) (by rw [ho]; simp [Op.operands]) hcy
  rw [hy] at h1
  have h2 := rv_operand hs (x := z) (by rw [ho]; simp [Op.operands]) hcz
  rw [hz] at h2
  have h1 := h1.int_inv
  have h2 := h2.int_inv
  generalize hgy : (act tt).eval x = v at hrx
  cases hrx with
  | iface _ ht => exact absurd ht (by decide)
  | frzN =>
    refine ⟨.slice none 0 0, .empN, ?_⟩
    unfold execOp; rw [ho]
    simp [Instr.sliceAt, run_underlying hu w, hgy, h1, h2, Instr.slice, run_szC hsz w, sliceBounds, sliceBound, asIntOf]
  | frzE q cap =>
    refine ⟨.slice (some q) 0 0, .empE q, ?_⟩
    unfold execOp; rw [ho]
    simp [Instr.sliceAt, run_underlying hu w, hgy, h1, h2, Instr.slice, run_szC hsz w, sliceBounds, sliceBound, asIntOf, Addr.add]
  | @frz _ _ r off cap cr hr hcap hp hfit hcc =>
    refine ⟨.slice (some ⟨r, off, none⟩) 0 0, .empE _, ?_⟩
    unfold execOp; rw [ho]
    simp [Instr.sliceAt, run_underlying hu w, hgy, h1, h2, Instr.slice, run_szC hsz w, sliceBounds, sliceBound, asIntOf, Addr.add]

/-- Room for a block that nothing stands for. -/
theorem OpOk.padR {v : Value} {m1 : List Blk} {fp : Fp} (h : OpOk P o a m v m1 fp) (hl : m1.length = m.length) : OpOk P o a m v (m1 ++ [.gone]) fp where
  len := by simp; omega
  sub := h.sub
  rdlt := h.rdlt
  same := fun b hb hn => by
    rw [← h.same b hb hn, List.getD_eq_getElem?_getD, List.getElem?_append_left (by omega), ← List.getD_eq_getElem?_getD]
  run := fun ι t w hs hdom hsim next Q hn => by
    have hat : ∀ x, at_ (m1 ++ [.gone]) x = at_ m1 x := fun x => by
      simp only [at_, List.getD_eq_getElem?_getD]
      by_cases hx : x < m1.length
      · rw [List.getElem?_append_left hx]
      · rw [List.getElem?_append_right (by omega), List.getElem?_eq_none (l := m1) (by omega)]
        cases x - m1.length with
        | zero => rfl
        | succ k => rfl
    have e : (at_ (m1 ++ [.gone])).only (tch fp.rd m.length (m1 ++ [Blk.gone]).length) = (at_ m1).only (tch fp.rd m.length m1.length) := by
      funext x
      simp only [Cont.only, hat]
      have h1 : x < m.length ∨ m1.length ≤ x := by omega
      rcases h1 with h1 | h1
      · have e : tch fp.rd m.length (m1 ++ [Blk.gone]).length x = tch fp.rd m.length m1.length x := by
          have : ¬ m.length ≤ x := by omega
          simp [tch, this]
        simp only [e]
      · have e : at_ m1 x = .gone := by simp [at_, List.getD_eq_getElem?_getD, List.getElem?_eq_none h1]
        rw [e]
        split <;> split <;> rfl
    refine h.run ι t w hs (fun b h1 h2 => by omega) hsim next Q fun v' w1 ι' h1 h2 h3 h4 => hn v' w1 ι' h1 (by rw [e]; exact h2) (by rw [e]; exact h3) fun b hb hb' => ?_
    have := h4 b hb hb'
    omega

/-- A row that is made and at once known by what it holds. -/
theorem OpOk.frzOut {m1 : List Blk} {n sz : Nat} {c : List Value} {fp : Fp} (hm1 : m1.length = m.length) (hp : pures c = true) (h0 : n = 0 → c = []) (h : OpOk P o a m (.slice (some ⟨m.length, 0, none⟩) n n) (m1 ++ [.cells c sz true]) fp) : OpOk P o a m (frz n c) (m1 ++ [.gone]) fp where
  len := by simp; omega
  sub := h.sub
  rdlt := h.rdlt
  same := fun b hb hn => by
    have := h.same b hb hn
    rw [List.getD_eq_getElem?_getD, List.getElem?_append_left (by omega)] at this
    rwa [List.getD_eq_getElem?_getD, List.getElem?_append_left (by omega)]
  run := fun ι t w hs hdom hsim next Q hn => by
    refine h.run ι t w hs (fun b h1 h2 => hdom b h1 (by simpa using h2)) hsim next Q fun v' w1 ι' hv hE hS hd => ?_
    have hlen : (m1 ++ [Blk.cells c sz true]).length = m.length + 1 := by simp [hm1]
    have hlen' : (m1 ++ [Blk.gone]).length = m.length + 1 := by simp [hm1]
    generalize hC' : (at_ (m1 ++ [.cells c sz true])).only (tch fp.rd m.length (m1 ++ [Blk.cells c sz true]).length) = C' at hE hS
    have hCm : C' m.length = .cells c sz true := by
      have h1 : tch fp.rd m.length (m1 ++ [Blk.cells c sz true]).length m.length = true := by simp [tch, hlen]
      rw [← hC']
      unfold Cont.only
      rw [if_pos h1]
      have h2 := getD_append_new m1 (.cells c sz true)
      rw [hm1] at h2
      exact h2
    have hC2 : ∀ x, ((at_ (m1 ++ [.gone])).only (tch fp.rd m.length (m1 ++ [Blk.gone]).length)) x = if x = m.length then .gone else C' x := fun x => by
      rw [← hC', hlen, hlen']
      simp only [Cont.only]
      by_cases hx : x = m.length
      · rw [if_pos hx, hx]
        split
        · have h2 := getD_append_new m1 .gone
          rw [hm1] at h2
          exact h2
        · rfl
      · rw [if_neg hx]
        split
        · simp only [at_, List.getD_eq_getElem?_getD]
          by_cases hxl : x < m1.length
          · rw [List.getElem?_append_left hxl, List.getElem?_append_left hxl]
          · rw [List.getElem?_eq_none (by simp; omega), List.getElem?_eq_none (by simp; omega)]
        · rfl
    have hB := hS.blk m.length
    rw [hCm] at hB
    obtain ⟨L, c', te, fz, hL, hh, hfit, hrw, _, hcells⟩ := hB
    obtain ⟨rfl, _, _, _⟩ := hrw rfl
    have hlb : ∀ r cc, ι'.fro r = some cc → L.blk ≠ r := fun r cc h => hS.apart m.length L r cc (by rw [hCm]; rfl) hL h
    let ι2 : Map := ⟨ι'.loc, fun r => if r = L.blk then some c' else ι'.fro r⟩
    have hself : ι2.fro L.blk = some c' := by show (if L.blk = L.blk then some c' else _) = _; rw [if_pos rfl]
    have hle : Le ι' ι2 := ⟨fun _ _ h => h, fun r cc h => by
      show (if r = L.blk then some c' else ι'.fro r) = some cc
      rw [if_neg (Ne.symm (hlb r cc h))]; exact h⟩
    have hcase : ∀ r cc, ι2.fro r = some cc → (r = L.blk ∧ cc = c') ∨ ι'.fro r = some cc := fun r cc h => by
      have h : (if r = L.blk then some c' else ι'.fro r) = some cc := h
      split at h
      · rename_i e; cases h; exact .inl ⟨e, rfl⟩
      · exact .inr h
    have ownSub : ∀ k, OwnR ι2 ((at_ (m1 ++ [.gone])).only (tch fp.rd m.length (m1 ++ [Blk.gone]).length)) k → OwnR ι' C' k := fun k ⟨x, K, ho, hK, hk⟩ => by
      rw [hC2] at ho
      split at ho
      · cases ho
      · exact ⟨x, K, ho, hK, hk⟩
    have liveSub : ∀ k, LiveR ι2 ((at_ (m1 ++ [.gone])).only (tch fp.rd m.length (m1 ++ [Blk.gone]).length)) k → LiveR ι' C' k := fun k ⟨x, K, ho, hK, hk⟩ => by
      rw [hC2] at ho
      split at ho
      · cases ho
      · exact ⟨x, K, ho, hK, hk⟩
    refine hn v' w1 ι2 ?_ ⟨hE.le.trans hle, hE.size, hE.os, hE.tape, hE.output, hE.frame, fun k hk => hE.own k (ownSub k hk), fun k hk => hE.live k (liveSub k hk), fun r cc hcc => ?_⟩
      ⟨fun x => ?_, fun x x2 K K2 hne ho hl hK hK2 => ?_, fun r cc hcc => ?_, fun x K r cc ho hK hcc => ?_⟩ (fun b hb hb' => by have := hd b hb hb'; omega)
    · cases hv with
      | slice0 p q => have e := h0 rfl; subst e; exact .frzE q 0
      | @slice _ _ _ _ cap' L2 hL2 hcc hr2 =>
        rw [hL] at hL2; cases hL2
        exact .frz hself hcc hp (by omega) fun i hi => by
          have := (hcells i hi).mono hle
          rwa [Nat.add_zero]
    · rcases hcase r cc hcc with ⟨rfl, rfl⟩ | h
      · exact .inr (hE.own L.blk ⟨m.length, L, by rw [hCm]; rfl, hL, rfl⟩)
      · exact hE.fro r cc h
    · rw [hC2]
      split
      · trivial
      · exact (hS.blk x).keep hle fun _ _ _ => rfl
    · rw [hC2] at ho hl
      split at ho
      · cases ho
      · split at hl
        · cases hl
        · exact hS.sep x x2 K K2 hne ho hl hK hK2
    · rcases hcase r cc hcc with ⟨rfl, rfl⟩ | h
      · exact ⟨te, (0, 0), hh⟩
      · exact hS.fro r cc h
    · rw [hC2] at ho
      split at ho
      · cases ho
      · rename_i hxb
        rcases hcase r cc hcc with ⟨rfl, rfl⟩ | h
        · exact hS.sep x m.length K L hxb ho (by rw [hCm]; rfl) hK hL
        · exact hS.apart x K r cc ho hK h

/-- An append onto a slice of nothing, with no room: a new row. -/
theorem OpOk.appendEmp {t tx e : TypeId} {s x : Operand} {i : TypeInfo} {z : Value} {n : Nat} {vs : List Value} {rd : List Nat} (ho : o.op = .call { callee := .builtin .append, args := #[s, x], argTypes := #[t, tx] }) (hcs : okConst s = true) (hcx : okConst x = true)
    (hs : evalC a s = emp) (hn : 0 < n) (hu : P.underlying t = some (.slice e)) (hk : (∃ e', P.underlying tx = some (.slice e')) ∨ P.underlying tx = some .string)
    (hi : P.info? e = some i) (hz : i.zero = some z) (hzs : z.cells.size = i.size) (h63 : n ≤ 9223372036854775807) (hby : 2 * n * i.bytes ≤ 281474976710656) (hx : SrcC P a m i.size x n vs rd) :
    OpOk P o a m (.slice (some ⟨m.length, 0, none⟩) n n) (m ++ [.cells vs i.size true]) ⟨rd, []⟩ :=
  OpOk.makesR hx.rdlt fun ι tt w hsl hbl hfro => by
    have hrs := rv_operand hsl (x := s) (by rw [ho]; simp [Op.operands, Call.operands]) hcs
    rw [hs] at hrs
    obtain ⟨news, hsrc, hlen, hrv⟩ := hx.real (tx := tx) hcx (by rw [ho]; simp [Op.operands, Call.operands]) hk hsl hbl hfro
    have hvl := hx.len
    generalize hy : (act tt).eval s = y at hrs
    have hbase : ∃ ad, y = .slice ad 0 0 := by
      cases hrs with
      | iface _ ht => exact absurd ht (by decide)
      | empN => exact ⟨_, rfl⟩
      | empE q => exact ⟨_, rfl⟩
    obtain ⟨ad, rfl⟩ := hbase
    have hnc : Builtin.nextslicecap (0 + n) 0 * i.bytes ≤ 281474976710656 := by
      have := nextslicecap_le (need := 0 + n) (old := 0) (by omega)
      exact Nat.le_trans (Nat.mul_le_mul_right _ this) (by simpa using hby)
    have hrun := run_append_grow_src (P := P) w t tx o.type e i z hu hi hz ad 0 0 [] (by cases ad <;> simp [Builtin.firstCells, loadCells, loadCellsFrom]) ((act tt).eval x) n news hsrc (by omega) (by omega) hnc
    rw [← hy] at hrun
    have hge := grownCap_ge w (0 + n) 0 e
    generalize hgc : grownCap w (0 + n) 0 e = G at hrun hge
    rw [Nat.zero_add] at hge
    have hzc : (Builtin.zeroCells z.cells (G - (0 + n))).size = (G - n) * i.size := by simp [Builtin.zeroCells, hzs]
    have hcrs : (([] ++ news).toArray ++ Builtin.zeroCells z.cells (G - (0 + n))).size = G * i.size := by
      have e2 : G * i.size = n * i.size + (G - n) * i.size := by rw [← Nat.add_mul]; congr 1; omega
      simp only [Array.size_append, hzc, List.size_toArray, List.nil_append]
      omega
    refine ⟨_, ([] ++ news).toArray ++ Builtin.zeroCells z.cells (G - (0 + n)), e, w.drawn + 1, ?_, fun j hj => ?_, fun ι' hle hι' => ?_, run_append_call ho hrun⟩
    · rw [hcrs, hvl]; exact Nat.mul_le_mul_right _ hge
    · have : (([] ++ news).toArray ++ Builtin.zeroCells z.cells (G - (0 + n))).getD j undef = news.getD j undef := by
        have hlt : j < news.length := by omega
        simp only [Array.getD_eq_getD_getElem?]
        rw [Array.getElem?_append_left (by simpa using hlt)]
        simp [List.getD_eq_getElem?_getD]
      rw [this]
      exact hrv j hj
    · have := RV.slice (o := 0) (l := n) hι' hge (fun _ _ => by simp only [hcrs]; omega)
      simpa using this
theorem OpOk.appendEmp0 {t tx e : TypeId} {s x : Operand} {i : TypeInfo} {rd : List Nat} (ho : o.op = .call { callee := .builtin .append, args := #[s, x], argTypes := #[t, tx] }) (hcs : okConst s = true) (hcx : okConst x = true)
    (hs : evalC a s = emp) (hu : P.underlying t = some (.slice e)) (hk : (∃ e', P.underlying tx = some (.slice e')) ∨ P.underlying tx = some .string) (hi : P.info? e = some i)
    (hx : SrcC P a m i.size x 0 [] rd) : OpOk P o a m (frz 0 []) m ⟨rd, []⟩ :=
  OpOk.readsF hx.rdlt fun ι tt w hsl hbl hfro => by
    have hrs := rv_operand hsl (x := s) (by rw [ho]; simp [Op.operands, Call.operands]) hcs
    rw [hs] at hrs
    obtain ⟨news, hsrc, hlen, _⟩ := hx.real (tx := tx) hcx (by rw [ho]; simp [Op.operands, Call.operands]) hk hsl hbl hfro
    have hn : news = [] := List.eq_nil_of_length_eq_zero (by simpa using hlen.symm)
    subst hn
    generalize hy : (act tt).eval s = y at hrs
    cases hrs with
    | iface _ ht => exact absurd ht (by decide)
    | empN => exact ⟨_, .frzN, run_append_call ho (by rw [hy]; exact run_append_nothing w t tx o.type e i hu hi _ 0 0 (Nat.le_refl _) _ hsrc)⟩
    | empE q => exact ⟨_, .frzE q 0, run_append_call ho (by rw [hy]; exact run_append_nothing w t tx o.type e i hu hi _ 0 0 (Nat.le_refl _) _ hsrc)⟩

theorem OpOk.weakenV {v u : Value} {m1 : List Blk} {fp : Fp} (h : OpOk P o a m v m1 fp) (hw : ∀ (ι : Map) (x : Value), RV ι v x → RV ι u x) : OpOk P o a m u m1 fp where
  len := h.len
  sub := h.sub
  rdlt := h.rdlt
  same := h.same
  run := fun ι t w hs hdom hsim next Q hn => h.run ι t w hs hdom hsim next Q fun v' w1 ι' h1 h2 h3 h4 => hn v' w1 ι' (hw ι' v' h1) h2 h3 h4

/-- A block that is given up. -/
theorem OpOk.forget {v : Value} {m1 : List Blk} {b : Nat} {rd : List Nat} (hb : b < m.length) (h : OpOk P o a m v m1 ⟨rd, []⟩) : OpOk P o a m v (m1.set b .gone) ⟨b :: rd, [b]⟩ where
  len := by have := h.len; simpa using this
  sub := by simp
  rdlt := fun x hx => by
    rcases List.mem_cons.1 hx with rfl | hx
    · exact hb
    · exact h.rdlt x hx
  same := fun x hx hn => by
    have hne : b ≠ x := fun e => hn (by simp [e])
    rw [← h.same x hx (by simp), List.getD_eq_getElem?_getD, List.getD_eq_getElem?_getD, List.getElem?_set_ne hne]
  run := fun ι t w hs hdom hsim next Q hn => by
    have hl := h.len
    have e1 : ((at_ m).only (isIn (b :: rd))).only (isIn rd) = (at_ m).only (isIn rd) := by
      funext x
      simp only [Cont.only]
      cases hx : isIn rd x with
      | false => simp
      | true =>
        have : isIn (b :: rd) x = true := by simp only [isIn] at hx ⊢; simp at hx ⊢; exact .inr hx
        simp [this]
    refine h.run ι t w hs (fun x h1 h2 => hdom x h1 (by simpa using h2)) (by rw [← e1]; exact hsim.only _) next Q fun v' w1 ι' h1 h2 h3 h4 => ?_
    -- all that is touched, but for the block
    have hfr := Sim.frame (C := (at_ m).only (isIn (b :: rd))) (C' := at_ m1) (D := fun x => if tch rd m.length m1.length x then at_ m1 x else ((at_ m).only (isIn (b :: rd))) x) (R := isIn rd) (T := tch rd m.length m1.length) hsim
      (fun x hx => by simp only [isIn] at hx; unfold tch; rw [hx]; rfl) (by rw [e1]; exact h2) h3 (fun x => rfl)
    obtain ⟨hS, hE⟩ := hfr
    have hsub : ∀ x, ((at_ (m1.set b .gone)).only (tch (b :: rd) m.length (m1.set b .gone).length)) x = .gone ∨ ((at_ (m1.set b .gone)).only (tch (b :: rd) m.length (m1.set b .gone).length)) x = (if tch rd m.length m1.length x then at_ m1 x else ((at_ m).only (isIn (b :: rd))) x) := fun x => by
      by_cases hx : x = b
      · left
        subst hx
        simp only [Cont.only]
        split
        · simp only [at_, List.getD_eq_getElem?_getD, List.getElem?_set_self (show x < m1.length by omega)]; rfl
        · rfl
      · have et : tch (b :: rd) m.length (m1.set b .gone).length x = tch rd m.length m1.length x := by simp [tch, hx]
        have ei : isIn (b :: rd) x = isIn rd x := by simp [isIn, hx]
        have ea : at_ (m1.set b .gone) x = at_ m1 x := by simp [at_, List.getD_eq_getElem?_getD, List.getElem?_set_ne (Ne.symm hx)]
        simp only [Cont.only, et, ei, ea]
        cases ht : tch rd m.length m1.length x with
        | true => right; simp
        | false => left; simp
    refine hn v' w1 ι' h1 ⟨hE.le, hE.size, hE.os, hE.tape, hE.output, hE.frame, fun k ⟨x, K, ho, hK, hk⟩ => ?_, fun k ⟨x, K, ho, hK, hk⟩ => ?_, hE.fro⟩ ⟨fun x => ?_, fun x x2 K K2 hne ho hl' hK hK2 => ?_, hS.fro, fun x K r c ho hK hr => ?_⟩ (fun x hx hx' => by have := h4 x hx hx'; simpa using this)
    · rcases hsub x with e | e
      · rw [e] at ho; cases ho
      · rw [e] at ho; exact hE.own k ⟨x, K, ho, hK, hk⟩
    · rcases hsub x with e | e
      · rw [e] at ho; cases ho
      · rw [e] at ho; exact hE.live k ⟨x, K, ho, hK, hk⟩
    · rcases hsub x with e | e
      · rw [e]; trivial
      · rw [e]; exact hS.blk x
    · rcases hsub x with e | e
      · rw [e] at ho; cases ho
      · rcases hsub x2 with e2 | e2
        · rw [e2] at hl'; cases hl'
        · rw [e] at ho; rw [e2] at hl'
          exact hS.sep x x2 K K2 hne ho hl' hK hK2
    · rcases hsub x with e | e
      · rw [e] at ho; cases ho
      · rw [e] at ho; exact hS.apart x K r c ho hK hr

def isSl (P : Program) (t : TypeId) : Bool := match P.underlying t with
  | some (.slice _) => true
  | _ => false

def isZero (a : List Value) (x : Operand) : Bool := okConst x && (match evalC a x with | .int _ 0 => true | _ => false)
theorem isZero_ok {x : Operand} (h : isZero a x = true) : okConst x = true ∧ ∃ k, evalC a x = .int k 0 := by
  unfold isZero at h
  rw [Bool.and_eq_true] at h
  refine ⟨h.1, ?_⟩
  have h2 := h.2
  split at h2
  · rename_i k he; exact ⟨k, he⟩
  · cases h2
def opG (P : Program) (o : Oper) (a : List Value) (m : List Blk) : Option Out :=
  match o.op with
  | .call c => match c.callee with
    | .builtin .len => match c.args.toList, c.argTypes.toList with
      | [x], [t] => match asFrz (evalC a x) with
        | some (n, _) => if okConst x && isSl P t then some (.int .i64 n, m, ⟨[], []⟩) else none
        | none => none
      | _, _ => none
    | _ => none
  | .fieldAddr t x f => match asFrp (evalC a x) with
    | some (c, off) => if okConst x then match P.underlying t with
        | some (.struct fs) => match fs[f]? with
          | some fd => match szC P fd.type with
            | some (_ + 1) => nf fd.offset fun d => some (frp c (off + d), m, ⟨[], []⟩)
            | _ => none
          | none => none
        | _ => none
      else none
    | none => none
  | .indexAddr t x ix => match asFrp (evalC a x), evalC a ix with
    | some (c, off), .int _ i => if okConst x && okConst ix then match P.underlying t with
        | some (.array len e) => match szC P e with
          | some n => if (decide (0 ≤ i) && decide (i < len)) = true then some (frp c (off + i.toNat * n), m, ⟨[], []⟩) else none
          | none => none
        | _ => none
      else none
    | _, _ => none
  | .slice t x none (some y) (some z) => match asFrz (evalC a x) with
    | some _ => if okConst x && isZero a y && isZero a z then match P.underlying t with
        | some (.slice e) => match szC P e with
          | some _ => some (emp, m, ⟨[], []⟩)
          | none => none
        | _ => none
      else none
    | none => none
  | _ => none

theorem opG_ok {v : Value} {m' : List Blk} {fp : Fp} (h : opG P o a m = some (v, m', fp)) : OpOk P o a m v m' fp := by
  unfold opG at h
  split at h
  · rename_i c ho
    split at h
    · rename_i hcal
      split at h
      · rename_i x t h1 h2
        split at h
        · rename_i n c' hx
          split at h
          · rename_i hc
            rw [Bool.and_eq_true] at hc
            cases h
            obtain ⟨callee, ⟨xs⟩, ⟨ts⟩⟩ := c
            simp only at hcal h1 h2
            subst hcal; subst h1; subst h2
            have hsl := hc.2
            unfold isSl at hsl
            split at hsl
            · rename_i e hu
              exact OpOk.lenFrz ho hc.1 (asFrz_ok hx) hu
            · cases hsl
          · cases h
        · cases h
      · cases h
    · cases h
  · rename_i t x f ho
    split at h
    · rename_i c off hx
      split at h
      · rename_i hc
        split at h
        · rename_i fs hu
          split at h
          · rename_i fd hf
            split at h
            · rename_i n hz; rw [nf_eq] at h; cases h; exact OpOk.fieldFrp ho hc (asFrp_ok hx) hu hf hz
            · cases h
          · cases h
        · cases h
      · cases h
    · cases h
  · rename_i t x ix ho
    split at h
    · rename_i c off k i hx hi
      split at h
      · rename_i hc
        rw [Bool.and_eq_true] at hc
        split at h
        · rename_i len e hu
          split at h
          · rename_i n hz
            split at h
            · rename_i hb
              simp only [Bool.and_eq_true, decide_eq_true_eq] at hb
              cases h; exact OpOk.idxFrp ho hc.1 hc.2 (asFrp_ok hx) hi hu hz hb.1 hb.2
            · cases h
          · cases h
        · cases h
      · cases h
    · cases h
  · rename_i t x y z ho
    split at h
    · rename_i p hx
      obtain ⟨n, c⟩ := p
      split at h
      · rename_i hc
        simp only [Bool.and_eq_true] at hc
        obtain ⟨hy, ky, hy2⟩ := isZero_ok hc.1.2
        obtain ⟨hz, kz, hz2⟩ := isZero_ok hc.2
        split at h
        · rename_i e hu
          split at h
          · rename_i sz hsz
            cases h
            exact OpOk.empFrz ho hc.1.1 hy hz (asFrz_ok hx) hy2 hz2 hu hsz
          · cases h
        · cases h
      · cases h
    · cases h
  · cases h

/-- One operation, as far as it can be reckoned. -/
def opA (P : Program) (o : Oper) (a : List Value) (m : List Blk) : Option Out :=
  match opB P o a m with
  | some x => some x
  | none => match opF P o a m with
    | some x => some x
    | none => opG P o a m

theorem opA_ok {v : Value} {m' : List Blk} {fp : Fp} (h : opA P o a m = some (v, m', fp)) : OpOk P o a m v m' fp := by
  unfold opA at h
  split at h
  · rename_i x hx; cases h; exact opB_ok hx
  · split at h
    · rename_i x hx; cases h; exact opF_ok hx
    · exact opG_ok h

end
end Go.Dt
