/- Operations: equality of aggregates, functions without a Go body, slices made and cut, appends. -/
import Derived.Test.YtjfodgjgpeiaaaaDt9
import Derived.Laws.StructEq
import Derived.Laws.Externs
import Derived.ChangeKeysEq
namespace Go.Dt
open Go.Instr

section
variable {P : Program} {o : Oper} {a : List Value} {m : List Blk}

/-! ### Aggregates held against each other -/
def eqC (P : Program) : Nat → TypeId → Value → Value → Option Bool
  | 0, _, _, _ => none
  | d + 1, t, x, y => match P.underlying t with
    | some .bool => match x, y with
      | .bool a, .bool b => some (a == b)
      | _, _ => none
    | some (.int _) => match x, y with
      | .int k a, .int k' b => if k = k' then some (a == b) else none
      | _, _ => none
    | some .string => match x, y with
      | .string a, .string b => some (a == b)
      | _, _ => none
    | some (.struct fs) => match x, y with
      | .agg xs, .agg ys => if P.stoodInHeld t then none else
          fs.toList.foldr (fun f acc => if f.name = "_" then acc else match partC P f.type xs f.offset, partC P f.type ys f.offset with
            | some u, some v => match eqC P d f.type u v, acc with
              | some r, some s => some (r && s)
              | _, _ => none
            | _, _ => none) (some true)
      | _, _ => none
    | some (.array n e) => match x, y with
      | .agg xs, .agg ys => match szC P e with
        | some sz => (List.range n).foldr (fun i acc => match partC P e xs (i * sz), partC P e ys (i * sz) with
            | some u, some v => match eqC P d e u v, acc with
              | some r, some s => some (r && s)
              | _, _ => none
            | _, _ => none) (some true)
        | none => none
      | _, _ => none
    | _ => none

theorem rows_refl {ι : Map} {cs : Array Value} (h : plains cs.toList = true) : ∀ i : Nat, RV ι (cs.getD i undef) (cs.getD i undef) := fun i => by
  have := RV.refls ι cs.toList h i
  simpa [Array.getD_eq_getD_getElem?] using this

theorem partC_run {t : TypeId} {cs : Array Value} {off : Nat} {v : Value} (h : partC P t cs off = some v) (w : World) : (part t cs off).run P w = .ok v w := by
  unfold partC at h
  cases hagg : isAggC P t with
  | none => simp [hagg] at h
  | some b =>
    have hra := run_isAgg hagg w
    cases b with
    | true =>
      simp only [hagg] at h
      cases hz : szC P t with
      | none => simp [hz] at h
      | some n =>
        simp only [hz, Option.map_some, Option.some.injEq] at h
        subst h
        unfold part
        simp [hra, run_szC hz w]
    | false =>
      simp only [hagg] at h
      unfold part
      simp [hra, h]

theorem run_eqC : ∀ (d : Nat) (t : TypeId) (x y : Value) (r : Bool), eqC P d t x y = some r → ∀ w, (Op.equalIn d t x y).run P w = .ok r w
  | 0, _, _, _, _, h, _ => by cases h
  | d + 1, t, x, y, r, h, w => by
    unfold eqC at h
    split at h
    · rename_i hu
      split at h
      · cases h; exact run_equalIn_bool' w d t _ _ hu
      · cases h
    · rename_i q hu
      split at h
      · split at h
        · rename_i hk
          subst hk
          cases h
          exact run_equalIn_int w d t _ _ _ _ hu
        · cases h
      · cases h
    · rename_i hu
      split at h
      · cases h
        rw [run_equalIn_string w d t _ _ hu, beq_toListBytes]
      · cases h
    · rename_i fs hu
      split at h
      · rename_i xs ys
        split at h
        · cases h
        · rename_i hst
          have hf : P.fieldsOf t = fs := by simp [Program.fieldsOf, hu]
          rw [run_equalIn_struct w d t xs ys (by rw [hf]; exact hu) (by simpa using hst), hf]
          clear hu hf
          generalize fs.toList = l at h
          induction l generalizing r with
          | nil => simp only [List.foldr_nil, Option.some.injEq] at h; subst h; simp [Op.eqFields]
          | cons f l ih =>
            simp only [List.foldr_cons] at h
            split at h
            · rename_i hn
              rw [Op.eqFields, if_neg (by simp [hn])]
              exact ih r h
            · rename_i hn
              split at h
              · rename_i u v hpu hpv
                split at h
                · rename_i r1 s hr1 hs
                  cases h
                  rw [Op.eqFields, if_pos hn]
                  simp only [Sem.run_bind, partC_run hpu, partC_run hpv, run_eqC d f.type u v r1 hr1, Result.andThen_ok]
                  cases r1
                  · simp
                  · simpa using ih s hs
                · cases h
              · cases h
      · cases h
    · rename_i n e hu
      split at h
      · rename_i xs ys
        split at h
        · rename_i sz hz
          unfold szC at hz
          cases hi : P.info? e with
          | none => simp [hi] at hz
          | some i =>
            have hcell : P.cellsOf e = sz := by simp [Program.cellsOf, hz]
            rw [run_equalIn_array w d xs ys hu hi, hcell]
            generalize List.range n = l at h
            induction l generalizing r with
            | nil => simp only [List.foldr_nil, Option.some.injEq] at h; subst h; simp [Op.eqItems]
            | cons j l ih =>
              simp only [List.foldr_cons] at h
              split at h
              · rename_i u v hpu hpv
                split at h
                · rename_i r1 s hr1 hs
                  cases h
                  rw [Op.eqItems]
                  simp only [Sem.run_bind, partC_run hpu, partC_run hpv, run_eqC d e u v r1 hr1, Result.andThen_ok]
                  cases r1
                  · simp
                  · simpa using ih s hs
                · cases h
              · cases h
        · cases h
      · cases h
    · cases h

theorem plain_operand {ι : Map} {t : Array Value} (hs : ∀ x, x ∈ slotsOf o → RV ι (a.getD x undef) (t.getD x undef)) {x : Operand} (hx : x ∈ o.op.operands) (hp : plainOperand a x = true) : (act t).eval x = evalC a x := by
  cases x with
  | tmp n => exact ((hs n (mem_slots hx)).eq_of_plain (by simpa [plainOperand] using hp)).symm
  | const v => rfl
  | global g => simp [plainOperand] at hp
  | func f => rfl

theorem OpOk.eqAgg {op : BinOp} {t ty : TypeId} {x y : Operand} {xs ys : Array Value} {r : Bool} (ho : o.op = .binOp op t x y ty) (hop : op = .eql ∨ op = .neq) (hx : evalC a x = .agg xs) (hy : evalC a y = .agg ys)
    (hpx : plainOperand a x = true) (hpy : plainOperand a y = true) (hg : P.eqGuardType P.depth t = false) (h : eqC P 10000 t (.agg xs) (.agg ys) = some r) : OpOk P o a m (.bool (if op = .eql then r else !r)) m ⟨[], []⟩ :=
  OpOk.quiet fun ι tt w hs => by
    have ex := plain_operand hs (x := x) (by rw [ho]; simp [Op.operands]) hpx
    have ey := plain_operand hs (x := y) (by rw [ho]; simp [Op.operands]) hpy
    rw [hx] at ex
    rw [hy] at ey
    refine ⟨_, .bool _, ?_⟩
    unfold execOp; rw [ho]
    have hr := run_eqC 10000 t _ _ r h w
    rcases hop with rfl | rfl
    · simp only [ex, ey, Sem.run_bind, run_eqGuard_agg w .eql t x y xs ys hg, Result.andThen_ok, run_eql_struct, hr]
      simp
    · simp only [ex, ey, Sem.run_bind, run_eqGuard_agg w .neq t x y xs ys hg, Result.andThen_ok, run_neq_struct, hr]
      simp

/-! ### Functions without a Go body -/
def externOf (P : Program) (f : FuncId) : Option (Array Value → Sem Value) :=
  match P.funcs[f]? with
  | some fn => if fn.body.isNone && !(fn.name == "runtime.NumGoroutine") && (Extern.findNext fn).isNone then Extern.find fn else none
  | none => none

theorem OpOk.extern {g : Operand} {xs : Array Operand} {ts : Array TypeId} {f : FuncId} {e : Array Value → Sem Value} {v : Value} (ho : o.op = .call { callee := .value g, args := xs, argTypes := ts }) (hg : g = .func f)
    (hops : xs.toList.all (plainOperand a) = true) (he : externOf P f = some e) (hp : plain v = true) (hv : ∀ w, (e (xs.map (evalC a))).run P w = .ok v w) : OpOk P o a m v m ⟨[], []⟩ :=
  OpOk.quiet fun ι tt w hs => by
    refine ⟨v, RV.refl ι v hp, ?_⟩
    have hargs : xs.map (act tt).eval = xs.map (evalC a) := Array.map_congr_left fun x hx =>
      plain_operand hs (x := x) (by rw [ho]; simp [Op.operands, Call.operands, hx]) (List.all_eq_true.1 hops x (by simpa using hx))
    unfold externOf at he
    split at he
    · rename_i fn hf
      split at he
      · rename_i hc
        simp only [Bool.and_eq_true, Bool.not_eq_true'] at hc
        unfold execOp; rw [ho]
        subst hg
        have hn : Extern.findNext fn = none := by simpa using hc.2
        have hev : (act tt).eval (.func f) = .func (.func f) #[] #[] := rfl
        simp only [resolve, hev, Deferred.ofValue, pure_bind, invoke]
        rw [run_callFunc_extern hf hc.1.2 hc.1.1 hn he]
        simp [hargs, hv w]
      · cases he
    · cases he

/-! ### A slice written out -/
def bsCells (P : Program) (t : TypeId) (len : Nat) (ps : Array (Nat × Value)) : Option (Nat × Array Value) :=
  match P.underlying t with
  | some (.slice e) => match szC P e, P.info? e with
    | some size, some i => match i.zero with
      | some z => if Nat.ble (len * size) 16777216 && plains z.cells.toList && Nat.blt 0 (len * size) then
          (fill (fun i => some (i * size, size)) ((Array.range (len * size)).map (z.cells[· % z.cells.size]!)) ps.toList).map fun cs => (size, cs)
        else none
      | none => none
    | _, _ => none
  | _ => none

theorem rows_zero {ι : Map} {z : Array Value} (hz : plains z.toList = true) (n : Nat) : Rows ι ((Array.range n).map (z[· % z.size]!)) ((Array.range n).map (z[· % z.size]!)) := by
  refine ⟨rfl, fun j => ?_⟩
  by_cases hj : j < n
  · by_cases h0 : z.size = 0
    · have : ((Array.range n).map (z[· % z.size]!)).getD j undef = (default : Value) := by
        simp [hj, h0]
      rw [this]; exact RV.bool _
    · have hlt : j % z.size < z.size := Nat.mod_lt _ (by omega)
      have : ((Array.range n).map (z[· % z.size]!)).getD j undef = z.toList.getD (j % z.size) undef := by
        simp [hj, List.getD_eq_getElem?_getD, hlt]
      rw [this]
      exact RV.refl _ _ (plains_get hz (by simpa using hlt))
  · have : ((Array.range n).map (z[· % z.size]!)).getD j undef = undef := by simp [hj]
    rw [this]; exact .any _

theorem OpOk.buildSlice {t : TypeId} {len size : Nat} {ps : Array (Nat × Operand)} {cs : Array Value} (ho : o.op = .buildSlice t len ps) (hc : ps.toList.all (fun p => okConst p.2) = true)
    (hn : ps.toList.all (fun p => notTuple (evalC a p.2)) = true) (h : bsCells P t len (partsC a ps) = some (size, cs)) :
    OpOk P o a m (.slice (some ⟨m.length, 0, none⟩) len len) (m ++ [.cells cs.toList size true]) ⟨[], []⟩ :=
  OpOk.makes fun ι tt w hs => by
    have hops : ∀ p, p ∈ ps → RV ι (evalC a p.2) ((act tt).eval p.2) := fun p hp => rv_operand hs (x := p.2) (by rw [ho]; simp only [Op.operands]; simp only [List.mem_toArray, List.mem_map]; exact ⟨p, by simpa using hp, rfl⟩) (List.all_eq_true.1 hc p (by simpa using hp))
    unfold bsCells at h
    split at h
    · rename_i e hu
      split at h
      · rename_i sz i hz hi
        split at h
        · rename_i z hzero
          split at h
          · rename_i hcond
            simp only [Bool.and_eq_true] at hcond
            rw [Option.map_eq_some_iff] at h
            obtain ⟨r, hf, hr⟩ := h
            cases hr
            obtain ⟨r', hr', hrows⟩ := fill_rv (ι := ι) _ (ps.map fun (i, x) => (i, (act tt).eval x)).toList _ _ _ (by simp [partsC]) (fun k p p' hp hp' => by
              simp only [partsC, Array.toList_map, List.getElem?_map, Option.map_eq_some_iff] at hp hp'
              obtain ⟨q, hq, rfl⟩ := hp
              obtain ⟨q', hq', rfl⟩ := hp'
              rw [hq] at hq'; cases hq'
              exact ⟨rfl, hops q (by simpa using List.mem_of_getElem? hq)⟩) (fun p hp => by
              simp only [partsC, Array.toList_map, List.mem_map] at hp
              obtain ⟨q, hq, rfl⟩ := hp
              exact List.all_eq_true.1 hn q hq) (rows_zero hcond.1.2 _) hf
            refine ⟨.slice (some ⟨w.heap.size, 0, none⟩) len len, r', e, by simp [hrows.1], fun j hj => ?_, fun ι' hle hι => ?_, ?_⟩
            · have := hrows.2 j
              simpa [List.getD_eq_getElem?_getD, Array.getD_eq_getD_getElem?] using this
            · have := RV.slice (o := 0) (l := len) hι (Nat.le_refl len) (by simp)
              simpa using this
            · unfold execOp; rw [ho]
              have h24 : ¬ len * size > 2 ^ 24 := by have := Nat.le_of_ble_eq_true hcond.1.1; omega
              have h0 : ¬ len * size = 0 := by have := Nat.le_of_ble_eq_true hcond.2; omega
              have h24' : ¬ (16777216 < len * size) := by omega
              have h0' : ¬ (len = 0 ∨ size = 0) := by
                intro hh
                rcases hh with hh | hh <;> simp [hh] at h0
              have hzv : (zeroValue e).run P w = .ok z w := by simp [zeroValue, run_info hi, hzero]
              simp only [Instr.buildSlice, Sem.run_bind, run_underlying hu w, Result.andThen_ok, run_szC hz w, h24, h0, if_false, hzv, Sem.run_pure, hr', newRow, newObj]
              simp [Sem.run]
          · cases h
        · cases h
      · cases h
    · cases h

/-! ### Slices cut -/
theorem OpOk.sliceSl {t e : TypeId} {x : Operand} {lo hi : Option Operand} {b off len cap size l h sz : Nat} {c : List Value} {rw_ : Bool} {kl kh : IntKind} (ho : o.op = .slice t x lo hi none) (hc : okConst x = true)
    (hx : evalC a x = .slice (some ⟨b, off, none⟩) len cap) (hb : m[b]? = some (.cells c sz rw_)) (hu : P.underlying t = some (.slice e)) (hz : szC P e = some size) (hsz : rw_ = true → sz = size)
    (hlo : (lo = none ∧ l = 0) ∨ ∃ y, lo = some y ∧ okConst y = true ∧ evalC a y = .int kl l) (hhi : (hi = none ∧ h = len) ∨ ∃ y, hi = some y ∧ okConst y = true ∧ evalC a y = .int kh h) (hlh : l ≤ h) (hhc : h ≤ cap) :
    OpOk P o a m (.slice (some ⟨b, off + l * size, none⟩) (h - l) (cap - l)) m ⟨[b], []⟩ := by
  have hblt : b < m.length := (List.getElem?_eq_some_iff.1 hb).1
  refine OpOk.reads (by simpa using hblt) fun ι tt w hs hbl => ?_
  have hrx := rv_operand hs (x := x) (by rw [ho]; simp [Op.operands]) hc
  rw [hx] at hrx
  have hbo := hbl b (by simp)
  rw [show m.getD b .gone = .cells c sz rw_ by simp [List.getD_eq_getElem?_getD, hb]] at hbo
  obtain ⟨L', c', te, fz, hL', hh', hfit, hrw, hro, hcells⟩ := hbo
  have bounds : ∀ cap', h ≤ cap' → (sliceBounds true len cap' (lo.map (act tt).eval) (hi.map (act tt).eval) none).run P w = .ok (l, h, cap') w := fun cap' hcap' => by
    have hhv : hi.map (act tt).eval = hi.map (fun _ => Value.int kh h) := by
      rcases hhi with ⟨rfl, _⟩ | ⟨y, rfl, hy1, hy2⟩
      · rfl
      · have := rv_operand hs (x := y) (by rw [ho]; simp [Op.operands]) hy1
        rw [hy2] at this
        simp [this.int_inv]
    have hlv : lo.map (act tt).eval = lo.map (fun _ => Value.int kl l) := by
      rcases hlo with ⟨rfl, _⟩ | ⟨y, rfl, hy1, hy2⟩
      · rfl
      · have := rv_operand hs (x := y) (by rw [ho]; simp [Op.operands]) hy1
        rw [hy2] at this
        simp [this.int_inv]
    rw [hhv, hlv]
    rcases hhi with ⟨rfl, rfl⟩ | ⟨y, rfl, _, _⟩ <;> rcases hlo with ⟨rfl, rfl⟩ | ⟨z, rfl, _, _⟩ <;>
      simp [sliceBounds, sliceBound, asIntOf, *]
  generalize hy : (act tt).eval x = y at hrx
  cases hrx with
  | slice0 p q =>
    have : h = 0 := by omega
    have : l = 0 := by omega
    subst this; subst h
    refine ⟨.slice (some q) 0 0, ?_, ?_⟩
    · simpa using RV.slice0 _ q
    · unfold execOp; rw [ho]
      have hbnd := bounds 0 (by omega)
      simp [Instr.sliceAt, run_underlying hu w, hy, Instr.slice, hbnd, run_szC hz w]
  | @slice _ _ _ _ cap' L hL hcc hr =>
    have hLL : L = L' := by rw [hL] at hL'; exact Option.some.inj hL'
    subst hLL
    refine ⟨.slice (if cap' = l then some ⟨L.blk, L.off + off, none⟩ else some ⟨L.blk, L.off + (off + l * size), none⟩) (h - l) (cap' - l), ?_, ?_⟩
    · by_cases hcl : cap' = l
      · rw [if_pos hcl]
        have e1 : h - l = 0 := by omega
        have e2 : cap - l = 0 := by omega
        have e3 : cap' - l = 0 := by omega
        rw [e1, e2, e3]
        exact .slice0 _ _
      · rw [if_neg hcl]
        refine .slice hL (by omega) fun hr0 hne => ?_
        have hne' : cap ≠ cap' := by omega
        have h1 := hr hr0 hne'
        have hsz' : L.sz = size := by
          cases hrw_ : rw_ with
          | true => rw [(hrw hrw_).2.2.1]; exact hsz hrw_
          | false => rw [hro hrw_] at hr0; cases hr0
        rw [hsz'] at h1 ⊢
        have : l * size + (cap' - l) * size = cap' * size := by
          rw [← Nat.add_mul]
          congr 1; omega
        omega
    · unfold execOp; rw [ho]
      have hbnd := bounds cap' (by omega)
      simp only [Instr.sliceAt, Sem.run_bind, run_underlying hu w, Result.andThen_ok, hy, Instr.slice, hbnd, run_szC hz w, Sem.run_pure, Option.map_none]
      by_cases hcl : cap' = l <;> simp [hcl, addr_add, Nat.add_assoc]

/-- An array at an address, cut. -/
theorem OpOk.sliceArr {t e : TypeId} {x : Operand} {lo hi : Option Operand} {b off n size l h : Nat} {kl kh : IntKind} (ho : o.op = .slice t x lo hi none) (hc : okConst x = true)
    (hx : evalC a x = .pointer (some ⟨b, off, none⟩)) (hu : P.underlying t = some (.array n e)) (hz : szC P e = some size)
    (hlo : (lo = none ∧ l = 0) ∨ ∃ y, lo = some y ∧ okConst y = true ∧ evalC a y = .int kl l) (hhi : (hi = none ∧ h = n) ∨ ∃ y, hi = some y ∧ okConst y = true ∧ evalC a y = .int kh h) (hlh : l ≤ h) (hhc : h ≤ n) (hln : l < n) :
    OpOk P o a m (.slice (some ⟨b, off + l * size, none⟩) (h - l) (n - l)) m ⟨[], []⟩ :=
  OpOk.quiet fun ι tt w hs => by
    have hrx := rv_operand hs (x := x) (by rw [ho]; simp [Op.operands]) hc
    rw [hx] at hrx
    obtain ⟨L, hL, he⟩ := hrx.ptr_inv
    refine ⟨.slice (some ⟨L.blk, L.off + (off + l * size), none⟩) (h - l) (n - l), .slice hL (Nat.le_refl _) (by simp), ?_⟩
    have hhv : hi.map (act tt).eval = hi.map (fun _ => Value.int kh h) := by
      rcases hhi with ⟨rfl, _⟩ | ⟨y, rfl, hy1, hy2⟩
      · rfl
      · have := rv_operand hs (x := y) (by rw [ho]; simp [Op.operands]) hy1
        rw [hy2] at this
        simp [this.int_inv]
    have hlv : lo.map (act tt).eval = lo.map (fun _ => Value.int kl l) := by
      rcases hlo with ⟨rfl, _⟩ | ⟨y, rfl, hy1, hy2⟩
      · rfl
      · have := rv_operand hs (x := y) (by rw [ho]; simp [Op.operands]) hy1
        rw [hy2] at this
        simp [this.int_inv]
    have hbnd : (sliceBounds false n n (lo.map (act tt).eval) (hi.map (act tt).eval) none).run P w = .ok (l, h, n) w := by
      rw [hhv, hlv]
      rcases hhi with ⟨rfl, rfl⟩ | ⟨y, rfl, _, _⟩ <;> rcases hlo with ⟨rfl, rfl⟩ | ⟨z, rfl, _, _⟩ <;>
        simp [sliceBounds, sliceBound, asIntOf, *]
    have hne : ¬ n = l := by omega
    unfold execOp; rw [ho]
    simp [Instr.sliceAt, run_underlying hu w, he, sureAddr, hbnd, run_szC hz w, hne, addr_add, Nat.add_assoc]

end
end Go.Dt
