/- Several texts in one: Dt40, Dt41, Dt42. -/
import Derived.Test.YtefiememffgohaaQP16
namespace Go.Dt

section
open Go.RowKit Go.Instr
set_option linter.unusedVariables false
set_option linter.unusedSimpArgs false

section
variable {P : Program} {f : FuncId} {n0 : Nat}
theorem Runs.frpN {todo : List Item} {a : List Value} {m : List Blk} {v : Value} {m' : List Blk} (d b off sz : Nat) (c : List Value) (hs : a.getD d undef = .pointer (some ⟨b, off, none⟩)) (hb : m[b]? = some (.cells c sz true))
    (hp : pures c = true) (h : Runs P f n0 (.norm todo (a.set d (Dt.frp c off)) (m.set b .gone)) v m') : Runs P f n0 (.norm todo a m) v m' := by
  have hblt : b < m.length := (List.getElem?_eq_some_iff.1 hb).1
  have hbg : at_ m b = .cells c sz true := by simp [at_, List.getD_eq_getElem?_getD, hb]
  intro ι t w hr fr0 cs hb0 hk0
  have hB := hr.sim.blk b
  rw [hbg] at hB
  obtain ⟨L, c', te, fz, hL, hh, hfit, hrw, _, hcells⟩ := hB
  obtain ⟨rfl, hroom, hsz, hro⟩ := hrw rfl
  have hlb : ∀ r cc, ι.fro r = some cc → L.blk ≠ r := fun r cc h => hr.sim.apart b L r cc (by rw [hbg]; rfl) hL h
  let ι' : Map := ⟨ι.loc, fun r => if r = L.blk then some c' else ι.fro r⟩
  have hself : ι'.fro L.blk = some c' := by show (if L.blk = L.blk then some c' else _) = _; rw [if_pos rfl]
  have hle : Le ι ι' := ⟨fun _ _ h => h, fun r cc h => by
    show (if r = L.blk then some c' else ι.fro r) = some cc
    rw [if_neg (Ne.symm (hlb r cc h))]; exact h⟩
  have hcase : ∀ r cc, ι'.fro r = some cc → (r = L.blk ∧ cc = c') ∨ ι.fro r = some cc := fun r cc h => by
    have h : (if r = L.blk then some c' else ι.fro r) = some cc := h
    split at h
    · rename_i e; cases h; exact .inl ⟨e, rfl⟩
    · exact .inr h
  have hat : ∀ x, at_ (m.set b .gone) x = if x = b then .gone else at_ m x := fun x => by
    simp only [at_, List.getD_eq_getElem?_getD]
    by_cases hx : x = b
    · subst hx; simp [hblt]
    · rw [if_neg hx, List.getElem?_set_ne (Ne.symm hx)]
  have ownSub : ∀ k, OwnR ι' (at_ (m.set b .gone)) k → OwnR ι (at_ m) k := fun k ⟨x, K, ho, hK, hk⟩ => by
    rw [hat] at ho
    split at ho
    · cases ho
    · exact ⟨x, K, ho, hK, hk⟩
  have liveSub : ∀ k, LiveR ι' (at_ (m.set b .gone)) k → LiveR ι (at_ m) k := fun k ⟨x, K, ho, hK, hk⟩ => by
    rw [hat] at ho
    split at ho
    · cases ho
    · exact ⟨x, K, ho, hK, hk⟩
  have hrel : Rel ι' (a.set d (Dt.frp c off)) (m.set b .gone) t w := by
    refine ⟨by simpa using hr.size, fun x => ?_, ⟨fun x => ?_, fun x x2 K K2 hne ho hl hK hK2 => ?_, fun r cc hcc => ?_, fun x K r cc ho hK hcc => ?_⟩, fun x hx => by simpa using hr.dom x hx⟩
    · by_cases hx : d = x
      · subst hx
        by_cases hda : d < a.length
        · have hv := hr.slots d
          rw [hs] at hv
          rw [show (a.set d (Dt.frp c off)).getD d undef = Dt.frp c off by simp [List.getD_eq_getElem?_getD, hda]]
          obtain ⟨L2, hL2, he⟩ := hv.ptr_inv
          rw [hL] at hL2; cases hL2
          rw [he]
          exact .frp hself hp hfit fun i hi => (hcells i hi).mono hle
        · have e : (a.set d (Dt.frp c off)) = a := List.set_eq_of_length_le (by omega)
          rw [e]; exact (hr.slots d).mono hle
      · rw [show (a.set d (Dt.frp c off)).getD x undef = a.getD x undef by simp [List.getD_eq_getElem?_getD, List.getElem?_set_ne hx]]
        exact (hr.slots x).mono hle
    · rw [hat]
      split
      · trivial
      · exact (hr.sim.blk x).keep hle fun _ _ _ => rfl
    · rw [hat] at ho hl
      split at ho
      · cases ho
      · split at hl
        · cases hl
        · exact hr.sim.sep x x2 K K2 hne ho hl hK hK2
    · rcases hcase r cc hcc with ⟨rfl, rfl⟩ | h
      · exact ⟨te, (0, 0), hh⟩
      · exact hr.sim.fro r cc h
    · rw [hat] at ho
      split at ho
      · cases ho
      · rename_i hxb
        rcases hcase r cc hcc with ⟨rfl, rfl⟩ | h
        · exact hr.sim.sep x b K L hxb ho (by rw [hbg]; rfl) hK hL
        · exact hr.sim.apart x K r cc ho hK h
  obtain ⟨v', w', fr, ι'', h1, h2, h3, h4, h5, h6, h7⟩ := h ι' t w hrel fr0 cs hb0 hk0
  refine ⟨v', w', fr, ι'', h1, h2, h3, h4, h5, h6, ⟨h7.le, h7.size, h7.os, h7.tape, h7.output, fun k hk hn => h7.frame k hk (fun ho => hn (ownSub k ho)), fun k ho => (h7.own k ho).imp (ownSub k) id, fun k ho => (h7.live k ho).imp (liveSub k) id,
    fun r cc hcc => h7.lef r cc (hle.fro r cc hcc), fun r cc hcc => ?_⟩⟩
  rcases h7.fro r cc hcc with h | h | h
  · rcases hcase r cc h with ⟨rfl, rfl⟩ | h
    · exact .inr (.inl ⟨b, L, by rw [hbg]; rfl, hL, rfl⟩)
    · exact .inl h
  · exact .inr (.inl (ownSub r h))
  · exact .inr (.inr h)

theorem RunsE.frpN {s : VS} {v : Value} (d b off sz : Nat) (c : List Value) (hs : slotV d s = .pointer (some ⟨b, off, none⟩)) (hb : s.mem[b]? = some (.cells c sz true))
    (hp : pures c = true) (hns : isNormS s = true) (h : RunsE P f n0 (frzS d b (frp c off) s) v) : RunsE P f n0 s v := by
  obtain ⟨m', h⟩ := h
  cases s with
  | reg => cases hns
  | norm todo a m =>
    refine ⟨m', Runs.frpN d b off sz c hs hb hp ?_⟩
    simpa only [frzS, fv_eq, fl_eq] using h
end
section
variable {P : Program} {f : FuncId} {n0 : Nat} {ρ : Type} {E : ρ → Value} {s : VS} {T : Option ρ}
theorem L.frzP (hm : P.follows .mixedOrders = true) (n' d b off sz : Nat) (c : List Value) (hs : slotV d (vadv P n' s) = .pointer (some ⟨b, off, Option.none⟩)) (hb : (vadv P n' s).mem[b]? = some (.cells c sz true)) (hp : pures c = true) (hns : isNormS (vadv P n' s) = true)
    (h : Lifts P f n0 E (frzS d b (frp c off) (vadv P n' s)) T) : Lifts P f n0 E s T := fun r hr => RunsE.adv hm n' (RunsE.frpN d b off sz c hs hb hp hns (h r hr))
end
section
variable {P : Program} {o : Oper} {a : List Value} {m : List Blk}
theorem OpOk.sliceFrp {t e : TypeId} {x : Operand} {n size : Nat} {c : List Value} (ho : o.op = .slice t x none none none) (hc : okConst x = true)
    (hx : evalC a x = frp c 0) (hu : P.underlying t = some (.array n e)) (hz : szC P e = some size) (hn : 0 < n) :
    OpOk P o a m (frz n c) m ⟨[], []⟩ :=
  OpOk.quiet fun ι tt w hs => by
    have hrx := rv_operand hs (x := x) (by rw [ho]; simp [Op.operands]) hc
    rw [hx] at hrx
    generalize hy : (act tt).eval x = y at hrx
    cases hrx with
    | iface _ ht => exact absurd ht (by decide)
    | @frp _ _ r ro cr hr hp hfit hcc =>
      refine ⟨.slice (some ⟨r, ro + 0, none⟩) n n, .frz hr (Nat.le_refl _) hp hfit hcc, ?_⟩
      have hbnd : (sliceBounds false n n none none none).run P w = .ok (0, n, n) w := by simp [sliceBounds]
      have hne : ¬ n = 0 := by omega
      unfold execOp; rw [ho]
      simp [Instr.sliceAt, run_underlying hu w, hy, sureAddr, hbnd, run_szC hz w, hne, addr_add]
end
/-- An array at a known pointer, cut as a whole. -/
def fspAt (P : Program) (s : VS) : Option (Nat × List Value × Nat) := match opAt s with
  | some o => match o.op with
    | .slice t x none none none => bif okConst x then (match asFrp (evalC s.slots x), P.underlying t with
      | some (c, 0), some (.array n e) => (match szC P e with
        | some sz => bif Nat.blt 0 n then some (n, c, sz) else none
        | none => none)
      | _, _ => none) else none
    | _ => none
  | none => none
section
variable {P : Program} {f : FuncId} {n0 : Nat} {ρ : Type} {E : ρ → Value} {s : VS} {T : Option ρ} {α : Type} [F : Flat α]
theorem L.slP (hm : P.follows .mixedOrders = true) (n' : Nat) (xs : List α) (hs : fspAt P (vadv P n' s) = some (xs.length, rows xs, F.sz))
    (hk : Lifts P f n0 E (afterOne (vadv P n' s) (lst xs)) T) : Lifts P f n0 E s T := fun r hr => by
  refine RunsE.adv hm n' ?_
  have h2 := hk r hr
  unfold fspAt at hs
  unfold afterOne at h2
  split at hs
  · rename_i o ho
    simp only [ho, fv_eq] at h2
    split at hs
    · rename_i t x hop
      cases hc : okConst x with
      | false => rw [hc] at hs; cases hs
      | true =>
        rw [hc, cond_true] at hs
        split at hs
        · rename_i c1 n1 e hx hu
          split at hs
          · rename_i sz1 hz
            cases hn : Nat.blt 0 n1 with
            | false => rw [hn] at hs; cases hs
            | true =>
              rw [hn, cond_true] at hs
              simp only [Option.some.injEq, Prod.mk.injEq] at hs
              obtain ⟨rfl, rfl, rfl⟩ := hs
              exact RunsE.op o ho (OpOk.sliceFrp (m := (vadv P n' s).mem) hop hc (asFrp_ok hx) hu hz (Nat.le_of_ble_eq_true hn)) h2
          · cases hs
        · cases hs
    · cases hs
  · cases hs
end

/-! ### A slice written out in full -/
theorem foldl_set (off : Nat) : ∀ (vs : List Value) (k : Nat) (cells : Array Value) (pre mid post : List Value), cells.toList = pre ++ mid ++ post → pre.length = off + k → mid.length = vs.length →
    ((vs.zipIdx k).foldl (fun cs p => cs.setIfInBounds (off + p.2) p.1) cells).toList = pre ++ vs ++ post
  | [], k, cells, pre, mid, post, h, hp, hm => by
    have : mid = [] := List.eq_nil_of_length_eq_zero hm
    subst this
    simpa using h
  | v :: vs, k, cells, pre, [], post, h, hp, hm => by simp at hm
  | v :: vs, k, cells, pre, m :: mid, post, h, hp, hm => by
    rw [List.zipIdx_cons, List.foldl_cons]
    have := foldl_set off vs (k + 1) (cells.setIfInBounds (off + k) v) (pre ++ [v]) mid post (by
      rw [Array.toList_setIfInBounds, h, ← hp]
      simp) (by simp; omega) (by simpa using hm)
    simpa using this
def okParts (size : Nat) : Nat → List (Nat × Value) → Bool
  | _, [] => true
  | i, (j, v) :: l => Nat.beq i j && Nat.beq v.cells.size size && okParts size (i + 1) l
theorem fill_full (size : Nat) : ∀ (ps : List (Nat × Value)) (i : Nat) (cells : Array Value) (pre mid : List Value), okParts size i ps = true → cells.toList = pre ++ mid → pre.length = i * size → mid.length = ps.length * size →
    ∃ cs, fill (fun i => some (i * size, size)) cells ps = some cs ∧ cs.toList = pre ++ ps.flatMap (fun p => p.2.cells.toList)
  | [], i, cells, pre, mid, _, h, _, hm => by
    have : mid = [] := List.eq_nil_of_length_eq_zero (by simpa using hm)
    subst this
    exact ⟨cells, rfl, by simpa using h⟩
  | (j, v) :: ps, i, cells, pre, mid, ho, h, hp, hm => by
    simp only [okParts, Bool.and_eq_true] at ho
    have hj := Nat.eq_of_beq_eq_true ho.1.1
    have hs := Nat.eq_of_beq_eq_true ho.1.2
    subst hj
    have hm' : mid.length = size + ps.length * size := by rw [hm, List.length_cons, Nat.add_mul, Nat.one_mul, Nat.add_comm]
    have hsz : cells.size = pre.length + mid.length := by rw [← Array.length_toList, h, List.length_append]
    have h1 : (v.cells.zipIdx.foldl (fun cs (c, j') => cs.setIfInBounds (i * size + j') c) cells).toList = pre ++ v.cells.toList ++ mid.drop size := by
      have := foldl_set (i * size) v.cells.toList 0 cells pre (mid.take size) (mid.drop size) (by rw [h, List.append_assoc, List.take_append_drop]) (by omega) (by have e := v.cells.length_toList; rw [List.length_take]; omega)
      rw [← this]
      congr 1
      rw [← Array.foldl_toList, Array.toList_zipIdx]
    obtain ⟨cs, h2, h3⟩ := fill_full size ps (i + 1) _ (pre ++ v.cells.toList) (mid.drop size) ho.2 h1 (by have e := v.cells.length_toList; rw [List.length_append, Nat.add_mul, Nat.one_mul]; omega) (by rw [List.length_drop]; omega)
    refine ⟨cs, ?_, by simpa using h3⟩
    rw [fill]
    have hle : ¬ (v.cells.size ≠ size ∨ i * size + v.cells.size > cells.size) := by omega
    simp only [Bool.or_eq_true, decide_eq_true_eq, hle, if_false]
    exact h2
def bspAt (P : Program) (s : VS) : Option (Nat × Nat × List (Nat × Value)) := match opAt s with
  | some o => match o.op with
    | .buildSlice t len ps => bif (ps.toList.all (fun p => okConst p.2) && ps.toList.all (fun p => notTuple (evalC s.slots p.2))) && Nat.blt 0 len then (match P.underlying t with
      | some (.slice e) => (match szC P e, P.info? e with
        | some size, some i => (match i.zero with
          | some z => bif Nat.ble (len * size) 16777216 && plains z.cells.toList && Nat.blt 0 (len * size) then some (len, size, ps.toList.map fun p => (p.1, evalC s.slots p.2)) else none
          | none => none)
        | _, _ => none)
      | _ => none) else none
    | _ => none
  | none => none
section
variable {P : Program} {f : FuncId} {n0 : Nat} {ρ : Type} {E : ρ → Value} {s : VS} {T : Option ρ} {α : Type} [F : Flat α]
theorem L.litF (hm : P.follows .mixedOrders = true) (n' : Nat) (xs : List α) (ps : List (Nat × Value)) (hs : bspAt P (vadv P n' s) = some (xs.length, F.sz, ps)) (hl : ps.length = xs.length) (hk : okParts F.sz 0 ps = true) (hv : ps.flatMap (fun p => p.2.cells.toList) = rows xs)
    (h : Lifts P f n0 E (afterAp (vadv P n' s) (lst xs) ((vadv P n' s).mem ++ [.gone]) ⟨[], []⟩) T) : Lifts P f n0 E s T := fun r hr => by
  have h := h r hr
  refine RunsE.adv hm n' ?_
  unfold bspAt at hs
  unfold afterAp at h
  split at hs
  · rename_i o ho
    simp only [ho, fv_eq, fl_eq] at h
    split at hs
    · rename_i t len ps' hop
      cases hc : ((ps'.toList.all (fun p => okConst p.2) && ps'.toList.all (fun p => notTuple (evalC (vadv P n' s).slots p.2))) && Nat.blt 0 len) with
      | false => rw [hc] at hs; cases hs
      | true =>
        rw [hc, cond_true] at hs
        simp only [Bool.and_eq_true] at hc
        split at hs
        · rename_i e hu
          split at hs
          · rename_i size i hz hi
            split at hs
            · rename_i z hzero
              cases hb : (Nat.ble (len * size) 16777216 && plains z.cells.toList && Nat.blt 0 (len * size)) with
              | false => rw [hb] at hs; cases hs
              | true =>
                rw [hb, cond_true] at hs
                simp only [Option.some.injEq, Prod.mk.injEq] at hs
                obtain ⟨rfl, rfl, rfl⟩ := hs
                have e0 : (ps'.toList.map fun p => (p.1, evalC (vadv P n' s).slots p.2)) = (partsC (vadv P n' s).slots ps').toList := by simp [partsC]
                rw [e0] at hk hv hl
                obtain ⟨cs, h1, h2⟩ := fill_full F.sz _ 0 ((Array.range (xs.length * F.sz)).map (z.cells[· % z.cells.size]!)) [] _ hk (by rw [List.nil_append]) (by simp) (by simp [← hl])
                have hbs : bsCells P t xs.length (partsC (vadv P n' s).slots ps') = some (F.sz, cs) := by
                  unfold bsCells
                  simp only [hu, hz, hi, hzero, hb, if_true, h1, Option.map_some]
                have hok := OpOk.buildSlice (o := o) (m := (vadv P n' s).mem) hop hc.1.1 hc.1.2 hbs
                rw [h2, List.nil_append, hv] at hok
                have hpos : 0 < xs.length := Nat.le_of_ble_eq_true hc.2
                exact RunsE.op o ho (OpOk.frzOut (m1 := (vadv P n' s).mem) rfl (rows_pure xs) (fun h => absurd hpos (by omega)) hok) h
            · cases hs
          · cases hs
        · cases hs
    · cases hs
  · cases hs
end

end

section
open Go.RowKit
set_option linter.unusedVariables false

section
variable {P : Program} {f : FuncId} {n0 : Nat} {ρ : Type} {E : ρ → Value} {s : VS} {T : Option ρ}
theorem L.callM (hm : P.follows .mixedOrders = true) {r0 : Value} {g : FuncId} {vs : List Value} {mf mf' : List Blk} (Es : List Ent) (c : ConM P g vs mf r0 mf') (hs : downAt Es (go P s) = some (g, vs, mf)) (hE : okE Es (go P s).mem mf' = true) (hview : Es.all (fun e => !e.plain) = true)
    (h : Lifts P f n0 E (afterM Es [] (go P s) (upV (back (kap Es) Es.length mf'.length (go P s).mem.length) r0) mf') T) : Lifts P f n0 E s T := fun r hr => R.callM hm Es c hs hE hview (h r hr)
end

end

section
open Go.RowKit Go.Instr
set_option linter.unusedVariables false
set_option linter.unusedSimpArgs false

/-- The text of bytes. -/
def strN : List Int → ByteArray → ByteArray
  | [], s => s
  | n :: l, s => strN l (s.push (UInt8.ofNat n.toNat))
def bytesC : List Value → List Int
  | .int .u8 n :: l => n :: bytesC l
  | _ => []
def allU8 : List Value → Bool
  | [] => true
  | .int .u8 _ :: l => allU8 l
  | _ => false

section
variable {P : Program} {o : Oper} {a : List Value} {m : List Blk}
theorem run_bytes {w : World} : ∀ (l l' : List Value) (s : ByteArray), allU8 l = true → l' = l →
    (forIn l' s fun (c : Value) (r : ByteArray) => (match c with
      | .int .u8 n => pure (ForInStep.yield (r.push (UInt8.ofNat n.toNat)))
      | _ => do
        stuck "bytesToString: byte expected"
        pure (ForInStep.yield r) : Sem (ForInStep ByteArray))).run P w = .ok (strN (bytesC l) s) w
  | [], _, s, _, rfl => by simp [bytesC, strN]
  | v :: l, _, s, h, rfl => by
    match v, h with
    | .int .u8 n, h =>
      have ih := run_bytes (w := w) l l (s.push (UInt8.ofNat n.toNat)) h rfl
      simp only [List.forIn_cons]
      simpa [bytesC, strN] using ih
theorem allU8_get : ∀ {l : List Value} {i : Nat}, allU8 l = true → i < l.length → ∃ n, l.getD i undef = .int .u8 n
  | [], i, _, h => absurd h (Nat.not_lt_zero _)
  | .int .u8 n :: l, 0, _, _ => ⟨n, rfl⟩
  | .int .u8 n :: l, i + 1, h, hi => by
    obtain ⟨k, hk⟩ := allU8_get (l := l) (i := i) h (Nat.lt_of_succ_lt_succ hi)
    exact ⟨k, by simpa using hk⟩
theorem run_bytesToString {w : World} {a : Addr} {n cap : Nat} {l : List Value} (hl : (loadCells a n).run P w = .ok l.toArray w) (hu : allU8 l = true) :
    (Conv.bytesToString (.slice (some a) n cap)).run P w = .ok (.string (strN (bytesC l) .empty)) w := by
  unfold Conv.bytesToString
  simp only [Sem.run_bind, hl, Result.andThen_ok, List.forIn_toArray]
  have h := run_bytes (P := P) (w := w) l l .empty hu rfl
  exact (congrArg (fun r : Result ByteArray => r.andThen fun a w' => (pure (Value.string a) : Sem Value).run P w') h).trans rfl
theorem OpOk.bytesOwn {src dst e : TypeId} {x : Operand} {b off n cap sz : Nat} {c : List Value} {rw_ : Bool} (ho : o.op = .convert src dst x) (hc : okConst x = true) (hx : evalC a x = .slice (some ⟨b, off, none⟩) n cap) (hb : m[b]? = some (.cells c sz rw_))
    (hs1 : P.underlying src = some (.slice e)) (hs2 : P.underlying dst = some .string) (hs3 : P.underlying e = some (.int .u8)) (hfit : off + n ≤ c.length) (hu : allU8 ((c.drop off).take n) = true) :
    OpOk P o a m (.string (strN (bytesC ((c.drop off).take n)) .empty)) m ⟨[b], []⟩ := by
  have hblt : b < m.length := (List.getElem?_eq_some_iff.1 hb).1
  refine OpOk.reads (by simpa using hblt) fun ι tt w hs hbl => ?_
  have h := rv_operand hs (x := x) (by rw [ho]; simp [Op.operands]) hc
  rw [hx] at h
  refine ⟨_, .string _, ?_⟩
  generalize hy : (act tt).eval x = y at h
  cases h with
  | slice0 p q =>
    have hl : (loadCells q 0).run P w = .ok ([] : List Value).toArray w := by simp [loadCells, loadCellsFrom]
    have := run_bytesToString (cap := 0) hl rfl
    unfold execOp; rw [ho]
    simp [convert, run_underlying hs1 w, run_underlying hs2 w, run_underlying hs3 w, hy, this, bytesC, strN]
  | @slice _ _ _ _ cap' L hL _ _ =>
    have := hbl b (by simp)
    rw [show m.getD b .gone = .cells c sz rw_ by simp [List.getD_eq_getElem?_getD, hb]] at this
    obtain ⟨L', c', te, fz, hL', hh, hfit', _, _, hcells⟩ := this
    rw [hL] at hL'; cases hL'
    have hl := run_loadCells (P := P) w ⟨L.blk, L.off + off, none⟩ n (fun j => c'.getD (L.off + off + j) undef) (fun j hj => by rw [addr_add]; exact cell_of hh (by omega))
    have e2 : (List.range n).map (fun j => c'.getD (L.off + off + j) undef) = (c.drop off).take n := by
      apply List.ext_getElem
      · simp; omega
      · intro j h1 h2
        simp only [List.length_map, List.length_range] at h1
        have h3 := hcells (off + j) (by omega)
        obtain ⟨k, hk⟩ := allU8_get (i := j) hu (by simp; omega)
        have h4 : ((c.drop off).take n).getD j undef = c.getD (off + j) undef := by
          simp [List.getD_eq_getElem?_getD, h1]
        have h5 : ((c.drop off).take n)[j] = .int .u8 k := by
          rw [← hk, List.getD_eq_getElem?_getD, List.getElem?_eq_getElem h2]; rfl
        rw [h4] at hk
        rw [hk] at h3
        rw [h5, List.getElem_map, List.getElem_range, Nat.add_assoc]
        exact h3.int_inv
    rw [e2] at hl
    have := run_bytesToString (cap := cap') hl hu
    unfold execOp; rw [ho]
    simp [convert, run_underlying hs1 w, run_underlying hs2 w, run_underlying hs3 w, hy, this]
end

/-- The text of bytes. -/
def strU (xs : List U8) : ByteArray := strN (xs.map U8.n) .empty
theorem rows_u8 : ∀ xs : List U8, allU8 (rows xs) = true ∧ bytesC (rows xs) = xs.map U8.n
  | [] => ⟨rfl, rfl⟩
  | x :: xs => by
    obtain ⟨h1, h2⟩ := rows_u8 xs
    have e : rows (x :: xs) = .int .u8 x.n :: rows xs := rfl
    rw [e]
    exact ⟨h1, by rw [bytesC, h2]; rfl⟩
def bstrAt (P : Program) (s : VS) : Option (Nat × Nat × List Value) := match opAt s with
  | some o => match o.op with
    | .convert src dst x => bif okConst x then (match evalC s.slots x, P.underlying src, P.underlying dst with
      | .slice (some ⟨b, 0, none⟩) n _, some (.slice e), some .string => (match P.underlying e, s.mem[b]? with
        | some (.int .u8), some (.cells c _ _) => some (b, n, c)
        | _, _ => none)
      | _, _, _ => none) else none
    | _ => none
  | none => none
section
variable {P : Program} {f : FuncId} {n0 : Nat} {ρ : Type} {E : ρ → Value} {s : VS} {T : Option ρ}
theorem L.bytesO (hm : P.follows .mixedOrders = true) (n' b nn : Nat) (xs : List U8) (hnn : nn = xs.length) (hs : bstrAt P (vadv P n' s) = some (b, nn, rows xs))
    (hk : Lifts P f n0 E (afterRd (vadv P n' s) b (.string (strU xs))) T) : Lifts P f n0 E s T := fun r hr => by
  refine RunsE.adv hm n' ?_
  have h2 := hk r hr
  unfold bstrAt at hs
  unfold afterRd at h2
  split at hs
  · rename_i o ho
    simp only [ho, fv_eq] at h2
    split at hs
    · rename_i src dst x hop
      cases hc : okConst x with
      | false => rw [hc] at hs; cases hs
      | true =>
        rw [hc, cond_true] at hs
        split at hs
        · rename_i b1 n1 cap e hx hs1 hs2
          split at hs
          · rename_i c1 sz1 rw1 hs3 hb
            simp only [Option.some.injEq, Prod.mk.injEq] at hs
            obtain ⟨rfl, rfl, rfl⟩ := hs
            have hlen : (rows xs).length = xs.length := by rw [rows_length]; exact Nat.mul_one _
            have ht : ((rows xs).drop 0).take xs.length = rows xs := by rw [List.drop_zero, ← hlen, List.take_length]
            have hok := OpOk.bytesOwn (o := o) (a := (vadv P n' s).slots) (m := (vadv P n' s).mem) hop hc hx hb hs1 hs2 hs3 (by subst hnn; omega) (by subst hnn; rw [ht]; exact (rows_u8 xs).1)
            subst hnn
            rw [ht, (rows_u8 xs).2] at hok
            exact RunsE.op o ho hok h2
          · cases hs
        · cases hs
    · cases hs
  · cases hs
end

end

end Go.Dt
