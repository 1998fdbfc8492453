/- Several texts in one: DtD, DtE, Dt10. -/
import Derived.Test.YtllcomjnmkcdpaaDoorQE4
import Derived.WideKeyRuns
namespace Go.Dt

section
open Go.Instr

section
variable {P : Program} {o : Oper} {a : List Value} {m : List Blk}

/-- What the search for a key among keys finds, in whatever world. -/
structure Finds (P : Program) (kt : TypeId) (key : Value) (ks : List Value) (r : Option Nat) : Prop where
  may : ∀ em w, (checkKey em 10000 kt key).run P w = .ok () w
  find : ∀ (es : List MapEntry), es.map (·.key) = ks → ∀ w, (findKey kt key es).run P w = .ok (r.bind fun i => (es[i]?).map fun e => (i, e.val)) w

def EntriesOk (ι : Map) (es : List MapEntry) (es' : Array MapEntry) : Prop := es.length = es'.size ∧ ∀ (i : Nat) (e e' : MapEntry), es[i]? = some e → es'[i]? = some e' → EntryOk ι e e'

theorem EntriesOk.keys {ι : Map} {es : List MapEntry} {es' : Array MapEntry} (h : EntriesOk ι es es') (hp : plains (es.map (·.key)) = true) : es'.toList.map (·.key) = es.map (·.key) := by
  apply List.ext_getElem?
  intro i
  rw [List.getElem?_map, List.getElem?_map]
  by_cases hi : i < es.length
  · have hi' : i < es'.size := by rw [← h.1]; exact hi
    have e1 : es[i]? = some es[i] := List.getElem?_eq_getElem hi
    have e2 : es'[i]? = some es'[i] := by simp [hi']
    have e2' : es'.toList[i]? = some es'[i] := by simp [hi']
    have := (h.2 i _ _ e1 e2).1
    have hpl : plain es[i].key = true := by
      have := plains_get (i := i) hp (by simpa using hi)
      simpa [List.getD_eq_getElem?_getD, List.getElem?_map, e1] using this
    rw [e1, e2', Option.map_some, Option.map_some, this.eq_of_plain hpl]
  · have := h.1
    rw [List.getElem?_eq_none (by simp only [Array.length_toList]; omega), List.getElem?_eq_none (by omega)]

theorem Finds.real {kt : TypeId} {key : Value} {es : List MapEntry} {r : Option Nat} (h : Finds P kt key (es.map (·.key)) r) {ι : Map} {es' : Array MapEntry} (he : EntriesOk ι es es') (hp : plains (es.map (·.key)) = true) (w : World) :
    (findKey kt key es'.toList).run P w = .ok (r.bind fun i => (es'[i]?).map fun e => (i, e.val)) w := by
  have := h.find es'.toList (he.keys hp) w
  simpa using this

theorem getMap_run {w : World} {r : Nat} {es : Array MapEntry} {clock : Nat} (hb : w.heap[r]? = some (.map es clock)) : (getObj r).run P w = .ok (.map es clock) w := by
  simp [getObj, Sem.run, hb]
theorem setMap_run {w : World} {r : Nat} {es : Array MapEntry} {clock : Nat} (o : Obj) (hb : w.heap[r]? = some (.map es clock)) : (setObj r o).run P w = .ok () { w with heap := w.heap.setIfInBounds r o } := by
  simp [setObj, Sem.run, hb]

def lookV (ok : Bool) (v : Value) (is : Bool) : Value := bif ok then .tuple #[v, .bool is] else v

theorem lookV_rv {ι : Map} {v v' : Value} (ok is : Bool) (h : RV ι v v') : RV ι (lookV ok v is) (lookV ok v' is) := by
  cases ok
  · exact h
  · refine .tuple (by rfl) fun i => ?_
    rcases i with _ | _ | i
    · exact h
    · exact .bool is
    · exact .any _

def gotC (z : Value) (es : List MapEntry) (r : Option Nat) : Value × Bool := match r.bind (es[·]?) with
  | some e => (e.val, true)
  | none => (z, false)

theorem zero_run {et : TypeId} {z : Value} (hz : (P.info? et).bind (·.zero) = some z) (w : World) : (zeroValue et).run P w = .ok z w := by
  cases hi : P.info? et with
  | none => simp [hi] at hz
  | some i =>
    simp only [hi, Option.bind_some] at hz
    simp [zeroValue, run_info hi, hz]

theorem OpOk.lookupM {t kt et : TypeId} {x ix : Operand} {ok : Bool} {b ck : Nat} {es : List MapEntry} {key z : Value} {r : Option Nat} (ho : o.op = .lookup t x ix ok) (hc : okConst x = true) (hc2 : okConst ix = true)
    (hx : evalC a x = .map (some b)) (hk : evalC a ix = key) (hkp : plain key = true) (hb : m[b]? = some (.map es ck)) (hu : P.underlying t = some (.map kt et)) (hpk : plains (es.map (·.key)) = true)
    (hf : Finds P kt key (es.map (·.key)) r) (hz : (P.info? et).bind (·.zero) = some z) (hzp : plain z = true) :
    OpOk P o a m (lookV ok (gotC z es r).1 (gotC z es r).2) m ⟨[b], []⟩ := by
  have hblt : b < m.length := (List.getElem?_eq_some_iff.1 hb).1
  refine OpOk.reads (by simpa using hblt) fun ι tt w hs hbl => ?_
  have h := rv_operand hs (x := x) (by rw [ho]; simp [Op.operands]) hc
  rw [hx] at h
  have h2 := rv_operand hs (x := ix) (by rw [ho]; simp [Op.operands]) hc2
  rw [hk] at h2
  have h2 := h2.eq_of_plain hkp
  have := hbl b (by simp)
  rw [show m.getD b .gone = .map es ck by simp [List.getD_eq_getElem?_getD, hb]] at this
  obtain ⟨L, es', hL, hh, hlen, hent⟩ := this
  generalize hy : (act tt).eval x = y at h
  cases h with
  | map hL' =>
    rw [hL] at hL'; cases hL'
    have hreal := hf.real (ι := ι) (es' := es') ⟨hlen, hent⟩ hpk w
    have hmay := fun em => hf.may em w
    have key_ : ∃ v', RV ι (gotC z es r).1 v' ∧ (lookup t (.map (some L.blk)) key ok).run P w = .ok (lookV ok v' (gotC z es r).2) w := by
      unfold gotC
      have hzr := zero_run hz w
      cases hr : r.bind (es[·]?) with
      | none =>
        have hn : (r.bind fun i => (es'[i]?).map fun e => (i, e.val)) = none := by
          cases r with
          | none => rfl
          | some i =>
            simp only [Option.bind_some] at hr ⊢
            rw [List.getElem?_eq_none_iff] at hr
            rw [Array.getElem?_eq_none (by omega)]; rfl
        rw [hn] at hreal
        refine ⟨z, RV.refl _ _ hzp, ?_⟩
        simp [lookup, run_underlying hu, Result.andThen, getMap_run hh, hmay, hreal, hzr]
        cases ok <;> simp [lookV]
      | some e =>
        cases r with
        | none => cases hr
        | some i =>
          simp only [Option.bind_some] at hr
          have hi := (List.getElem?_eq_some_iff.1 hr).1
          have e2 : es'[i]? = some es'[i] := by simp [← hlen, hi]
          simp only [Option.bind_some, e2, Option.map_some] at hreal
          refine ⟨es'[i].val, (hent i _ _ hr e2).2.1, ?_⟩
          simp [lookup, run_underlying hu, Result.andThen, getMap_run hh, hmay, hreal]
          cases ok <;> simp [lookV]
    obtain ⟨v', hv', hrun⟩ := key_
    refine ⟨_, lookV_rv ok _ hv', ?_⟩
    unfold execOp; rw [ho]
    simp [hy, ← h2, hrun, Result.andThen]

def resD (a : List Value) (x : Option Operand) : Bool := match x with | none => true | some y => okConst y && (match evalC a y with | .int _ _ => true | _ => false)
def mapT (P : Program) (t : TypeId) : Bool := match P.underlying t with | some (.map _ _) => true | _ => false
/-- A new map. -/
theorem OpOk.makeMapE {t : TypeId} {x : Option Operand} (ho : o.op = .makeMap t x) (hx : resD a x = true) (hu : mapT P t = true) :
    OpOk P o a m (.map (some m.length)) (m ++ [.map [] 0]) ⟨[], []⟩ where
  len := by simp
  sub := by simp
  rdlt := by simp
  same := fun b hb _ => getD_append_old _ _ hb
  run := fun ι t' w hs hdom hsim next Q hn => by
    have hι : ι m.length = none := hdom m.length (Nat.le_refl _) (by simp)
    have hC : ∀ b, ((at_ (m ++ [Blk.map [] 0])).only (tch [] m.length (m ++ [Blk.map [] 0]).length)) b = if b = m.length then .map [] 0 else .gone := fun b => by
      simp only [Cont.only, tch, at_, List.contains_nil, Bool.false_or, List.length_append, List.length_cons, List.length_nil, Bool.and_eq_true, decide_eq_true_eq]
      by_cases hb : b = m.length
      · subst hb; simp [List.getD_eq_getElem?_getD]
      · rw [if_neg hb, if_neg (by omega)]
    have hw : (w.heap.push (Obj.map #[] 0))[w.heap.size]? = some (.map #[] 0) := by simp
    have hloc : ∀ b L, (if b = m.length then Blk.map [] 0 else .gone).live = true → (upd ι m.length ⟨w.heap.size, 0, 0, 0, false⟩) b = some L → L.blk = w.heap.size := fun b L hl hL => by
      split at hl
      · rename_i hb; subst hb; rw [upd_self] at hL; cases hL; rfl
      · cases hl
    have hrun : (execOp (act t').eval o).run P w = .ok (.value (.map (some w.heap.size))) { w with heap := w.heap.push (.map #[] 0) } := by
      unfold execOp; rw [ho]
      cases x with
      | none => simp [makeMap, newObj, Sem.run]
      | some y =>
        simp only [resD, Bool.and_eq_true] at hx
        have h := rv_operand hs (x := y) (by rw [ho]; simp [Op.operands]) hx.1
        have hx2 := hx.2
        split at hx2
        · rename_i k n he
          rw [he] at h
          have h := h.int_inv
          unfold mapT at hu
          split at hu
          · rename_i kt et hu'
            simp [makeMap, h, run_underlying hu' w, newObj, Sem.run, asInt, asIntOf]
          · cases hu
        · cases hx2
    refine wp_of_value hrun (hn _ _ (upd ι m.length ⟨w.heap.size, 0, 0, 0, false⟩) (.map (upd_self _ _ _)) ⟨upd_le hι, by simp, rfl, rfl, rfl, fun k hk _ => ?_, fun k => ?_, fun k => ?_, fun _ _ h => .inl h⟩ ⟨fun b => ?_, fun b b2 L L2 hne ho' hl => ?_, fun r c hr => ?_, fun b L r c ho' hL hr => ?_⟩ (fun b h1 h2 => ?_))
    · simp only [Array.getElem?_push]; rw [if_neg (by omega)]
    · rintro ⟨b, L, ho', hL, hk⟩
      rw [hC] at ho'
      exact .inr (by rw [← hk, hloc b L (Blk.live_of_own ho') hL]; exact Nat.le_refl _)
    · rintro ⟨b, L, ho', hL, hk⟩
      rw [hC] at ho'
      exact .inr (by rw [← hk, hloc b L ho' hL]; exact Nat.le_refl _)
    · rw [hC]
      split
      · rename_i hb; subst hb
        exact ⟨_, #[], upd_self _ _ _, hw, rfl, fun i e e' h1 _ => by simp at h1⟩
      · trivial
    · rw [hC] at ho' hl
      split at ho'
      · split at hl
        · rename_i h1 h2; exact absurd (h1.trans h2.symm) hne
        · cases hl
      · cases ho'
    · obtain ⟨t, fz, h⟩ := hsim.fro r c hr
      have hlt := (Array.getElem?_eq_some_iff.1 h).1
      refine ⟨t, fz, ?_⟩
      show (w.heap.push _)[r]? = _
      rw [Array.getElem?_push, if_neg (by omega)]; exact h
    · rw [hC] at ho'
      obtain ⟨t, fz, h⟩ := hsim.fro r c hr
      have hlt := (Array.getElem?_eq_some_iff.1 h).1
      rw [hloc b L (Blk.live_of_own ho') hL]
      omega
    · by_cases hb : b = m.length
      · subst hb; simp
      · rw [upd_ne hb] at h2; exact absurd h1 h2

/-- Writes a map. -/
theorem OpOk.writesMap {b ck ck2 : Nat} {es es2 : List MapEntry} {v : Value} (hb : m.getD b .gone = .map es ck) (hblt : b < m.length)
    (h : ∀ (ι : Map) (t : Array Value) (w : World) (L : Loc) (es' : Array MapEntry), (∀ x, x ∈ slotsOf o → RV ι (a.getD x undef) (t.getD x undef)) → ι b = some L →
      w.heap[L.blk]? = some (.map es' ck) → EntriesOk ι es es' →
      ∃ es2' : Array MapEntry, EntriesOk ι es2 es2' ∧
        ∃ r v', (execOp (act t).eval o).run P w = .ok r { w with heap := w.heap.setIfInBounds L.blk (.map es2' ck2) } ∧ RV ι v v' ∧ (r = .value v' ∨ (r = .skip ∧ v' = undef))) :
    OpOk P o a m v (m.set b (.map es2 ck2)) ⟨[b], [b]⟩ where
  len := by simp
  sub := by simp
  rdlt := by simpa using hblt
  same := fun x _ hn => by
    have hne : b ≠ x := fun e => hn (by simp [e])
    simp [List.getD_eq_getElem?_getD, List.getElem?_set_ne hne]
  run := fun ι t w hs _ hsim next Q hn => by
    have hB := hsim.blk b
    have hC : ∀ x, ((at_ m).only (isIn [b])) x = if x = b then .map es ck else .gone := fun x => by
      simp only [Cont.only, isIn, at_]
      by_cases hx : x = b
      · subst hx; simp only [List.contains_cons, beq_self_eq_true, List.contains_nil, Bool.or_false, if_true]; exact hb
      · simp [hx]
    have hC' : ∀ x, ((at_ (m.set b (.map es2 ck2))).only (tch [b] m.length (m.set b (.map es2 ck2)).length)) x = if x = b then .map es2 ck2 else .gone := fun x => by
      simp only [List.length_set, tch_self, Cont.only, isIn, at_]
      by_cases hx : x = b
      · subst hx; simp [List.getD_eq_getElem?_getD, hblt]
      · simp [hx]
    rw [hC, if_pos rfl] at hB
    obtain ⟨L, es', hL, hh, hlen, hent⟩ := hB
    obtain ⟨es2', h1, r, v', hr, hv, hrv⟩ := h ι t w L es' hs hL hh ⟨hlen, hent⟩
    have hlt : L.blk < w.heap.size := (Array.getElem?_eq_some_iff.1 hh).1
    have k1 : Ext ι ((at_ m).only (isIn [b])) w ι ((at_ (m.set b (.map es2 ck2))).only (tch [b] m.length (m.set b (.map es2 ck2)).length)) { w with heap := w.heap.setIfInBounds L.blk (.map es2' ck2) } := by
      refine ⟨Le.refl _, by simp, rfl, rfl, rfl, fun k hk hn => ?_, fun k => ?_, fun k => ?_, fun _ _ h => .inl h⟩
      · have hne : L.blk ≠ k := fun e => hn ⟨b, L, by rw [hC]; simp [Blk.own], hL, e⟩
        exact Array.getElem?_setIfInBounds_ne hne
      · rintro ⟨x, K, ho, hK, hk⟩
        rw [hC'] at ho
        split at ho
        · rename_i hx; exact .inl ⟨x, K, by rw [hC, if_pos hx]; rfl, hK, hk⟩
        · cases ho
      · rintro ⟨x, K, ho, hK, hk⟩
        rw [hC'] at ho
        split at ho
        · rename_i hx; exact .inl ⟨x, K, by rw [hC, if_pos hx]; rfl, hK, hk⟩
        · cases ho
    have k2 : Sim ι ((at_ (m.set b (.map es2 ck2))).only (tch [b] m.length (m.set b (.map es2 ck2)).length)) { w with heap := w.heap.setIfInBounds L.blk (.map es2' ck2) } := by
      have hownb : (((at_ m).only (isIn [b])) b).own = true := by rw [hC, if_pos rfl]; rfl
      refine ⟨fun x => ?_, fun x x2 K K2 hne ho hl => ?_, fun r c hr => ?_, fun x K r c ho hK hr => ?_⟩
      · rw [hC']
        split
        · rename_i hx; subst hx
          exact ⟨L, es2', hL, by simp [hlt], h1.1, h1.2⟩
        · trivial
      · rw [hC'] at ho hl
        split at ho
        · split at hl
          · rename_i h1 h2; exact absurd (h1.trans h2.symm) hne
          · cases hl
        · cases ho
      · obtain ⟨t, fz, h⟩ := hsim.fro r c hr
        exact ⟨t, fz, by simp only; rw [Array.getElem?_setIfInBounds_ne (hsim.apart b L r c hownb hL hr)]; exact h⟩
      · rw [hC'] at ho
        split at ho
        · rename_i hx; subst hx; exact hsim.apart x K r c hownb hK hr
        · cases ho
    rcases hrv with rfl | ⟨rfl, rfl⟩
    · exact wp_of_value hr (hn v' _ _ hv k1 k2 (fun _ h1 h2 => absurd h1 h2))
    · exact wp_of_skip hr (hn undef _ _ hv k1 k2 (fun _ h1 h2 => absurd h1 h2))

theorem EntriesOk.push {ι : Map} {es : List MapEntry} {es' : Array MapEntry} (h : EntriesOk ι es es') {e e' : MapEntry} (he : EntryOk ι e e') : EntriesOk ι (es ++ [e]) (es'.push e') := by
  refine ⟨by simp [h.1], fun i x x' h1 h2 => ?_⟩
  by_cases hi : i < es.length
  · rw [List.getElem?_append_left hi] at h1
    rw [Array.getElem?_push, if_neg (by have := h.1; omega)] at h2
    exact h.2 i x x' h1 h2
  · rw [List.getElem?_append_right (by omega)] at h1
    rw [Array.getElem?_push] at h2
    split at h2
    · rename_i hi'
      have : i - es.length = 0 := by have := h.1; omega
      rw [this] at h1
      simp at h1
      cases h1; cases h2; exact he
    · have : i < es'.size := by
        have := (Array.getElem?_eq_some_iff.1 h2).1
        exact this
      have := h.1
      omega

theorem modify_get (es : Array MapEntry) (i j : Nat) (f : MapEntry → MapEntry) : (es.modify i f)[j]? = if i = j then (es[j]?).map f else es[j]? := by
  rw [Array.getElem?_modify]

/-- Of an entry, value and mark (a new one where there is none). -/
theorem OpOk.mapEntryNew {t kt et : TypeId} {x ix : Operand} {b ck : Nat} {es : List MapEntry} {key z : Value} (ho : o.op = .mapEntry t x ix) (hc : okConst x = true) (hc2 : okConst ix = true)
    (hx : evalC a x = .map (some b)) (hk : evalC a ix = key) (hkp : plain key = true) (hb : m[b]? = some (.map es ck)) (hu : P.underlying t = some (.map kt et)) (hpk : plains (es.map (·.key)) = true)
    (hf : Finds P kt key (es.map (·.key)) none) (hz : (P.info? et).bind (·.zero) = some z) (hzp : plain z = true) :
    OpOk P o a m (.tuple #[z, .int .i64 ck]) (m.set b (.map (es ++ [⟨key, z, ck⟩]) (ck + 1))) ⟨[b], [b]⟩ := by
  have hblt : b < m.length := (List.getElem?_eq_some_iff.1 hb).1
  refine OpOk.writesMap (es := es) (ck := ck) (by simp [List.getD_eq_getElem?_getD, hb]) hblt fun ι tt w L es' hs hL hh hent => ?_
  have h := rv_operand hs (x := x) (by rw [ho]; simp [Op.operands]) hc
  rw [hx] at h
  have h2 := rv_operand hs (x := ix) (by rw [ho]; simp [Op.operands]) hc2
  rw [hk] at h2
  have h2 := h2.eq_of_plain hkp
  generalize hy : (act tt).eval x = y at h
  cases h with
  | map hL' =>
    rw [hL] at hL'; cases hL'
    have hreal := hf.real hent hpk w
    refine ⟨es'.push ⟨key, z, ck⟩, hent.push ⟨RV.refl _ _ hkp, RV.refl _ _ hzp, rfl⟩, _, .tuple #[z, .int .i64 ck], ?_, RV.tuple rfl fun i => ?_, .inl rfl⟩
    · unfold execOp; rw [ho]
      simp [hy, ← h2, mapEntry, run_underlying hu, Result.andThen, getMap_run hh, hf.may, hreal, zero_run hz, setMap_run _ hh, goInt]
    · rcases i with _ | _ | i
      · exact RV.refl _ _ hzp
      · exact .int _ _
      · exact .any _

theorem OpOk.mapEntryOld {t kt et : TypeId} {x ix : Operand} {b ck i : Nat} {es : List MapEntry} {key : Value} {e : MapEntry} (ho : o.op = .mapEntry t x ix) (hc : okConst x = true) (hc2 : okConst ix = true)
    (hx : evalC a x = .map (some b)) (hk : evalC a ix = key) (hkp : plain key = true) (hb : m[b]? = some (.map es ck)) (hu : P.underlying t = some (.map kt et)) (hpk : plains (es.map (·.key)) = true)
    (hf : Finds P kt key (es.map (·.key)) (some i)) (he : es[i]? = some e) (hke : e.key = key) (hsb : sameBits 10000 key key = true) :
    OpOk P o a m (.tuple #[e.val, .int .i64 e.born]) (m.set b (.map es ck)) ⟨[b], [b]⟩ := by
  have hblt : b < m.length := (List.getElem?_eq_some_iff.1 hb).1
  refine OpOk.writesMap (es := es) (ck := ck) (by simp [List.getD_eq_getElem?_getD, hb]) hblt fun ι tt w L es' hs hL hh hent => ?_
  have h := rv_operand hs (x := x) (by rw [ho]; simp [Op.operands]) hc
  rw [hx] at h
  have h2 := rv_operand hs (x := ix) (by rw [ho]; simp [Op.operands]) hc2
  rw [hk] at h2
  have h2 := h2.eq_of_plain hkp
  generalize hy : (act tt).eval x = y at h
  have hi := (List.getElem?_eq_some_iff.1 he).1
  have e2 : es'[i]? = some (es'[i]'(by rw [← hent.1]; exact hi)) := by simp
  have hee := hent.2 i _ _ he e2
  have hkk : (es'[i]'(by rw [← hent.1]; exact hi)).key = key := by
    have := hee.1.eq_of_plain (by rw [hke]; exact hkp)
    rw [← this, hke]
  cases h with
  | map hL' =>
    rw [hL] at hL'; cases hL'
    have hreal := hf.real hent hpk w
    simp only [Option.bind_some, e2, Option.map_some] at hreal
    refine ⟨es'.modify i fun e => { e with key := key }, ⟨by simp [hent.1], fun j x x' h1 h3 => ?_⟩, _, .tuple #[(es'[i]'(by rw [← hent.1]; exact hi)).val, .int .i64 e.born], ?_, RV.tuple rfl fun j => ?_, .inl rfl⟩
    · rw [modify_get] at h3
      split at h3
      · rename_i hij; subst hij
        rw [e2, Option.map_some] at h3
        cases h3
        rw [he] at h1; cases h1
        exact ⟨by rw [hke]; exact RV.refl _ _ hkp, hee.2.1, hee.2.2⟩
      · exact hent.2 j x x' h1 h3
    · unfold execOp; rw [ho]
      simp [hy, ← h2, mapEntry, run_underlying hu, Result.andThen, getMap_run hh, hf.may, hreal, keyThatStays, e2, hkk, hsb, setMap_run _ hh, goInt, hee.2.2]
    · rcases j with _ | _ | j
      · exact hee.2.1
      · exact .int _ _
      · exact .any _

theorem findIdx_arr (es : Array MapEntry) (p : MapEntry → Bool) : es.findIdx? p = es.toList.findIdx? p := by cases es; simp

/-- A value is laid into the entry of a mark. -/
theorem OpOk.entryStoreM {t : TypeId} {x ix y : Operand} {b ck i : Nat} {k : IntKind} {n : Int} {es : List MapEntry} {v : Value} {e : MapEntry} (ho : o.op = .entryStore t x ix y) (hc : okConst x = true) (hc2 : okConst ix = true) (hc3 : okConst y = true)
    (hx : evalC a x = .map (some b)) (hk : evalC a ix = .int k n) (hv : evalC a y = v) (hb : m[b]? = some (.map es ck)) (hi : es.findIdx? (fun e => (e.born : Int) == n) = some i) (he : es[i]? = some e) :
    OpOk P o a m undef (m.set b (.map (es.set i { e with val := v }) ck)) ⟨[b], [b]⟩ := by
  have hblt : b < m.length := (List.getElem?_eq_some_iff.1 hb).1
  refine OpOk.writesMap (es := es) (ck := ck) (by simp [List.getD_eq_getElem?_getD, hb]) hblt fun ι tt w L es' hs hL hh hent => ?_
  have h := rv_operand hs (x := x) (by rw [ho]; simp [Op.operands]) hc
  rw [hx] at h
  have h2 := rv_operand hs (x := ix) (by rw [ho]; simp [Op.operands]) hc2
  rw [hk] at h2
  have h2 := h2.int_inv
  have h3 := rv_operand hs (x := y) (by rw [ho]; simp [Op.operands]) hc3
  rw [hv] at h3
  generalize hy : (act tt).eval x = z at h
  have hilt := (List.getElem?_eq_some_iff.1 he).1
  have hfi : es'.findIdx? (fun e => (e.born : Int) == n) = some i := by
    have e1 : es'.toList.map (·.born) = es.map (·.born) := by
      apply List.ext_getElem?
      intro j
      rw [List.getElem?_map, List.getElem?_map]
      by_cases hj : j < es.length
      · have hj' : j < es'.size := by rw [← hent.1]; exact hj
        have e1 : es[j]? = some es[j] := List.getElem?_eq_getElem hj
        have e2 : es'[j]? = some es'[j] := by simp [hj']
        have e2' : es'.toList[j]? = some es'[j] := by simp [hj']
        rw [e1, e2', Option.map_some, Option.map_some, (hent.2 j _ _ e1 e2).2.2]
      · have := hent.1
        rw [List.getElem?_eq_none (by simp only [Array.length_toList]; omega), List.getElem?_eq_none (by omega)]
    have e3 : es'.toList.findIdx? (fun e => (e.born : Int) == n) = (es'.toList.map (fun e : MapEntry => e.born)).findIdx? (fun b : Nat => (b : Int) == n) := by rw [List.findIdx?_map]; rfl
    have e4 : es.findIdx? (fun e => (e.born : Int) == n) = (es.map (fun e : MapEntry => e.born)).findIdx? (fun b : Nat => (b : Int) == n) := by rw [List.findIdx?_map]; rfl
    have e5 : es'.findIdx? (fun e => (e.born : Int) == n) = es'.toList.findIdx? (fun e => (e.born : Int) == n) := findIdx_arr es' _
    rw [e5, e3, e1, ← e4, hi]
  cases h with
  | map hL' =>
    rw [hL] at hL'; cases hL'
    refine ⟨es'.modify i fun e => { e with val := (act tt).eval y }, ⟨by simp [hent.1], fun j x x' h1 h4 => ?_⟩, .skip, undef, ?_, .any _, .inr ⟨rfl, rfl⟩⟩
    · rw [modify_get] at h4
      split at h4
      · rename_i hij; subst hij
        rw [List.getElem?_set_self hilt] at h1
        cases h1
        cases h5 : es'[i]? with
        | none => rw [h5] at h4; cases h4
        | some e' =>
          rw [h5, Option.map_some] at h4
          cases h4
          have := hent.2 i _ _ he h5
          exact ⟨this.1, h3, this.2.2⟩
      · rename_i hij
        rw [List.getElem?_set_ne hij] at h1
        exact hent.2 j x x' h1 h4
    · unfold execOp; rw [ho]
      simp [hy, h2, entryStore, getMap_run hh, Result.andThen, asInt, asIntOf, hfi, setMap_run _ hh]

/-! ### Keys -/
theorem findNow_eq {d : TypeDesc} {key : Value} {f : Value → Bool} : ∀ (es : List MapEntry) (j : Nat), (∀ e, e ∈ es → sameNow d key e.key = some (f e.key)) → findNow d key es j = some (((es.map (·.key)).findIdx? f).bind fun i => (es[i]?).map fun e => (i + j, e.val))
  | [], j, _ => rfl
  | e :: es, j, h => by
    unfold findNow
    rw [h e (by simp), List.map_cons, List.findIdx?_cons]
    cases hxy : f e.key with
    | true => simp
    | false =>
      simp only [Bool.false_eq_true, if_false]
      rw [findNow_eq es (j + 1) (fun x hx => h x (by simp [hx]))]
      congr 1
      cases (es.map (·.key)).findIdx? f with
      | none => rfl
      | some i =>
        simp only [Option.bind_some, Option.map_some, List.getElem?_cons_succ]
        congr 1
        funext e
        rw [show i + (j + 1) = i + 1 + j by omega]

theorem Finds.now {kt : TypeId} {d : TypeDesc} {key : Value} {ks : List Value} {f : Value → Bool} (hu : P.underlying kt = some d) (hm : ∀ em w, (checkKey em 10000 kt key).run P w = .ok () w)
    (hk : ∀ k, k ∈ ks → sameNow d key k = some (f k)) : Finds P kt key ks (ks.findIdx? f) where
  may := hm
  find := fun es he w => by
    have := findNow_eq (d := d) (key := key) (f := f) es 0 (fun e hx => hk e.key (by rw [← he]; exact List.mem_map_of_mem hx))
    rw [he] at this
    simp [findKey, run_underlying hu, Result.andThen, this]

theorem findAsking_eq {kt : TypeId} {key : Value} {f : Value → Bool} : ∀ (es : List MapEntry) (j : Nat) (w : World), (∀ e, e ∈ es → ∀ w, (Op.equal kt key e.key).run P w = .ok (f e.key) w) →
    (findAsking kt key es j).run P w = .ok (((es.map (·.key)).findIdx? f).bind fun i => (es[i]?).map fun e => (i + j, e.val)) w
  | [], j, w, _ => rfl
  | e :: es, j, w, h => by
    simp only [findAsking, Sem.run_bind, h e (by simp) w, Result.andThen, List.map_cons, List.findIdx?_cons]
    cases hf : f e.key with
    | true => simp
    | false =>
      simp only [Bool.false_eq_true, if_false]
      rw [findAsking_eq es (j + 1) w (fun x hx => h x (by simp [hx]))]
      congr 1
      cases (es.map (·.key)).findIdx? f with
      | none => rfl
      | some i =>
        simp only [Option.bind_some, Option.map_some, List.getElem?_cons_succ]
        congr 1
        funext e
        rw [show i + (j + 1) = i + 1 + j by omega]

theorem Finds.wide {kt : TypeId} {key : Value} {ks : List Value} {f : Value → Bool} (hu : (match P.underlying kt with | some (.array _ _) | some (.struct _) => true | _ => false) = true) (hm : ∀ em, pureEval P (checkKey em 10000 kt key) = some ())
    (hk : ∀ k, k ∈ ks → eqC P 10000 kt key k = some (f k)) : Finds P kt key ks (ks.findIdx? f) where
  may := fun em w => run_of_pureEval (hm em) w
  find := fun es he w => by
    rw [run_findKey_eq w hu]
    have := findAsking_eq (P := P) (kt := kt) (key := key) (f := f) es 0 w (fun e hx w => run_eqC 10000 kt key e.key _ (hk e.key (by rw [← he]; exact List.mem_map_of_mem hx)) w)
    rw [he] at this
    simpa using this

/-! ### Reckoned -/
def keyEqD (P : Program) (kt : TypeId) (key k : Value) : Option Bool := match P.underlying kt with
  | some (.int _) => match key, k with
    | .int .i64 x, .int .i64 y => some (x == y)
    | _, _ => none
  | some (.array _ _) => eqC P 10000 kt key k
  | some (.struct _) => eqC P 10000 kt key k
  | _ => none
def findD (P : Program) (kt : TypeId) (key : Value) : Nat → List Value → Option (Option Nat)
  | _, [] => some none
  | i, k :: ks => match keyEqD P kt key k with
    | some b => match findD P kt key (i + 1) ks with
      | some r => some (bif b then some i else r)
      | none => none
    | none => none
def mayD (P : Program) (kt : TypeId) (key : Value) : Bool := (match pureEval P (checkKey true 10000 kt key) with | some () => true | none => false) && (match pureEval P (checkKey false 10000 kt key) with | some () => true | none => false)

theorem findD_idx {kt : TypeId} {key : Value} : ∀ (ks : List Value) (i : Nat) (r : Option Nat), findD P kt key i ks = some r → (∀ k, k ∈ ks → keyEqD P kt key k = some ((keyEqD P kt key k).getD false)) ∧ r = (ks.findIdx? fun k => (keyEqD P kt key k).getD false).map (· + i)
  | [], i, r, h => by cases h; exact ⟨fun _ h => (by cases h), rfl⟩
  | k :: ks, i, r, h => by
    unfold findD at h
    split at h
    · rename_i b hb
      split at h
      · rename_i r' hr'
        cases h
        obtain ⟨h1, h2⟩ := findD_idx ks (i + 1) r' hr'
        refine ⟨fun x hx => ?_, ?_⟩
        · rcases List.mem_cons.1 hx with rfl | hx
          · rw [hb]; rfl
          · exact h1 x hx
        · rw [List.findIdx?_cons, hb]
          cases b with
          | true => simp
          | false =>
            simp only [Option.getD_some, cond_false, Bool.false_eq_true, if_false, h2, Option.map_map]
            congr 1
            funext j
            simp only [Function.comp]
            omega
      · cases h
    · cases h

def kindD (P : Program) (kt : TypeId) : Bool := match P.underlying kt with
  | some (.int _) | some (.array _ _) | some (.struct _) => true
  | _ => false

theorem findD_ok {kt : TypeId} {key : Value} {ks : List Value} {r : Option Nat} (hk : kindD P kt = true) (hm : mayD P kt key = true) (h : findD P kt key 0 ks = some r) : Finds P kt key ks r := by
  obtain ⟨h1, h2⟩ := findD_idx ks 0 r h
  have h2 : r = ks.findIdx? fun k => (keyEqD P kt key k).getD false := by
    rw [h2]
    cases ks.findIdx? fun k => (keyEqD P kt key k).getD false <;> simp
  subst h2
  have hm' : ∀ em, pureEval P (checkKey em 10000 kt key) = some () := fun em => by
    unfold mayD at hm
    rw [Bool.and_eq_true] at hm
    cases em with
    | true =>
      have := hm.1
      split at this
      · assumption
      · cases this
    | false =>
      have := hm.2
      split at this
      · assumption
      · cases this
  have hwide : (match P.underlying kt with | some (.array _ _) | some (.struct _) => true | _ => false) = true → (∀ k, keyEqD P kt key k = eqC P 10000 kt key k) → Finds P kt key ks (ks.findIdx? fun k => (keyEqD P kt key k).getD false) := fun hu he => by
    have := Finds.wide (f := fun k => (keyEqD P kt key k).getD false) hu hm' (ks := ks) (fun k hk => by rw [← he]; exact h1 k hk)
    exact this
  unfold kindD at hk
  split at hk
  · rename_i kk hu
    refine Finds.now hu (fun em w => run_of_pureEval (hm' em) w) fun k hkk => ?_
    have := h1 k hkk
    generalize hf : (keyEqD P kt key k).getD false = b at this
    unfold keyEqD at this
    rw [hu] at this
    simp only at this
    split at this
    · cases this
      simp [sameNow]
    · cases this
  · rename_i n e hu
    exact hwide (by rw [hu]) (fun k => by unfold keyEqD; rw [hu])
  · rename_i fs hu
    exact hwide (by rw [hu]) (fun k => by unfold keyEqD; rw [hu])
  · cases hk

/-- What is at a place of a memory, if it is a map; of which keys. -/
def mapD (a : List Value) (m : List Blk) (x : Operand) : Option (Nat × List MapEntry × Nat) :=
  if okConst x then match evalC a x with
    | .map (some b) => match m[b]? with
      | some (.map es ck) => if plains (es.map (·.key)) then some (b, es, ck) else none
      | _ => none
    | _ => none
  else none
theorem mapD_ok {x : Operand} {b ck : Nat} {es : List MapEntry} (h : mapD a m x = some (b, es, ck)) : okConst x = true ∧ evalC a x = .map (some b) ∧ m[b]? = some (.map es ck) ∧ plains (es.map (·.key)) = true := by
  unfold mapD at h
  split at h
  · rename_i hc
    split at h
    · rename_i b' hx
      split at h
      · rename_i es' ck' hb
        split at h
        · rename_i hp
          cases h
          exact ⟨hc, hx, hb, hp⟩
        · cases h
      · cases h
    · cases h
  · cases h
def keyD (P : Program) (a : List Value) (t : TypeId) (ix : Operand) : Option (TypeId × TypeId) :=
  match P.underlying t with
  | some (.map kt et) => if okConst ix && plain (evalC a ix) && kindD P kt && mayD P kt (evalC a ix) then some (kt, et) else none
  | _ => none
theorem keyD_ok {t kt et : TypeId} {ix : Operand} (h : keyD P a t ix = some (kt, et)) : P.underlying t = some (.map kt et) ∧ okConst ix = true ∧ plain (evalC a ix) = true ∧ kindD P kt = true ∧ mayD P kt (evalC a ix) = true := by
  unfold keyD at h
  split at h
  · rename_i kt' et' hu
    split at h
    · rename_i hc
      cases h
      simp only [Bool.and_eq_true] at hc
      exact ⟨hu, hc.1.1.1, hc.1.1.2, hc.1.2, hc.2⟩
    · cases h
  · cases h
def zeroD (P : Program) (et : TypeId) : Option Value := match (P.info? et).bind (·.zero) with
  | some z => if plain z then some z else none
  | none => none

def opF (P : Program) (o : Oper) (a : List Value) (m : List Blk) : Option Out :=
  match o.op with
  | .makeMap t x => if resD a x && mapT P t then some (.map (some m.length), m ++ [.map [] 0], ⟨[], []⟩) else none
  | .lookup t x ix ok => match mapD a m x, keyD P a t ix with
    | some (b, es, _), some (kt, et) => match findD P kt (evalC a ix) 0 (es.map (·.key)), zeroD P et with
      | some r, some z => some (lookV ok (gotC z es r).1 (gotC z es r).2, m, ⟨[b], []⟩)
      | _, _ => none
    | _, _ => none
  | .mapEntry t x ix => match mapD a m x, keyD P a t ix with
    | some (b, es, ck), some (kt, et) => match findD P kt (evalC a ix) 0 (es.map (·.key)), zeroD P et with
      | some none, some z => some (.tuple #[z, .int .i64 ck], m.set b (.map (es ++ [⟨evalC a ix, z, ck⟩]) (ck + 1)), ⟨[b], [b]⟩)
      | some (some i), some _ => match es[i]?, evalC a ix with
        | some ⟨.int .i64 x, v, n⟩, .int .i64 y => if x = y then some (.tuple #[v, .int .i64 n], m.set b (.map es ck), ⟨[b], [b]⟩) else none
        | _, _ => none
      | _, _ => none
    | _, _ => none
  | .entryStore _ x ix y => match mapD a m x with
    | some (b, es, ck) => if okConst ix && okConst y then match evalC a ix with
      | .int _ n => match es.findIdx? (fun e => (e.born : Int) == n) with
        | some i => match es[i]? with
          | some e => some (undef, m.set b (.map (es.set i { e with val := evalC a y }) ck), ⟨[b], [b]⟩)
          | none => none
        | none => none
      | _ => none
      else none
    | none => none
  | _ => none

theorem zeroD_ok {et : TypeId} {z : Value} (h : zeroD P et = some z) : (P.info? et).bind (·.zero) = some z ∧ plain z = true := by
  unfold zeroD at h
  split at h
  · rename_i z' hz
    split at h
    · rename_i hp; cases h; exact ⟨hz, hp⟩
    · cases h
  · cases h

theorem opF_ok {v : Value} {m' : List Blk} {fp : Fp} (h : opF P o a m = some (v, m', fp)) : OpOk P o a m v m' fp := by
  unfold opF at h
  split at h
  · rename_i t x ho
    split at h
    · rename_i hc
      rw [Bool.and_eq_true] at hc
      cases h; exact OpOk.makeMapE ho hc.1 hc.2
    · cases h
  · rename_i t x ix ok ho
    split at h
    · rename_i b es ck kt et h1 h2
      obtain ⟨hc, hx, hb, hpk⟩ := mapD_ok h1
      obtain ⟨hu, hc2, hkp, hkd, hmd⟩ := keyD_ok h2
      split at h
      · rename_i r z hr hz
        cases h
        exact OpOk.lookupM ho hc hc2 hx rfl hkp hb hu hpk (findD_ok hkd hmd hr) (zeroD_ok hz).1 (zeroD_ok hz).2
      · cases h
    · cases h
  · rename_i t x ix ho
    split at h
    · rename_i b es ck kt et h1 h2
      obtain ⟨hc, hx, hb, hpk⟩ := mapD_ok h1
      obtain ⟨hu, hc2, hkp, hkd, hmd⟩ := keyD_ok h2
      split at h
      · rename_i z hr hz
        cases h
        exact OpOk.mapEntryNew ho hc hc2 hx rfl hkp hb hu hpk (findD_ok hkd hmd hr) (zeroD_ok hz).1 (zeroD_ok hz).2
      · rename_i i z hr hz
        split at h
        · rename_i x' v' n y he hk
          split at h
          · rename_i hxy
            cases h
            subst hxy
            exact OpOk.mapEntryOld ho hc hc2 hx rfl hkp hb hu hpk (findD_ok hkd hmd hr) he hk.symm (by rw [hk]; simp [sameBits])
          · cases h
        · cases h
      · cases h
    · cases h
  · rename_i t x ix y ho
    split at h
    · rename_i b es ck h1
      obtain ⟨hc, hx, hb, hpk⟩ := mapD_ok h1
      split at h
      · rename_i hcc
        rw [Bool.and_eq_true] at hcc
        split at h
        · rename_i k n hk
          split at h
          · rename_i i hi
            split at h
            · rename_i e he
              cases h
              exact OpOk.entryStoreM ho hc hcc.1 hcc.2 hx hk rfl hb hi he
            · cases h
          · cases h
        · cases h
      · cases h
    · cases h
  · cases h

end

end

section
open Go.Instr

section
variable {P : Program} {o : Oper} {a : List Value} {m : List Blk}

def asFrz : Value → Option (Nat × List Value)
  | .iface t (.tuple ⟨[.int .i64 (.ofNat n), .agg ⟨c⟩]⟩) => bif Nat.beq t frzT then some (n, c) else none
  | _ => none
theorem asFrz_ok {v : Value} {n : Nat} {c : List Value} (h : asFrz v = some (n, c)) : v = frz n c := by
  unfold asFrz at h
  split at h
  · rename_i t n' c'
    cases ht : Nat.beq t frzT with
    | false => rw [ht] at h; cases h
    | true => rw [ht] at h; cases h; rw [Nat.eq_of_beq_eq_true ht]; rfl
  · cases h
def asFrp : Value → Option (List Value × Nat)
  | .iface t (.tuple ⟨[.int .i64 (.ofNat n), .agg ⟨c⟩]⟩) => bif Nat.beq t frpT then some (c, n) else none
  | _ => none
theorem asFrp_ok {v : Value} {n : Nat} {c : List Value} (h : asFrp v = some (c, n)) : v = frp c n := by
  unfold asFrp at h
  split at h
  · rename_i t n' c'
    cases ht : Nat.beq t frpT with
    | false => rw [ht] at h; cases h
    | true => rw [ht] at h; cases h; rw [Nat.eq_of_beq_eq_true ht]; rfl
  · cases h

theorem OpOk.lenFrz {x : Operand} {t e : TypeId} {n : Nat} {c : List Value} (ho : o.op = .call { callee := .builtin .len, args := #[x], argTypes := #[t] }) (hc : okConst x = true) (hx : evalC a x = frz n c)
    (hu : P.underlying t = some (.slice e)) : OpOk P o a m (.int .i64 n) m ⟨[], []⟩ :=
  OpOk.quiet fun ι tt w hs => by
    have h := rv_operand hs (x := x) (by rw [ho]; simp [Op.operands, Call.operands]) hc
    rw [hx] at h
    refine ⟨_, .int _ _, ?_⟩
    unfold execOp; rw [ho]
    generalize hy : (act tt).eval x = y at h
    cases h with
    | iface _ ht => exact absurd ht (by decide)
    | _ => simp [resolve, invoke, builtin, Builtin.len_, hy, run_underlying hu w, goInt]

theorem OpOk.idxFrz {t e : TypeId} {x ix : Operand} {n sz : Nat} {c : List Value} {k : IntKind} {i : Int} (ho : o.op = .indexAddr t x ix) (hc : okConst x = true) (hc2 : okConst ix = true) (hx : evalC a x = frz n c)
    (hi : evalC a ix = .int k i) (hu : P.underlying t = some (.slice e)) (hz : szC P e = some sz) (h0 : 0 ≤ i) (h1 : i < n) : OpOk P o a m (frp c (i.toNat * sz)) m ⟨[], []⟩ :=
  OpOk.quiet fun ι tt w hs => by
    have h := rv_operand hs (x := x) (by rw [ho]; simp [Op.operands]) hc
    rw [hx] at h
    have h2 := rv_operand hs (x := ix) (by rw [ho]; simp [Op.operands]) hc2
    rw [hi] at h2
    have he2 := h2.int_inv
    generalize hy : (act tt).eval x = y at h
    cases h with
    | iface _ ht => exact absurd ht (by decide)
    | frzN => omega
    | frzE => omega
    | @frz _ _ r off cap cr hr hcap hp hfit hcc =>
      refine ⟨.pointer (some ⟨r, off + i.toNat * sz, none⟩), .frp hr hp hfit hcc, ?_⟩
      unfold execOp; rw [ho]
      simp [Instr.indexAt, run_underlying hu w, hy, he2, asIntOf, run_szC hz, addr_add, h0, h1]

theorem OpOk.fieldFrp {t : TypeId} {x : Operand} {f : Nat} {fs : Array Field} {fd : Field} {c : List Value} {off n : Nat} (ho : o.op = .fieldAddr t x f) (hc : okConst x = true) (hx : evalC a x = frp c off)
    (hu : P.underlying t = some (.struct fs)) (hf : fs[f]? = some fd) (hz : szC P fd.type = some (n + 1)) : OpOk P o a m (frp c (off + fd.offset)) m ⟨[], []⟩ :=
  OpOk.quiet fun ι tt w hs => by
    have h := rv_operand hs (x := x) (by rw [ho]; simp [Op.operands]) hc
    rw [hx] at h
    generalize hy : (act tt).eval x = y at h
    cases h with
    | iface _ ht => exact absurd ht (by decide)
    | @frp _ _ r ro cr hr hp hfit hcc =>
      refine ⟨.pointer (some ⟨r, ro + (off + fd.offset), none⟩), .frp hr hp hfit hcc, ?_⟩
      unfold execOp; rw [ho]
      simp [Instr.fieldAt, run_underlying hu w, hf, hy, sureAddr, fieldPlace, run_szC hz, addr_add, Nat.add_assoc]

/-- An element of an array within. -/
theorem OpOk.idxFrp {t e : TypeId} {x ix : Operand} {len sz off : Nat} {c : List Value} {k : IntKind} {i : Int} (ho : o.op = .indexAddr t x ix) (hc : okConst x = true) (hc2 : okConst ix = true) (hx : evalC a x = frp c off)
    (hi : evalC a ix = .int k i) (hu : P.underlying t = some (.array len e)) (hz : szC P e = some sz) (h0 : 0 ≤ i) (h1 : i < len) : OpOk P o a m (frp c (off + i.toNat * sz)) m ⟨[], []⟩ :=
  OpOk.quiet fun ι tt w hs => by
    have h := rv_operand hs (x := x) (by rw [ho]; simp [Op.operands]) hc
    rw [hx] at h
    have h2 := rv_operand hs (x := ix) (by rw [ho]; simp [Op.operands]) hc2
    rw [hi] at h2
    have he2 := h2.int_inv
    generalize hy : (act tt).eval x = y at h
    cases h with
    | iface _ ht => exact absurd ht (by decide)
    | @frp _ _ r ro cr hr hp hfit hcc =>
      refine ⟨.pointer (some ⟨r, ro + (off + i.toNat * sz), none⟩), .frp hr hp hfit hcc, ?_⟩
      unfold execOp; rw [ho]
      simp [Instr.indexAt, run_underlying hu w, hy, he2, sureAddr, asIntOf, run_szC hz, addr_add, Nat.add_assoc, h0, h1]

theorem OpOk.loadFrp {t : TypeId} {x : Operand} {c : List Value} {off : Nat} {v : Value} (ho : o.op = .load t x) (hc : okConst x = true) (hx : evalC a x = frp c off) (hv : loadC P t c off = some v) : OpOk P o a m v m ⟨[], []⟩ := by
  refine OpOk.readsF (by simp) fun ι tt w hs _ hfro => ?_
  have h := rv_operand hs (x := x) (by rw [ho]; simp [Op.operands]) hc
  rw [hx] at h
  generalize hy : (act tt).eval x = y at h
  cases h with
  | iface _ ht => exact absurd ht (by decide)
  | @frp _ _ r ro cr hr hp hfit hcc =>
    obtain ⟨te, fz, hh⟩ := hfro r cr hr
    unfold loadC at hv
    split at hv
    · rename_i ht
      split at hv
      · rename_i n hn
        split at hv
        · rename_i hle
          cases hv
          have hle := Nat.le_of_ble_eq_true hle
          refine ⟨.agg ((List.range n).map fun j => cr.getD (ro + off + j) undef).toArray, .agg (by simp; omega) (fun i => ?_), ?_⟩
          · rw [toArr_range]
            by_cases hi : i < n
            · rw [if_pos hi]
              have h1 : ((c.drop off).take n).toArray.getD i undef = c.getD (off + i) undef := by simp [List.getD_eq_getElem?_getD, hi]
              rw [h1, Nat.add_assoc]
              exact hcc (off + i) (by omega)
            · rw [if_neg hi]
              have h1 : ((c.drop off).take n).toArray.getD i undef = undef := by simp [List.getElem?_take, hi]
              rw [h1]; exact .any _
          · unfold execOp; rw [ho]
            have hl := run_loadCells (P := P) w ⟨r, ro + off, none⟩ n (fun j => cr.getD (ro + off + j) undef) (fun j hj => by rw [addr_add]; exact cell_of (L := ⟨r, ro, 0, 0, true⟩) hh (by omega))
            simp [loadAt, hy, sureAddr, loadVar, run_isAgg ht w, run_szC hn, hl]
        · cases hv
      · cases hv
    · rename_i ht
      have hlt : off < c.length := (List.getElem?_eq_some_iff.1 hv).1
      have hrv := hcc off hlt
      rw [show c.getD off undef = v by simp [List.getD_eq_getElem?_getD, hv]] at hrv
      refine ⟨_, hrv, ?_⟩
      unfold execOp; rw [ho]
      have hcell : w.cell? ⟨r, ro + off, none⟩ = some (cr.getD (ro + off) undef) := cell_of (L := ⟨r, ro, 0, 0, true⟩) hh (by omega)
      simp [loadAt, hy, sureAddr, loadVar, run_isAgg ht w, hcell]
    · cases hv

theorem OpOk.sliceFrz {t e : TypeId} {x : Operand} {lo hi : Option Operand} {n size l h : Nat} {c : List Value} {kl kh : IntKind} (ho : o.op = .slice t x lo hi none) (hc : okConst x = true)
    (hx : evalC a x = frz n c) (hu : P.underlying t = some (.slice e)) (hz : szC P e = some size) (hlen : c.length = n * size)
    (hlo : (lo = none ∧ l = 0) ∨ ∃ y, lo = some y ∧ okConst y = true ∧ evalC a y = .int kl l) (hhi : (hi = none ∧ h = n) ∨ ∃ y, hi = some y ∧ okConst y = true ∧ evalC a y = .int kh h) (hlh : l ≤ h) (hhc : h ≤ n) :
    OpOk P o a m (frz (h - l) ((c.drop (l * size)).take ((h - l) * size))) m ⟨[], []⟩ := by
  refine OpOk.quiet fun ι tt w hs => ?_
  have hrx := rv_operand hs (x := x) (by rw [ho]; simp [Op.operands]) hc
  rw [hx] at hrx
  have bounds : ∀ cap', h ≤ cap' → (sliceBounds true n cap' (lo.map (act tt).eval) (hi.map (act tt).eval) none).run P w = .ok (l, h, cap') w := fun cap' hcap' => by
    have hhv : hi.map (act tt).eval = hi.map (fun _ => Value.int kh h) := by
      rcases hhi with ⟨rfl, _⟩ | ⟨y, rfl, hy1, hy2⟩
      · rfl
      · have := rv_operand hs (x := y) (by rw [ho]; simp [Op.operands]) hy1
        rw [hy2] at this
        simp [this.int_inv]
    have hlv : lo.map (act tt).eval = lo.map (fun _ => Value.int kl l) := by
      rcases hlo with ⟨rfl, _⟩ | ⟨y, rfl, hy1, hy2⟩
      · rfl
      · have := rv_operand hs (x := y) (by rw [ho]; simp [Op.operands]) hy1
        rw [hy2] at this
        simp [this.int_inv]
    rw [hhv, hlv]
    rcases hhi with ⟨rfl, rfl⟩ | ⟨y, rfl, _, _⟩ <;> rcases hlo with ⟨rfl, rfl⟩ | ⟨z, rfl, _, _⟩ <;>
      simp [sliceBounds, sliceBound, asIntOf, *]
  have hsub : ∀ l h : Nat, l ≤ h → h ≤ n → ((c.drop (l * size)).take ((h - l) * size)).length = (h - l) * size := fun l h h1 h2 => by
    have e1 : (h - l) * size + l * size = h * size := by rw [← Nat.add_mul]; congr 1; omega
    have e2 : h * size ≤ n * size := Nat.mul_le_mul_right _ h2
    simp only [List.length_take, List.length_drop]
    omega
  generalize hy : (act tt).eval x = y at hrx
  cases hrx with
  | iface _ ht => exact absurd ht (by decide)
  | frzN =>
    have hh0 : h = 0 := by omega
    have hl0 : l = 0 := by omega
    subst hh0; subst hl0
    refine ⟨.slice none 0 0, by simpa using RV.frzN, ?_⟩
    unfold execOp; rw [ho]
    have hbnd := bounds 0 (by omega)
    simp [Instr.sliceAt, run_underlying hu w, hy, Instr.slice, hbnd, run_szC hz w]
  | frzE q cap =>
    have hh0 : h = 0 := by omega
    have hl0 : l = 0 := by omega
    subst hh0; subst hl0
    refine ⟨.slice (some q) 0 cap, by simpa using RV.frzE q cap, ?_⟩
    unfold execOp; rw [ho]
    have hbnd := bounds cap (by omega)
    simp only [Instr.sliceAt, Sem.run_bind, run_underlying hu w, Result.andThen_ok, hy, Instr.slice, hbnd, run_szC hz w, Sem.run_pure, Option.map_none]
    by_cases hcl : cap = 0 <;> simp [hcl, Addr.add]
  | @frz _ _ r off cap cr hr hcap hp hfit hcc =>
    have e1 : (h - l) * size + l * size = h * size := by rw [← Nat.add_mul]; congr 1; omega
    have e2 : h * size ≤ n * size := Nat.mul_le_mul_right _ hhc
    have hpsub : pures ((c.drop (l * size)).take ((h - l) * size)) = true := by
      have key : ∀ (c : List Value) (i j : Nat), pures c = true → pures ((c.drop i).take j) = true := by
        intro c
        induction c with
        | nil => intro i j _; simp [pures]
        | cons v c ih =>
          intro i j hp
          simp only [pures, Bool.and_eq_true] at hp
          cases i with
          | zero =>
            cases j with
            | zero => simp [pures]
            | succ j => have := ih 0 j hp.2; simp only [List.drop_zero] at this; simp [pures, hp.1, this]
          | succ i => simpa using ih i j hp.2
      exact key c _ _ hp
    by_cases hcl : cap = l
    · have hll : h - l = 0 := by omega
      refine ⟨.slice (some ⟨r, off, none⟩) 0 0, ?_, ?_⟩
      · rw [hll]; simpa using RV.frzE ⟨r, off, none⟩ 0
      · unfold execOp; rw [ho]
        have hbnd := bounds cap (by omega)
        simp only [Instr.sliceAt, Sem.run_bind, run_underlying hu w, Result.andThen_ok, hy, Instr.slice, hbnd, run_szC hz w, Sem.run_pure, Option.map_none]
        have : h = l := by omega
        subst this
        simp [hcl]
    · refine ⟨.slice (some ⟨r, off + l * size, none⟩) (h - l) (cap - l), .frz hr (by omega) hpsub (by rw [hsub l h hlh hhc]; omega) (fun i hi => ?_), ?_⟩
      · rw [hsub l h hlh hhc] at hi
        have := hcc (l * size + i) (by omega)
        rw [Nat.add_assoc]
        simpa [List.getD_eq_getElem?_getD, List.getElem?_take, hi, List.getElem?_drop] using this
      · unfold execOp; rw [ho]
        have hbnd := bounds cap (by omega)
        simp only [Instr.sliceAt, Sem.run_bind, run_underlying hu w, Result.andThen_ok, hy, Instr.slice, hbnd, run_szC hz w, Sem.run_pure, Option.map_none]
        simp [hcl, addr_add]

/-- A slice of nothing, with no room: s[:0:0]. -/
theorem OpOk.empFrz {t e : TypeId} {x y z : Operand} {n size : Nat} {c : List Value} {kh km : IntKind} (ho : o.op = .slice t x none (some y) (some z)) (hc : okConst x = true) (hcy : okConst y = true) (hcz : okConst z = true)
    (hx : evalC a x = frz n c) (hy : evalC a y = .int kh 0) (hz : evalC a z = .int km 0) (hu : P.underlying t = some (.slice e)) (hsz : szC P e = some size) : OpOk P o a m emp m ⟨[], []⟩ := by
  refine OpOk.quiet fun ι tt w hs => ?_
  have hrx := rv_operand hs (x := x) (by rw [ho]; simp [Op.operands]) hc
  rw [hx] at hrx
  have h1 := rv_operand hs (x := y) (by rw [ho]; simp [Op.operands]) hcy
  rw [hy] at h1
  have h2 := rv_operand hs (x := z) (by rw [ho]; simp [Op.operands]) hcz
  rw [hz] at h2
  have h1 := h1.int_inv
  have h2 := h2.int_inv
  generalize hgy : (act tt).eval x = v at hrx
  cases hrx with
  | iface _ ht => exact absurd ht (by decide)
  | frzN =>
    refine ⟨.slice none 0 0, .empN, ?_⟩
    unfold execOp; rw [ho]
    simp [Instr.sliceAt, run_underlying hu w, hgy, h1, h2, Instr.slice, run_szC hsz w, sliceBounds, sliceBound, asIntOf]
  | frzE q cap =>
    refine ⟨.slice (some q) 0 0, .empE q, ?_⟩
    unfold execOp; rw [ho]
    simp [Instr.sliceAt, run_underlying hu w, hgy, h1, h2, Instr.slice, run_szC hsz w, sliceBounds, sliceBound, asIntOf, Addr.add]
  | @frz _ _ r off cap cr hr hcap hp hfit hcc =>
    refine ⟨.slice (some ⟨r, off, none⟩) 0 0, .empE _, ?_⟩
    unfold execOp; rw [ho]
    simp [Instr.sliceAt, run_underlying hu w, hgy, h1, h2, Instr.slice, run_szC hsz w, sliceBounds, sliceBound, asIntOf, Addr.add]

/-- A block that is given up. -/
theorem OpOk.forget {v : Value} {m1 : List Blk} {b : Nat} {rd : List Nat} (hb : b < m.length) (h : OpOk P o a m v m1 ⟨rd, []⟩) : OpOk P o a m v (m1.set b .gone) ⟨b :: rd, [b]⟩ where
  len := by have := h.len; simpa using this
  sub := by simp
  rdlt := fun x hx => by
    rcases List.mem_cons.1 hx with rfl | hx
    · exact hb
    · exact h.rdlt x hx
  same := fun x hx hn => by
    have hne : b ≠ x := fun e => hn (by simp [e])
    rw [← h.same x hx (by simp), List.getD_eq_getElem?_getD, List.getD_eq_getElem?_getD, List.getElem?_set_ne hne]
  run := fun ι t w hs hdom hsim next Q hn => by
    have hl := h.len
    have e1 : ((at_ m).only (isIn (b :: rd))).only (isIn rd) = (at_ m).only (isIn rd) := by
      funext x
      simp only [Cont.only]
      cases hx : isIn rd x with
      | false => simp
      | true =>
        have : isIn (b :: rd) x = true := by simp only [isIn] at hx ⊢; simp at hx ⊢; exact .inr hx
        simp [this]
    refine h.run ι t w hs (fun x h1 h2 => hdom x h1 (by simpa using h2)) (by rw [← e1]; exact hsim.only _) next Q fun v' w1 ι' h1 h2 h3 h4 => ?_
    -- all that is touched, but for the block
    have hfr := Sim.frame (C := (at_ m).only (isIn (b :: rd))) (C' := at_ m1) (D := fun x => if tch rd m.length m1.length x then at_ m1 x else ((at_ m).only (isIn (b :: rd))) x) (R := isIn rd) (T := tch rd m.length m1.length) hsim
      (fun x hx => by simp only [isIn] at hx; unfold tch; rw [hx]; rfl) (by rw [e1]; exact h2) h3 (fun x => rfl)
    obtain ⟨hS, hE⟩ := hfr
    have hsub : ∀ x, ((at_ (m1.set b .gone)).only (tch (b :: rd) m.length (m1.set b .gone).length)) x = .gone ∨ ((at_ (m1.set b .gone)).only (tch (b :: rd) m.length (m1.set b .gone).length)) x = (if tch rd m.length m1.length x then at_ m1 x else ((at_ m).only (isIn (b :: rd))) x) := fun x => by
      by_cases hx : x = b
      · left
        subst hx
        simp only [Cont.only]
        split
        · simp only [at_, List.getD_eq_getElem?_getD, List.getElem?_set_self (show x < m1.length by omega)]; rfl
        · rfl
      · have et : tch (b :: rd) m.length (m1.set b .gone).length x = tch rd m.length m1.length x := by simp [tch, hx]
        have ei : isIn (b :: rd) x = isIn rd x := by simp [isIn, hx]
        have ea : at_ (m1.set b .gone) x = at_ m1 x := by simp [at_, List.getD_eq_getElem?_getD, List.getElem?_set_ne (Ne.symm hx)]
        simp only [Cont.only, et, ei, ea]
        cases ht : tch rd m.length m1.length x with
        | true => right; simp
        | false => left; simp
    refine hn v' w1 ι' h1 ⟨hE.le, hE.size, hE.os, hE.tape, hE.output, hE.frame, fun k ⟨x, K, ho, hK, hk⟩ => ?_, fun k ⟨x, K, ho, hK, hk⟩ => ?_, hE.fro⟩ ⟨fun x => ?_, fun x x2 K K2 hne ho hl' hK hK2 => ?_, hS.fro, fun x K r c ho hK hr => ?_⟩ (fun x hx hx' => by have := h4 x hx hx'; simpa using this)
    · rcases hsub x with e | e
      · rw [e] at ho; cases ho
      · rw [e] at ho; exact hE.own k ⟨x, K, ho, hK, hk⟩
    · rcases hsub x with e | e
      · rw [e] at ho; cases ho
      · rw [e] at ho; exact hE.live k ⟨x, K, ho, hK, hk⟩
    · rcases hsub x with e | e
      · rw [e]; trivial
      · rw [e]; exact hS.blk x
    · rcases hsub x with e | e
      · rw [e] at ho; cases ho
      · rcases hsub x2 with e2 | e2
        · rw [e2] at hl'; cases hl'
        · rw [e] at ho; rw [e2] at hl'
          exact hS.sep x x2 K K2 hne ho hl' hK hK2
    · rcases hsub x with e | e
      · rw [e] at ho; cases ho
      · rw [e] at ho; exact hS.apart x K r c ho hK hr

def isSl (P : Program) (t : TypeId) : Bool := match P.underlying t with
  | some (.slice _) => true
  | _ => false

def isZero (a : List Value) (x : Operand) : Bool := okConst x && (match evalC a x with | .int _ 0 => true | _ => false)
theorem isZero_ok {x : Operand} (h : isZero a x = true) : okConst x = true ∧ ∃ k, evalC a x = .int k 0 := by
  unfold isZero at h
  rw [Bool.and_eq_true] at h
  refine ⟨h.1, ?_⟩
  have h2 := h.2
  split at h2
  · rename_i k he; exact ⟨k, he⟩
  · cases h2
def opG (P : Program) (o : Oper) (a : List Value) (m : List Blk) : Option Out :=
  match o.op with
  | .call c => match c.callee with
    | .builtin .len => match c.args.toList, c.argTypes.toList with
      | [x], [t] => match asFrz (evalC a x) with
        | some (n, _) => if okConst x && isSl P t then some (.int .i64 n, m, ⟨[], []⟩) else none
        | none => none
      | _, _ => none
    | _ => none
  | .fieldAddr t x f => match asFrp (evalC a x) with
    | some (c, off) => if okConst x then match P.underlying t with
        | some (.struct fs) => match fs[f]? with
          | some fd => match szC P fd.type with
            | some (_ + 1) => nf fd.offset fun d => some (frp c (off + d), m, ⟨[], []⟩)
            | _ => none
          | none => none
        | _ => none
      else none
    | none => none
  | .indexAddr t x ix => match asFrp (evalC a x), evalC a ix with
    | some (c, off), .int _ i => if okConst x && okConst ix then match P.underlying t with
        | some (.array len e) => match szC P e with
          | some n => if (decide (0 ≤ i) && decide (i < len)) = true then some (frp c (off + i.toNat * n), m, ⟨[], []⟩) else none
          | none => none
        | _ => none
      else none
    | _, _ => none
  | .slice t x none (some y) (some z) => match asFrz (evalC a x) with
    | some _ => if okConst x && isZero a y && isZero a z then match P.underlying t with
        | some (.slice e) => match szC P e with
          | some _ => some (emp, m, ⟨[], []⟩)
          | none => none
        | _ => none
      else none
    | none => none
  | _ => none

theorem opG_ok {v : Value} {m' : List Blk} {fp : Fp} (h : opG P o a m = some (v, m', fp)) : OpOk P o a m v m' fp := by
  unfold opG at h
  split at h
  · rename_i c ho
    split at h
    · rename_i hcal
      split at h
      · rename_i x t h1 h2
        split at h
        · rename_i n c' hx
          split at h
          · rename_i hc
            rw [Bool.and_eq_true] at hc
            cases h
            obtain ⟨callee, ⟨xs⟩, ⟨ts⟩⟩ := c
            simp only at hcal h1 h2
            subst hcal; subst h1; subst h2
            have hsl := hc.2
            unfold isSl at hsl
            split at hsl
            · rename_i e hu
              exact OpOk.lenFrz ho hc.1 (asFrz_ok hx) hu
            · cases hsl
          · cases h
        · cases h
      · cases h
    · cases h
  · rename_i t x f ho
    split at h
    · rename_i c off hx
      split at h
      · rename_i hc
        split at h
        · rename_i fs hu
          split at h
          · rename_i fd hf
            split at h
            · rename_i n hz; rw [nf_eq] at h; cases h; exact OpOk.fieldFrp ho hc (asFrp_ok hx) hu hf hz
            · cases h
          · cases h
        · cases h
      · cases h
    · cases h
  · rename_i t x ix ho
    split at h
    · rename_i c off k i hx hi
      split at h
      · rename_i hc
        rw [Bool.and_eq_true] at hc
        split at h
        · rename_i len e hu
          split at h
          · rename_i n hz
            split at h
            · rename_i hb
              simp only [Bool.and_eq_true, decide_eq_true_eq] at hb
              cases h; exact OpOk.idxFrp ho hc.1 hc.2 (asFrp_ok hx) hi hu hz hb.1 hb.2
            · cases h
          · cases h
        · cases h
      · cases h
    · cases h
  · rename_i t x y z ho
    split at h
    · rename_i p hx
      obtain ⟨n, c⟩ := p
      split at h
      · rename_i hc
        simp only [Bool.and_eq_true] at hc
        obtain ⟨hy, ky, hy2⟩ := isZero_ok hc.1.2
        obtain ⟨hz, kz, hz2⟩ := isZero_ok hc.2
        split at h
        · rename_i e hu
          split at h
          · rename_i sz hsz
            cases h
            exact OpOk.empFrz ho hc.1.1 hy hz (asFrz_ok hx) hy2 hz2 hu hsz
          · cases h
        · cases h
      · cases h
    · cases h
  · cases h

/-- One operation, as far as it can be reckoned. -/
def opA (P : Program) (o : Oper) (a : List Value) (m : List Blk) : Option Out :=
  match opB P o a m with
  | some x => some x
  | none => match opF P o a m with
    | some x => some x
    | none => opG P o a m

theorem opA_ok {v : Value} {m' : List Blk} {fp : Fp} (h : opA P o a m = some (v, m', fp)) : OpOk P o a m v m' fp := by
  unfold opA at h
  split at h
  · rename_i x hx; cases h; exact opB_ok hx
  · split at h
    · rename_i x hx; cases h; exact opF_ok hx
    · exact opG_ok h

end

end

section


/-- What an operation touched; sf: the block that it may have read behind another one (with what that one leaves there); outs: what it left. -/
structure Rec where
  fp : Fp
  lo : Nat
  hi : Nat
  sf : Option (Nat × Blk)
  outs : List (Nat × Blk)
abbrev rec3 (fp : Fp) (lo hi : Nat) : Rec := ⟨fp, lo, hi, none, []⟩

/-- What of an operation counts for the order. -/
structure Row where
  rs : List Nat
  dst : Option Nat
  rec_ : Rec
  mask : Nat

def inNew (r : Rec) (b : Nat) : Bool := Nat.ble r.lo b && Nat.blt b r.hi
/-- Does x write what y touches? -/
def hits (x y : Rec) : Bool :=
  x.fp.wr.any (fun b => y.fp.rd.contains b || inNew y b) || y.fp.rd.any (inNew x) || (Nat.blt x.lo x.hi && Nat.blt y.lo y.hi && Nat.blt x.lo y.hi && Nat.blt y.lo x.hi)
def clash (x y : Row) : Bool :=
  (match x.dst with | some d => y.rs.contains d || y.dst == some d | none => false) || (match y.dst with | some d => x.rs.contains d | none => false) || hits x.rec_ y.rec_ || hits y.rec_ x.rec_

theorem hits_of {x y : Rec} {b : Nat} (h1 : b ∈ x.fp.wr ∨ (x.lo ≤ b ∧ b < x.hi)) (h2 : b ∈ y.fp.rd ∨ (y.lo ≤ b ∧ b < y.hi)) : hits x y = true := by
  have new : ∀ {r : Rec}, r.lo ≤ b → b < r.hi → inNew r b = true := fun {r} h h' => by
    simp [inNew, Nat.ble_eq_true_of_le h, Nat.blt, Nat.ble_eq_true_of_le (Nat.succ_le_of_lt h')]
  unfold hits
  rcases h1 with h1 | ⟨h1, h1'⟩
  · have : (x.fp.wr.any fun b => y.fp.rd.contains b || inNew y b) = true := by
      rw [List.any_eq_true]
      refine ⟨b, h1, ?_⟩
      rcases h2 with h2 | ⟨h2, h2'⟩
      · simp [h2]
      · simp [new h2 h2']
    rw [this, Bool.true_or, Bool.true_or]
  · rcases h2 with h2 | ⟨h2, h2'⟩
    · have : y.fp.rd.any (inNew x) = true := by
        rw [List.any_eq_true]
        exact ⟨b, h2, new h1 h1'⟩
      rw [this, Bool.or_true, Bool.true_or]
    · have b1 : Nat.blt x.lo x.hi = true := Nat.ble_eq_true_of_le (by omega)
      have b2 : Nat.blt y.lo y.hi = true := Nat.ble_eq_true_of_le (by omega)
      have b3 : Nat.blt x.lo y.hi = true := Nat.ble_eq_true_of_le (by omega)
      have b4 : Nat.blt y.lo x.hi = true := Nat.ble_eq_true_of_le (by omega)
      simp [b1, b2, b3, b4]

/-- Edges that bind. -/
def edgeMask (acc : List Nat) (n : Nat) (s : Nat) (e : Edge) : Nat :=
  if Region.binds .any e && Nat.blt e.on n then s ||| (2 ^ e.on ||| acc.getD (n - 1 - e.on) 0) else s

/-- One mask an operation, the newest first. -/
def masks : List Nat → Nat → List Oper → List Nat
  | acc, _, [] => acc
  | acc, n, o :: l => masks (o.after.toList.foldl (edgeMask acc n) 0 :: acc) (n + 1) l

def MaskOk (ops : Array Oper) (acc : List Nat) (n : Nat) : Prop := acc.length = n ∧ ∀ j i, j < n → (acc.getD (n - 1 - j) 0).testBit i = true → Bef ops j i

theorem edgeMask_ok {ops : Array Oper} {acc : List Nat} {n : Nat} {o : Oper} (h : MaskOk ops acc n) (ho : ops[n]? = some o) : ∀ (l : List Edge) (s : Nat), (∀ e, e ∈ l → e ∈ o.after) →
    (∀ i, s.testBit i = true → Bef ops n i) → ∀ i, (l.foldl (edgeMask acc n) s).testBit i = true → Bef ops n i
  | [], _, _, hs, i, hi => hs i hi
  | e :: l, s, hl, hs, i, hi => by
    refine edgeMask_ok h ho l _ (fun x hx => hl x (List.mem_cons_of_mem _ hx)) (fun k hk => ?_) i hi
    unfold edgeMask at hk
    split at hk
    · rename_i hc
      rw [Bool.and_eq_true] at hc
      have hlt : e.on < n := Nat.lt_of_succ_le (Nat.le_of_ble_eq_true hc.2)
      rw [Nat.testBit_or, Nat.testBit_or, Bool.or_eq_true, Bool.or_eq_true] at hk
      rcases hk with hk | hk | hk
      · exact hs k hk
      · have : e.on = k := by
          rw [Nat.testBit_two_pow] at hk
          simpa using hk
        rw [← this]
        exact .edge ho (hl e (by simp)) hc.1
      · exact .far ho (hl e (by simp)) hc.1 (h.2 e.on k hlt hk)
    · exact hs k hk

theorem masks_ok {ops : Array Oper} : ∀ (l : List Oper) (acc : List Nat) (n : Nat), MaskOk ops acc n → (∀ k, l[k]? = ops[n + k]?) → MaskOk ops (masks acc n l) (n + l.length)
  | [], acc, n, h, _ => by simpa [masks] using h
  | o :: l, acc, n, h, hl => by
    have ho : ops[n]? = some o := by simpa using (hl 0).symm
    have := masks_ok (ops := ops) l (o.after.toList.foldl (edgeMask acc n) 0 :: acc) (n + 1) ⟨by simp [h.1], fun j i hj hi => by
      by_cases hjn : j = n
      · subst hjn
        have e : j + 1 - 1 - j = 0 := by omega
        rw [e] at hi
        exact edgeMask_ok h ho o.after.toList 0 (fun e he => by simpa using he) (fun i hi => by simp at hi) i (by simpa using hi)
      · have e : n + 1 - 1 - j = (n - 1 - j) + 1 := by omega
        rw [e, List.getD_cons_succ] at hi
        exact h.2 j i (by omega) hi⟩ (fun k => by have := hl (k + 1); simpa [Nat.add_assoc, Nat.add_comm 1 k] using this)
    simpa [masks, Nat.add_assoc, Nat.add_comm 1] using this

/-- A row against those ahead of it, the newest first; i: how many are ahead. -/
def chk (y : Row) : Nat → List Row → Bool
  | _, [] => true
  | i, x :: xs => (!(clash x y) || y.mask.testBit (i - 1)) && chk y (i - 1) xs
def ordGo : List Row → Nat → List Row → Bool
  | _, _, [] => true
  | es, n, y :: ys => chk y n es && ordGo (y :: es) (n + 1) ys

theorem chk_ok {y : Row} : ∀ (xs : List Row) (n : Nat), xs.length = n → chk y n xs = true → ∀ k x, xs[k]? = some x → clash x y = true → y.mask.testBit (n - 1 - k) = true
  | [], _, _, _, k, x, hx, _ => by simp at hx
  | z :: zs, n, hl, h, k, x, hx, hc => by
    simp only [chk, Bool.and_eq_true] at h
    cases k with
    | zero =>
      have : z = x := by simpa using hx
      subst this
      have := h.1
      rw [hc] at this
      simpa using this
    | succ k =>
      have := chk_ok zs (n - 1) (by simp at hl; omega) h.2 k x (by simpa using hx) hc
      rwa [show n - 1 - 1 - k = n - 1 - (k + 1) by omega] at this

theorem ordGo_ok : ∀ (ys es : List Row) (n : Nat), es.length = n → ordGo es n ys = true → ∀ i j x y, i < j → (es.reverse ++ ys)[i]? = some x → (es.reverse ++ ys)[j]? = some y → n ≤ j → clash x y = true → y.mask.testBit i = true
  | [], es, n, hl, _, i, j, x, y, _, _, hy, hn, _ => by
    have := (List.getElem?_eq_some_iff.1 hy).1
    simp [hl] at this
    omega
  | z :: zs, es, n, hl, h, i, j, x, y, hij, hx, hy, hn, hc => by
    simp only [ordGo, Bool.and_eq_true] at h
    by_cases hj : j = n
    · subst hj
      have hyz : z = y := by
        rw [List.getElem?_append_right (by simp [hl])] at hy
        simpa [hl] using hy
      subst hyz
      rw [List.getElem?_append_left (by simp; omega), List.getElem?_reverse (by omega)] at hx
      have := chk_ok es j hl h.1 (es.length - 1 - i) x hx hc
      rwa [show j - 1 - (es.length - 1 - i) = i by omega] at this
    · exact ordGo_ok zs (z :: es) (n + 1) (by simp [hl]) h.2 i j x y hij (by simpa using hx) (by simpa using hy) (by omega) hc

def rowsOf (ops : Array Oper) : List Oper → List Rec → List Nat → List Row
  | o :: l, r :: rs, k :: ks => ⟨slotsOf o ++ (guardSlot ops o).toList, o.dst, r, k⟩ :: rowsOf ops l rs ks
  | _, _, _ => []

theorem rowsOf_get {ops : Array Oper} : ∀ (l : List Oper) (rs : List Rec) (ks : List Nat) (i : Nat) (o : Oper) (r : Rec) (k : Nat), l[i]? = some o → rs[i]? = some r → ks[i]? = some k →
    (rowsOf ops l rs ks)[i]? = some ⟨slotsOf o ++ (guardSlot ops o).toList, o.dst, r, k⟩
  | [], _, _, i, _, _, _, h, _, _ => by simp at h
  | _ :: _, [], _, i, _, _, _, _, h, _ => by simp at h
  | _ :: _, _ :: _, [], i, _, _, _, _, _, h => by simp at h
  | o :: l, r :: rs, k :: ks, 0, o', r', k', h1, h2, h3 => by simp at h1 h2 h3; subst h1 h2 h3; rfl
  | o :: l, r :: rs, k :: ks, i + 1, o', r', k', h1, h2, h3 => by
    simp only [rowsOf, List.getElem?_cons_succ]
    exact rowsOf_get l rs ks i o' r' k' (by simpa using h1) (by simpa using h2) (by simpa using h3)

def backOk : Nat → List Oper → Bool
  | _, [] => true
  | n, o :: l => o.after.toList.all (fun e => !Region.binds .any e || Nat.blt e.on n) && backOk (n + 1) l

theorem backOk_ok : ∀ (l : List Oper) (n j : Nat) (o : Oper) (e : Edge), backOk n l = true → l[j]? = some o → e ∈ o.after → Region.binds .any e = true → e.on < n + j
  | [], _, j, _, _, _, h, _, _ => by simp at h
  | o :: l, n, 0, o', e, h, ho, he, hb => by
    simp only [backOk, Bool.and_eq_true] at h
    have : o = o' := by simpa using ho
    subst this
    have := List.all_eq_true.1 h.1 e (by simpa using he)
    rw [hb] at this
    have h2 : Nat.blt e.on n = true := by simpa using this
    exact Nat.lt_of_succ_le (Nat.le_of_ble_eq_true h2)
  | o :: l, n, j + 1, o', e, h, ho, he, hb => by
    simp only [backOk, Bool.and_eq_true] at h
    have := backOk_ok l (n + 1) j o' e h.2 (by simpa using ho) he hb
    omega

/-- The check: 'recs': what each operation touched, the last one first. -/
def ordOk (ops : Array Oper) (recs : List Rec) : Bool :=
  backOk 0 ops.toList && ordGo [] 0 (rowsOf ops ops.toList recs.reverse (masks [] 0 ops.toList).reverse)

section
variable {P : Program} {ops : Array Oper}

/-! ### Blocks that are read before or behind another one's writing -/
def wrR (r : Rec) (b : Nat) : Bool := r.fp.wr.contains b || inNew r b
/-- All that write b, from place k on, stand behind operation i (but for j). -/
def softLater (i j b : Nat) : Nat → List Row → Bool
  | _, [] => true
  | k, y :: ys => (Nat.ble k i || Nat.beq k j || !wrR y.rec_ b || y.mask.testBit i) && softLater i j b (k + 1) ys
/-- All that write b ahead of operation i must come ahead of it. -/
def softAhead (mask i b : Nat) : Nat → List Row → Bool
  | _, [] => true
  | k, y :: ys => (Nat.ble i k || !wrR y.rec_ b || mask.testBit k) && softAhead mask i b (k + 1) ys
/-- The first one behind i that writes b and need not stand behind it. -/
def softJ (i b : Nat) : Nat → List Row → Nat
  | k, [] => k
  | k, y :: ys => if Nat.blt i k && wrR y.rec_ b && !y.mask.testBit i then k else softJ i b (k + 1) ys
def outOf (r : Rec) (b : Nat) : Option Blk := (r.outs.find? (fun p => Nat.beq p.1 b)).map (·.2)
/-- What is left to be shown of the softly read: a block is as foretold. -/
def SoftOk (rows : List Row) : Nat → List Row → Prop
  | _, [] => True
  | i, y :: ys => (match y.rec_.sf with
    | none => True
    | some (b, x) => softAhead y.mask i b 0 rows = true ∧ softLater i (softJ i b 0 rows) b 0 rows = true ∧ i < softJ i b 0 rows ∧
      (∀ r, rows[softJ i b 0 rows]? = some r → outOf r.rec_ b = some x)) ∧ SoftOk rows (i + 1) ys

theorem softLater_ok {i j b : Nat} : ∀ (ys : List Row) (k0 : Nat), softLater i j b k0 ys = true → ∀ n y, ys[n]? = some y → i < k0 + n → k0 + n ≠ j → wrR y.rec_ b = true → y.mask.testBit i = true
  | [], _, _, n, y, h, _, _, _ => by simp at h
  | z :: zs, k0, h, n, y, hy, hi, hj, hw => by
    simp only [softLater, Bool.and_eq_true] at h
    cases n with
    | zero =>
      have e : z = y := by simpa using hy
      subst e
      have h1 := h.1
      rw [Nat.add_zero] at hi hj
      have e1 : Nat.ble k0 i = false := by
        cases hb : Nat.ble k0 i with
        | false => rfl
        | true => have := Nat.le_of_ble_eq_true hb; omega
      have e2 : Nat.beq k0 j = false := by
        cases hb : Nat.beq k0 j with
        | false => rfl
        | true => exact absurd (Nat.eq_of_beq_eq_true hb) hj
      rw [e1, e2, hw] at h1
      simpa using h1
    | succ n => exact softLater_ok zs (k0 + 1) h.2 n y (by simpa using hy) (by omega) (by omega) hw
theorem softAhead_ok {mask i b : Nat} : ∀ (ys : List Row) (k0 : Nat), softAhead mask i b k0 ys = true → ∀ n y, ys[n]? = some y → k0 + n < i → wrR y.rec_ b = true → mask.testBit (k0 + n) = true
  | [], _, _, n, y, h, _, _ => by simp at h
  | z :: zs, k0, h, n, y, hy, hi, hw => by
    simp only [softAhead, Bool.and_eq_true] at h
    cases n with
    | zero =>
      have e : z = y := by simpa using hy
      subst e
      have h1 := h.1
      rw [Nat.add_zero] at hi ⊢
      have e1 : Nat.ble i k0 = false := by
        cases hb : Nat.ble i k0 with
        | false => rfl
        | true => have := Nat.le_of_ble_eq_true hb; omega
      rw [e1, hw] at h1
      simpa using h1
    | succ n =>
      have := softAhead_ok zs (k0 + 1) h.2 n y (by simpa using hy) (by omega) hw
      rwa [show k0 + 1 + n = k0 + (n + 1) by omega] at this
theorem SoftOk.get {rows : List Row} : ∀ (ys : List Row) (i0 : Nat), SoftOk rows i0 ys → ∀ n y b x, ys[n]? = some y → y.rec_.sf = some (b, x) →
    softAhead y.mask (i0 + n) b 0 rows = true ∧ softLater (i0 + n) (softJ (i0 + n) b 0 rows) b 0 rows = true ∧ i0 + n < softJ (i0 + n) b 0 rows ∧ (∀ r, rows[softJ (i0 + n) b 0 rows]? = some r → outOf r.rec_ b = some x)
  | [], _, _, n, y, _, _, h, _ => by simp at h
  | z :: zs, i0, h, 0, y, b, x, hy, hs => by
    have e : z = y := by simpa using hy
    subst e
    have h1 := h.1
    rw [hs] at h1
    exact h1
  | z :: zs, i0, h, n + 1, y, b, x, hy, hs => by
    have := SoftOk.get zs (i0 + 1) h.2 n y b x (by simpa using hy) hs
    rwa [show i0 + 1 + n = i0 + (n + 1) by omega] at this

/-- Is nothing read softly? -/
def noSoft (recs : List Rec) : Bool := recs.all fun r => match r.sf with | none => true | some _ => false
def rowsAll (ops : Array Oper) (recs : List Rec) : List Row := rowsOf ops ops.toList recs.reverse (masks [] 0 ops.toList).reverse
theorem softOk_of_none : ∀ (ops : Array Oper) (l : List Oper) (rs : List Rec) (ks : List Nat) (rows : List Row) (i : Nat), rs.all (fun r => match r.sf with | none => true | some _ => false) = true → SoftOk rows i (rowsOf ops l rs ks)
  | _, [], _, _, _, _, _ => trivial
  | _, _ :: _, [], _, _, _, _ => trivial
  | _, _ :: _, _ :: _, [], _, _, _ => trivial
  | ops, o :: l, r :: rs, k :: ks, rows, i, h => by
    simp only [List.all_cons, Bool.and_eq_true] at h
    refine ⟨?_, softOk_of_none ops l rs ks rows (i + 1) h.2⟩
    have h1 := h.1
    show (match r.sf with | none => True | some (b, x) => _)
    cases hs : r.sf with
    | none => trivial
    | some p => rw [hs] at h1; cases h1
theorem noSoft_ok {ops : Array Oper} {recs : List Rec} (h : noSoft recs = true) : SoftOk (rowsAll ops recs) 0 (rowsAll ops recs) :=
  softOk_of_none ops _ _ _ _ 0 (by
    unfold noSoft at h
    rw [List.all_reverse]; exact h)

/-- What a row of the list says of a step. -/
def RecOk (r : Rec) (F : Fp) (lo hi : Nat) (sf : Option (Nat × Blk)) (m' : List Blk) : Prop := r.fp = F ∧ r.lo = lo ∧ r.hi = hi ∧ r.sf = sf ∧ ∀ p, p ∈ r.outs → m'.getD p.1 .gone = p.2

/-- Operations 0 .. i-1 of a region have been gone through. -/
def RegOk (P : Program) (ops : Array Oper) (a0 : List Value) (m0 : List Blk) (i : Nat) (a : List Value) (m : List Blk) (recs : List Rec) : Prop :=
  ∃ (A : Nat → List Value) (M : Nat → List Blk) (F : Nat → Fp) (SF : Nat → Option (Nat × Blk)), A 0 = a0 ∧ M 0 = m0 ∧ A i = a ∧ M i = m ∧ (∀ k, k < i → StepS P ops k (A k) (M k) (A (k + 1)) (M (k + 1)) (F k) (SF k)) ∧
    recs.length = i ∧ ∀ k, k < i → ∃ r, recs.reverse[k]? = some r ∧ RecOk r (F k) (M k).length (M (k + 1)).length (SF k) (M (k + 1))

theorem RegOk.start (a0 : List Value) (m0 : List Blk) : RegOk P ops a0 m0 0 a0 m0 [] :=
  ⟨fun _ => a0, fun _ => m0, fun _ => ⟨[], []⟩, fun _ => none, rfl, rfl, rfl, rfl, fun k hk => by omega, rfl, fun k hk => by omega⟩

theorem RegOk.nextS {a0 a a' : List Value} {m0 m m' : List Blk} {i : Nat} {recs : List Rec} {fp : Fp} {sf : Option (Nat × Blk)} {r : Rec} (h : RegOk P ops a0 m0 i a m recs) (hs : StepS P ops i a m a' m' fp sf) (hr : RecOk r fp m.length m'.length sf m') :
    RegOk P ops a0 m0 (i + 1) a' m' (r :: recs) := by
  obtain ⟨A, M, F, SF, h1, h2, h3, h4, h5, h6, h7⟩ := h
  refine ⟨fun k => if k ≤ i then A k else a', fun k => if k ≤ i then M k else m', fun k => if k < i then F k else fp, fun k => if k < i then SF k else sf, by simp [h1], by simp [h2], if_neg (by omega), if_neg (by omega), fun k hk => ?_, by simp [h6], fun k hk => ?_⟩
  · by_cases hki : k < i
    · have e1 : k ≤ i := by omega
      have e2 : k + 1 ≤ i := by omega
      simp only [e1, e2, hki, if_true]
      exact h5 k hki
    · have : k = i := by omega
      subst this
      have e2 : ¬ k + 1 ≤ k := by omega
      simp only [Nat.le_refl, e2, if_true, if_false, Nat.lt_irrefl, h3, h4]
      exact hs
  · by_cases hki : k < i
    · have e1 : k ≤ i := by omega
      have e2 : k + 1 ≤ i := by omega
      simp only [e1, e2, hki, if_true, List.reverse_cons]
      rw [List.getElem?_append_left (by simp; omega)]
      exact h7 k hki
    · have : k = i := by omega
      subst this
      have e2 : ¬ k + 1 ≤ k := by omega
      simp only [Nat.le_refl, e2, if_true, if_false, Nat.lt_irrefl, h4, List.reverse_cons]
      rw [List.getElem?_append_right (by simp [h6])]
      exact ⟨r, by simp [h6], hr⟩

theorem RegOk.next {a0 a a' : List Value} {m0 m m' : List Blk} {i : Nat} {recs : List Rec} {fp : Fp} (h : RegOk P ops a0 m0 i a m recs) (hs : StepAt P ops i a m a' m' fp) :
    RegOk P ops a0 m0 (i + 1) a' m' (rec3 fp m.length m'.length :: recs) := h.nextS (.hard hs) ⟨rfl, rfl, rfl, rfl, fun p hp => by cases hp⟩

/-- What a state of the canonical machine asks of a real one. -/
structure Rel (ι : Map) (a : List Value) (m : List Blk) (t : Array Value) (w : World) : Prop where
  size : a.length ≤ t.size
  slots : ∀ x, RV ι (a.getD x undef) (t.getD x undef)
  sim : Sim ι (at_ m) w
  dom : ∀ b, ι b ≠ none → b < m.length

theorem conflict_clash {M : Nat → List Blk} {F : Nat → Fp} {i j : Nat} {o o' : Oper} (ho : ops[i]? = some o) (ho' : ops[j]? = some o') {k k' : Nat} {s s' : Option (Nat × Blk)} {us us' : List (Nat × Blk)} (h : conflict ops M F i j) :
    clash ⟨slotsOf o ++ (guardSlot ops o).toList, o.dst, ⟨F i, (M i).length, (M (i + 1)).length, s, us⟩, k⟩ ⟨slotsOf o' ++ (guardSlot ops o').toList, o'.dst, ⟨F j, (M j).length, (M (j + 1)).length, s', us'⟩, k'⟩ = true := by
  have hd : dstOf ops i = o.dst := by simp [dstOf, ho]
  have hd' : dstOf ops j = o'.dst := by simp [dstOf, ho']
  have hr : rdS ops i = slotsOf o ++ (guardSlot ops o).toList := by simp [rdS, ho]
  have hr' : rdS ops j = slotsOf o' ++ (guardSlot ops o').toList := by simp [rdS, ho']
  unfold clash
  rcases h with ⟨x, h1, h2⟩ | ⟨x, h1, h2⟩ | ⟨b, h1, h2⟩ | ⟨b, h1, h2⟩
  · rw [hd] at h1
    rw [hr', hd'] at h2
    simp only [h1]
    rcases h2 with h2 | h2
    · have : (slotsOf o' ++ (guardSlot ops o').toList).contains x = true := by simpa using h2
      simp only [this, Bool.true_or]
    · simp [h2]
  · rw [hd'] at h1
    rw [hr] at h2
    simp only [h1]
    have : (slotsOf o ++ (guardSlot ops o).toList).contains x = true := by simpa using h2
    simp only [this, Bool.true_or, Bool.or_true]
  · simp only [wrB, Bool.or_eq_true, Bool.and_eq_true, decide_eq_true_eq, List.contains_eq_mem] at h1
    rw [hits_of (x := ⟨F i, (M i).length, (M (i + 1)).length, s, us⟩) (y := ⟨F j, (M j).length, (M (j + 1)).length, s', us'⟩) h1 h2]
    simp
  · simp only [wrB, Bool.or_eq_true, Bool.and_eq_true, decide_eq_true_eq, List.contains_eq_mem] at h1
    rw [hits_of (x := ⟨F j, (M j).length, (M (j + 1)).length, s', us'⟩) (y := ⟨F i, (M i).length, (M (i + 1)).length, s, us⟩) h1 h2]
    simp

/-- A REGION, GONE THROUGH: in whatever order. -/
theorem RegOk.wp {a0 a : List Value} {m0 m : List Blk} {recs : List Rec} {id : Nat} {draw : Bool} (hm : P.follows .mixedOrders = true) (h : RegOk P ops a0 m0 ops.size a m recs) (hord : draw = true → ordOk ops recs = true ∧ SoftOk (rowsAll ops recs) 0 (rowsAll ops recs))
    {ι : Map} {t : Array Value} {w : World} (hr : Rel ι a0 m0 t w) {Q : Exit → Act → World → Prop} (hQ : ∀ t' w' ι', Rel ι' a m t' w' → Ext ι (at_ m0) w ι' (at_ m) w' → Q .normal (act t') w') :
    (Code.region id ops draw).wp P Q (act t) w := by
  obtain ⟨A, M, F, SF, rfl, rfl, rfl, rfl, h5, h6, h7⟩ := h
  have lenA : ∀ k, k ≤ ops.size → (A k).length = (A 0).length := by
    intro k
    induction k with
    | zero => intro _; rfl
    | succ k ih => intro hk; rw [(step_facts (h5 k (by omega))).2.2.2.2.1]; exact ih (by omega)
  have fin : ∀ t' w' ι', (A 0).length ≤ t'.size → (∀ x, RV ι' ((A ops.size).getD x undef) (t'.getD x undef)) → Sim ι' (at_ (M ops.size)) w' → (∀ b, ι' b ≠ none → b < (M ops.size).length) →
      Ext ι (at_ (M 0)) w ι' (at_ (M ops.size)) w' → Q .normal (act t') w' := fun t' w' ι' h1 h2 h3 h4 h5 => hQ t' w' ι' ⟨by rw [lenA _ (Nat.le_refl _)]; exact h1, h2, h3, h4⟩ h5
  cases draw with
  | false => exact wp_region (region_seq h5 hr.size hr.slots hr.sim hr.dom fin)
  | true =>
    obtain ⟨hord, hsoft⟩ := hord rfl
    simp only [ordOk, Bool.and_eq_true] at hord
    have hmask := masks_ok (ops := ops) ops.toList [] 0 ⟨rfl, fun j i hj => by omega⟩ (fun k => by simp)
    simp only [Array.length_toList, Nat.zero_add] at hmask
    have gi : ∀ k, k < ops.size → (masks [] 0 ops.toList).reverse[k]? = some ((masks [] 0 ops.toList).getD (ops.size - 1 - k) 0) := fun k hk => by
      rw [List.getElem?_reverse (by rw [hmask.1]; exact hk), hmask.1, List.getD_eq_getElem?_getD]
      have : ops.size - 1 - k < (masks [] 0 ops.toList).length := by rw [hmask.1]; omega
      simp [this]
    have row : ∀ k, k < ops.size → ∃ r, RecOk r (F k) (M k).length (M (k + 1)).length (SF k) (M (k + 1)) ∧
        (rowsAll ops recs)[k]? = some ⟨slotsOf (ops.getD k default) ++ (guardSlot ops (ops.getD k default)).toList, (ops.getD k default).dst, r, (masks [] 0 ops.toList).getD (ops.size - 1 - k) 0⟩ := fun k hk => by
      obtain ⟨r, hr1, hr2⟩ := h7 k hk
      exact ⟨r, hr2, rowsOf_get (ops := ops) ops.toList recs.reverse (masks [] 0 ops.toList).reverse k (ops.getD k default) r _ (by simp [hk]) hr1 (gi k hk)⟩
    refine region_draw hm h5 (fun j o e ho he hb => ?_) (fun i j hij hj hc => ?_) (fun i b x hi hs => ?_) hr.size hr.slots hr.sim hr.dom fin
    · have := backOk_ok ops.toList 0 j o e hord.1 (by simpa using ho) he hb
      omega
    · have hi : i < ops.size := by omega
      obtain ⟨r1, ⟨e1, e2, e3, _⟩, ri⟩ := row i hi
      obtain ⟨r2, ⟨e5, e6, e7, _⟩, rj⟩ := row j hj
      have := ordGo_ok _ [] 0 rfl hord.2 i j _ _ hij (by exact ri) (by exact rj) (by omega) (by
        have := conflict_clash (k := (masks [] 0 ops.toList).getD (ops.size - 1 - i) 0) (k' := (masks [] 0 ops.toList).getD (ops.size - 1 - j) 0) (s := r1.sf) (us := r1.outs) (s' := r2.sf) (us' := r2.outs) (o := ops.getD i default) (o' := ops.getD j default) (by simp [hi]) (by simp [hj]) hc
        rw [← e1, ← e2, ← e3, ← e5, ← e6, ← e7] at this
        exact this)
      exact hmask.2 j i hj this
    · obtain ⟨r1, ⟨e1, e2, e3, e4, _⟩, ri⟩ := row i hi
      have hS := SoftOk.get _ 0 hsoft i _ b x ri (by rw [← hs, ← e4])
      simp only [Nat.zero_add] at hS
      obtain ⟨s1, s2, s3, s4⟩ := hS
      have wr : ∀ k, k < ops.size → ∀ r, RecOk r (F k) (M k).length (M (k + 1)).length (SF k) (M (k + 1)) → wrB M F b k = true → wrR r b = true := fun k _ r ⟨f1, f2, f3, _⟩ hw => by
        simp only [wrB, Bool.or_eq_true, Bool.and_eq_true, decide_eq_true_eq] at hw
        unfold wrR
        rw [Bool.or_eq_true, f1]
        rcases hw with hw | ⟨hw1, hw2⟩
        · exact .inl hw
        · right
          unfold inNew
          rw [f2, f3, Nat.ble_eq_true_of_le hw1, Nat.blt, Nat.ble_eq_true_of_le (Nat.succ_le_of_lt hw2)]; rfl
      refine ⟨fun k hk hw => ?_, _, s3, fun k hk hks hkj hw => ?_, fun hj => ?_⟩
      · obtain ⟨rk, hrk, gk⟩ := row k (by omega)
        have := softAhead_ok _ 0 s1 k _ gk (by omega) (wr k (by omega) rk hrk hw)
        rw [Nat.zero_add] at this
        exact hmask.2 i k hi this
      · obtain ⟨rk, hrk, gk⟩ := row k hks
        have := softLater_ok _ 0 s2 k _ gk (by omega) (by omega) (wr k hks rk hrk hw)
        exact hmask.2 k i hks this
      · obtain ⟨rk, ⟨_, _, _, _, hout⟩, gk⟩ := row _ hj
        have h1 := s4 _ gk
        unfold outOf at h1
        rw [Option.map_eq_some_iff] at h1
        obtain ⟨p, hp, rfl⟩ := h1
        have h2 := hout p (List.mem_of_find?_eq_some hp)
        have h3 := List.find?_some hp
        have h4 : p.1 = b := Nat.eq_of_beq_eq_true h3
        rw [h4] at h2; exact h2

end

end

end Go.Dt
