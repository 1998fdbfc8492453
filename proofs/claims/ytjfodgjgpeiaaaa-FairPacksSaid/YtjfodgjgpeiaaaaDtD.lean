/- Operations over canonical memories: maps. -/
import Derived.Test.YtjfodgjgpeiaaaaDtC
import Derived.WideKeyRuns
namespace Go.Dt
open Go.Instr

section
variable {P : Program} {o : Oper} {a : List Value} {m : List Blk}

/-- What the search for a key among keys finds, in whatever world. -/
structure Finds (P : Program) (kt : TypeId) (key : Value) (ks : List Value) (r : Option Nat) : Prop where
  may : ∀ em w, (checkKey em 10000 kt key).run P w = .ok () w
  find : ∀ (es : List MapEntry), es.map (·.key) = ks → ∀ w, (findKey kt key es).run P w = .ok (r.bind fun i => (es[i]?).map fun e => (i, e.val)) w

def EntriesOk (ι : Map) (es : List MapEntry) (es' : Array MapEntry) : Prop := es.length = es'.size ∧ ∀ (i : Nat) (e e' : MapEntry), es[i]? = some e → es'[i]? = some e' → EntryOk ι e e'

theorem EntriesOk.keys {ι : Map} {es : List MapEntry} {es' : Array MapEntry} (h : EntriesOk ι es es') (hp : plains (es.map (·.key)) = true) : es'.toList.map (·.key) = es.map (·.key) := by
  apply List.ext_getElem?
  intro i
  rw [List.getElem?_map, List.getElem?_map]
  by_cases hi : i < es.length
  · have hi' : i < es'.size := by rw [← h.1]; exact hi
    have e1 : es[i]? = some es[i] := List.getElem?_eq_getElem hi
    have e2 : es'[i]? = some es'[i] := by simp [hi']
    have e2' : es'.toList[i]? = some es'[i] := by simp [hi']
    have := (h.2 i _ _ e1 e2).1
    have hpl : plain es[i].key = true := by
      have := plains_get (i := i) hp (by simpa using hi)
      simpa [List.getD_eq_getElem?_getD, List.getElem?_map, e1] using this
    rw [e1, e2', Option.map_some, Option.map_some, this.eq_of_plain hpl]
  · have := h.1
    rw [List.getElem?_eq_none (by simp only [Array.length_toList]; omega), List.getElem?_eq_none (by omega)]

theorem Finds.real {kt : TypeId} {key : Value} {es : List MapEntry} {r : Option Nat} (h : Finds P kt key (es.map (·.key)) r) {ι : Map} {es' : Array MapEntry} (he : EntriesOk ι es es') (hp : plains (es.map (·.key)) = true) (w : World) :
    (findKey kt key es'.toList).run P w = .ok (r.bind fun i => (es'[i]?).map fun e => (i, e.val)) w := by
  have := h.find es'.toList (he.keys hp) w
  simpa using this

theorem getMap_run {w : World} {r : Nat} {es : Array MapEntry} {clock : Nat} (hb : w.heap[r]? = some (.map es clock)) : (getObj r).run P w = .ok (.map es clock) w := by
  simp [getObj, Sem.run, hb]
theorem setMap_run {w : World} {r : Nat} {es : Array MapEntry} {clock : Nat} (o : Obj) (hb : w.heap[r]? = some (.map es clock)) : (setObj r o).run P w = .ok () { w with heap := w.heap.setIfInBounds r o } := by
  simp [setObj, Sem.run, hb]

def lookV (ok : Bool) (v : Value) (is : Bool) : Value := bif ok then .tuple #[v, .bool is] else v

theorem lookV_rv {ι : Map} {v v' : Value} (ok is : Bool) (h : RV ι v v') : RV ι (lookV ok v is) (lookV ok v' is) := by
  cases ok
  · exact h
  · refine .tuple (by rfl) fun i => ?_
    rcases i with _ | _ | i
    · exact h
    · exact .bool is
    · exact .any _

def gotC (z : Value) (es : List MapEntry) (r : Option Nat) : Value × Bool := match r.bind (es[·]?) with
  | some e => (e.val, true)
  | none => (z, false)

theorem zero_run {et : TypeId} {z : Value} (hz : (P.info? et).bind (·.zero) = some z) (w : World) : (zeroValue et).run P w = .ok z w := by
  cases hi : P.info? et with
  | none => simp [hi] at hz
  | some i =>
    simp only [hi, Option.bind_some] at hz
    simp [zeroValue, run_info hi, hz]

theorem OpOk.lookupM {t kt et : TypeId} {x ix : Operand} {ok : Bool} {b ck : Nat} {es : List MapEntry} {key z : Value} {r : Option Nat} (ho : o.op = .lookup t x ix ok) (hc : okConst x = true) (hc2 : okConst ix = true)
    (hx : evalC a x = .map (some b)) (hk : evalC a ix = key) (hkp : plain key = true) (hb : m[b]? = some (.map es ck)) (hu : P.underlying t = some (.map kt et)) (hpk : plains (es.map (·.key)) = true)
    (hf : Finds P kt key (es.map (·.key)) r) (hz : (P.info? et).bind (·.zero) = some z) (hzp : plain z = true) :
    OpOk P o a m (lookV ok (gotC z es r).1 (gotC z es r).2) m ⟨[b], []⟩ := by
  have hblt : b < m.length := (List.getElem?_eq_some_iff.1 hb).1
  refine OpOk.reads (by simpa using hblt) fun ι tt w hs hbl => ?_
  have h := rv_operand hs (x := x) (by rw [ho]; simp [Op.operands]) hc
  rw [hx] at h
  have h2 := rv_operand hs (x := ix) (by rw [ho]; simp [Op.operands]) hc2
  rw [hk] at h2
  have h2 := h2.eq_of_plain hkp
  have := hbl b (by simp)
  rw [show m.getD b .gone = .map es ck by simp [List.getD_eq_getElem?_getD, hb]] at this
  obtain ⟨L, es', hL, hh, hlen, hent⟩ := this
  generalize hy : (act tt).eval x = y at h
  cases h with
  | map hL' =>
    rw [hL] at hL'; cases hL'
    have hreal := hf.real (ι := ι) (es' := es') ⟨hlen, hent⟩ hpk w
    have hmay := fun em => hf.may em w
    have key_ : ∃ v', RV ι (gotC z es r).1 v' ∧ (lookup t (.map (some L.blk)) key ok).run P w = .ok (lookV ok v' (gotC z es r).2) w := by
      unfold gotC
      have hzr := zero_run hz w
      cases hr : r.bind (es[·]?) with
      | none =>
        have hn : (r.bind fun i => (es'[i]?).map fun e => (i, e.val)) = none := by
          cases r with
          | none => rfl
          | some i =>
            simp only [Option.bind_some] at hr ⊢
            rw [List.getElem?_eq_none_iff] at hr
            rw [Array.getElem?_eq_none (by omega)]; rfl
        rw [hn] at hreal
        refine ⟨z, RV.refl _ _ hzp, ?_⟩
        simp [lookup, run_underlying hu, Result.andThen, getMap_run hh, hmay, hreal, hzr]
        cases ok <;> simp [lookV]
      | some e =>
        cases r with
        | none => cases hr
        | some i =>
          simp only [Option.bind_some] at hr
          have hi := (List.getElem?_eq_some_iff.1 hr).1
          have e2 : es'[i]? = some es'[i] := by simp [← hlen, hi]
          simp only [Option.bind_some, e2, Option.map_some] at hreal
          refine ⟨es'[i].val, (hent i _ _ hr e2).2.1, ?_⟩
          simp [lookup, run_underlying hu, Result.andThen, getMap_run hh, hmay, hreal]
          cases ok <;> simp [lookV]
    obtain ⟨v', hv', hrun⟩ := key_
    refine ⟨_, lookV_rv ok _ hv', ?_⟩
    unfold execOp; rw [ho]
    simp [hy, ← h2, hrun, Result.andThen]

def resD (a : List Value) (x : Option Operand) : Bool := match x with | none => true | some y => okConst y && (match evalC a y with | .int _ _ => true | _ => false)
def mapT (P : Program) (t : TypeId) : Bool := match P.underlying t with | some (.map _ _) => true | _ => false
/-- A new map. -/
theorem OpOk.makeMapE {t : TypeId} {x : Option Operand} (ho : o.op = .makeMap t x) (hx : resD a x = true) (hu : mapT P t = true) :
    OpOk P o a m (.map (some m.length)) (m ++ [.map [] 0]) ⟨[], []⟩ where
  len := by simp
  sub := by simp
  rdlt := by simp
  same := fun b hb _ => getD_append_old _ _ hb
  run := fun ι t' w hs hdom hsim next Q hn => by
    have hι : ι m.length = none := hdom m.length (Nat.le_refl _) (by simp)
    have hC : ∀ b, ((at_ (m ++ [Blk.map [] 0])).only (tch [] m.length (m ++ [Blk.map [] 0]).length)) b = if b = m.length then .map [] 0 else .gone := fun b => by
      simp only [Cont.only, tch, at_, List.contains_nil, Bool.false_or, List.length_append, List.length_cons, List.length_nil, Bool.and_eq_true, decide_eq_true_eq]
      by_cases hb : b = m.length
      · subst hb; simp [List.getD_eq_getElem?_getD]
      · rw [if_neg hb, if_neg (by omega)]
    have hw : (w.heap.push (Obj.map #[] 0))[w.heap.size]? = some (.map #[] 0) := by simp
    have hloc : ∀ b L, (if b = m.length then Blk.map [] 0 else .gone).live = true → (upd ι m.length ⟨w.heap.size, 0, 0, 0, false⟩) b = some L → L.blk = w.heap.size := fun b L hl hL => by
      split at hl
      · rename_i hb; subst hb; rw [upd_self] at hL; cases hL; rfl
      · cases hl
    have hrun : (execOp (act t').eval o).run P w = .ok (.value (.map (some w.heap.size))) { w with heap := w.heap.push (.map #[] 0) } := by
      unfold execOp; rw [ho]
      cases x with
      | none => simp [makeMap, newObj, Sem.run]
      | some y =>
        simp only [resD, Bool.and_eq_true] at hx
        have h := rv_operand hs (x := y) (by rw [ho]; simp [Op.operands]) hx.1
        have hx2 := hx.2
        split at hx2
        · rename_i k n he
          rw [he] at h
          have h := h.int_inv
          unfold mapT at hu
          split at hu
          · rename_i kt et hu'
            simp [makeMap, h, run_underlying hu' w, newObj, Sem.run, asInt, asIntOf]
          · cases hu
        · cases hx2
    refine wp_of_value hrun (hn _ _ (upd ι m.length ⟨w.heap.size, 0, 0, 0, false⟩) (.map (upd_self _ _ _)) ⟨upd_le hι, by simp, rfl, rfl, rfl, fun k hk _ => ?_, fun k => ?_, fun k => ?_, fun _ _ h => .inl h⟩ ⟨fun b => ?_, fun b b2 L L2 hne ho' hl => ?_, fun r c hr => ?_, fun b L r c ho' hL hr => ?_⟩ (fun b h1 h2 => ?_))
    · simp only [Array.getElem?_push]; rw [if_neg (by omega)]
    · rintro ⟨b, L, ho', hL, hk⟩
      rw [hC] at ho'
      exact .inr (by rw [← hk, hloc b L (Blk.live_of_own ho') hL]; exact Nat.le_refl _)
    · rintro ⟨b, L, ho', hL, hk⟩
      rw [hC] at ho'
      exact .inr (by rw [← hk, hloc b L ho' hL]; exact Nat.le_refl _)
    · rw [hC]
      split
      · rename_i hb; subst hb
        exact ⟨_, #[], upd_self _ _ _, hw, rfl, fun i e e' h1 _ => by simp at h1⟩
      · trivial
    · rw [hC] at ho' hl
      split at ho'
      · split at hl
        · rename_i h1 h2; exact absurd (h1.trans h2.symm) hne
        · cases hl
      · cases ho'
    · obtain ⟨t, fz, h⟩ := hsim.fro r c hr
      have hlt := (Array.getElem?_eq_some_iff.1 h).1
      refine ⟨t, fz, ?_⟩
      show (w.heap.push _)[r]? = _
      rw [Array.getElem?_push, if_neg (by omega)]; exact h
    · rw [hC] at ho'
      obtain ⟨t, fz, h⟩ := hsim.fro r c hr
      have hlt := (Array.getElem?_eq_some_iff.1 h).1
      rw [hloc b L (Blk.live_of_own ho') hL]
      omega
    · by_cases hb : b = m.length
      · subst hb; simp
      · rw [upd_ne hb] at h2; exact absurd h1 h2

/-- Writes a map. -/
theorem OpOk.writesMap {b ck ck2 : Nat} {es es2 : List MapEntry} {v : Value} (hb : m.getD b .gone = .map es ck) (hblt : b < m.length)
    (h : ∀ (ι : Map) (t : Array Value) (w : World) (L : Loc) (es' : Array MapEntry), (∀ x, x ∈ slotsOf o → RV ι (a.getD x undef) (t.getD x undef)) → ι b = some L →
      w.heap[L.blk]? = some (.map es' ck) → EntriesOk ι es es' →
      ∃ es2' : Array MapEntry, EntriesOk ι es2 es2' ∧
        ∃ r v', (execOp (act t).eval o).run P w = .ok r { w with heap := w.heap.setIfInBounds L.blk (.map es2' ck2) } ∧ RV ι v v' ∧ (r = .value v' ∨ (r = .skip ∧ v' = undef))) :
    OpOk P o a m v (m.set b (.map es2 ck2)) ⟨[b], [b]⟩ where
  len := by simp
  sub := by simp
  rdlt := by simpa using hblt
  same := fun x _ hn => by
    have hne : b ≠ x := fun e => hn (by simp [e])
    simp [List.getD_eq_getElem?_getD, List.getElem?_set_ne hne]
  run := fun ι t w hs _ hsim next Q hn => by
    have hB := hsim.blk b
    have hC : ∀ x, ((at_ m).only (isIn [b])) x = if x = b then .map es ck else .gone := fun x => by
      simp only [Cont.only, isIn, at_]
      by_cases hx : x = b
      · subst hx; simp only [List.contains_cons, beq_self_eq_true, List.contains_nil, Bool.or_false, if_true]; exact hb
      · simp [hx]
    have hC' : ∀ x, ((at_ (m.set b (.map es2 ck2))).only (tch [b] m.length (m.set b (.map es2 ck2)).length)) x = if x = b then .map es2 ck2 else .gone := fun x => by
      simp only [List.length_set, tch_self, Cont.only, isIn, at_]
      by_cases hx : x = b
      · subst hx; simp [List.getD_eq_getElem?_getD, hblt]
      · simp [hx]
    rw [hC, if_pos rfl] at hB
    obtain ⟨L, es', hL, hh, hlen, hent⟩ := hB
    obtain ⟨es2', h1, r, v', hr, hv, hrv⟩ := h ι t w L es' hs hL hh ⟨hlen, hent⟩
    have hlt : L.blk < w.heap.size := (Array.getElem?_eq_some_iff.1 hh).1
    have k1 : Ext ι ((at_ m).only (isIn [b])) w ι ((at_ (m.set b (.map es2 ck2))).only (tch [b] m.length (m.set b (.map es2 ck2)).length)) { w with heap := w.heap.setIfInBounds L.blk (.map es2' ck2) } := by
      refine ⟨Le.refl _, by simp, rfl, rfl, rfl, fun k hk hn => ?_, fun k => ?_, fun k => ?_, fun _ _ h => .inl h⟩
      · have hne : L.blk ≠ k := fun e => hn ⟨b, L, by rw [hC]; simp [Blk.own], hL, e⟩
        exact Array.getElem?_setIfInBounds_ne hne
      · rintro ⟨x, K, ho, hK, hk⟩
        rw [hC'] at ho
        split at ho
        · rename_i hx; exact .inl ⟨x, K, by rw [hC, if_pos hx]; rfl, hK, hk⟩
        · cases ho
      · rintro ⟨x, K, ho, hK, hk⟩
        rw [hC'] at ho
        split at ho
        · rename_i hx; exact .inl ⟨x, K, by rw [hC, if_pos hx]; rfl, hK, hk⟩
        · cases ho
    have k2 : Sim ι ((at_ (m.set b (.map es2 ck2))).only (tch [b] m.length (m.set b (.map es2 ck2)).length)) { w with heap := w.heap.setIfInBounds L.blk (.map es2' ck2) } := by
      have hownb : (((at_ m).only (isIn [b])) b).own = true := by rw [hC, if_pos rfl]; rfl
      refine ⟨fun x => ?_, fun x x2 K K2 hne ho hl => ?_, fun r c hr => ?_, fun x K r c ho hK hr => ?_⟩
      · rw [hC']
        split
        · rename_i hx; subst hx
          exact ⟨L, es2', hL, by simp [hlt], h1.1, h1.2⟩
        · trivial
      · rw [hC'] at ho hl
        split at ho
        · split at hl
          · rename_i h1 h2; exact absurd (h1.trans h2.symm) hne
          · cases hl
        · cases ho
      · obtain ⟨t, fz, h⟩ := hsim.fro r c hr
        exact ⟨t, fz, by simp only; rw [Array.getElem?_setIfInBounds_ne (hsim.apart b L r c hownb hL hr)]; exact h⟩
      · rw [hC'] at ho
        split at ho
        · rename_i hx; subst hx; exact hsim.apart x K r c hownb hK hr
        · cases ho
    rcases hrv with rfl | ⟨rfl, rfl⟩
    · exact wp_of_value hr (hn v' _ _ hv k1 k2 (fun _ h1 h2 => absurd h1 h2))
    · exact wp_of_skip hr (hn undef _ _ hv k1 k2 (fun _ h1 h2 => absurd h1 h2))

theorem EntriesOk.push {ι : Map} {es : List MapEntry} {es' : Array MapEntry} (h : EntriesOk ι es es') {e e' : MapEntry} (he : EntryOk ι e e') : EntriesOk ι (es ++ [e]) (es'.push e') := by
  refine ⟨by simp [h.1], fun i x x' h1 h2 => ?_⟩
  by_cases hi : i < es.length
  · rw [List.getElem?_append_left hi] at h1
    rw [Array.getElem?_push, if_neg (by have := h.1; omega)] at h2
    exact h.2 i x x' h1 h2
  · rw [List.getElem?_append_right (by omega)] at h1
    rw [Array.getElem?_push] at h2
    split at h2
    · rename_i hi'
      have : i - es.length = 0 := by have := h.1; omega
      rw [this] at h1
      simp at h1
      cases h1; cases h2; exact he
    · have : i < es'.size := by
        have := (Array.getElem?_eq_some_iff.1 h2).1
        exact this
      have := h.1
      omega

theorem modify_get (es : Array MapEntry) (i j : Nat) (f : MapEntry → MapEntry) : (es.modify i f)[j]? = if i = j then (es[j]?).map f else es[j]? := by
  rw [Array.getElem?_modify]

/-- Of an entry, value and mark (a new one where there is none). -/
theorem OpOk.mapEntryNew {t kt et : TypeId} {x ix : Operand} {b ck : Nat} {es : List MapEntry} {key z : Value} (ho : o.op = .mapEntry t x ix) (hc : okConst x = true) (hc2 : okConst ix = true)
    (hx : evalC a x = .map (some b)) (hk : evalC a ix = key) (hkp : plain key = true) (hb : m[b]? = some (.map es ck)) (hu : P.underlying t = some (.map kt et)) (hpk : plains (es.map (·.key)) = true)
    (hf : Finds P kt key (es.map (·.key)) none) (hz : (P.info? et).bind (·.zero) = some z) (hzp : plain z = true) :
    OpOk P o a m (.tuple #[z, .int .i64 ck]) (m.set b (.map (es ++ [⟨key, z, ck⟩]) (ck + 1))) ⟨[b], [b]⟩ := by
  have hblt : b < m.length := (List.getElem?_eq_some_iff.1 hb).1
  refine OpOk.writesMap (es := es) (ck := ck) (by simp [List.getD_eq_getElem?_getD, hb]) hblt fun ι tt w L es' hs hL hh hent => ?_
  have h := rv_operand hs (x := x) (by rw [ho]; simp [Op.operands]) hc
  rw [hx] at h
  have h2 := rv_operand hs (x := ix) (by rw [ho]; simp [Op.operands]) hc2
  rw [hk] at h2
  have h2 := h2.eq_of_plain hkp
  generalize hy : (act tt).eval x = y at h
  cases h with
  | map hL' =>
    rw [hL] at hL'; cases hL'
    have hreal := hf.real hent hpk w
    refine ⟨es'.push ⟨key, z, ck⟩, hent.push ⟨RV.refl _ _ hkp, RV.refl _ _ hzp, rfl⟩, _, .tuple #[z, .int .i64 ck], ?_, RV.tuple rfl fun i => ?_, .inl rfl⟩
    · unfold execOp; rw [ho]
      simp [hy, ← h2, mapEntry, run_underlying hu, Result.andThen, getMap_run hh, hf.may, hreal, zero_run hz, setMap_run _ hh, goInt]
    · rcases i with _ | _ | i
      · exact RV.refl _ _ hzp
      · exact .int _ _
      · exact .any _

theorem OpOk.mapEntryOld {t kt et : TypeId} {x ix : Operand} {b ck i : Nat} {es : List MapEntry} {key : Value} {e : MapEntry} (ho : o.op = .mapEntry t x ix) (hc : okConst x = true) (hc2 : okConst ix = true)
    (hx : evalC a x = .map (some b)) (hk : evalC a ix = key) (hkp : plain key = true) (hb : m[b]? = some (.map es ck)) (hu : P.underlying t = some (.map kt et)) (hpk : plains (es.map (·.key)) = true)
    (hf : Finds P kt key (es.map (·.key)) (some i)) (he : es[i]? = some e) (hke : e.key = key) (hsb : sameBits 10000 key key = true) :
    OpOk P o a m (.tuple #[e.val, .int .i64 e.born]) (m.set b (.map es ck)) ⟨[b], [b]⟩ := by
  have hblt : b < m.length := (List.getElem?_eq_some_iff.1 hb).1
  refine OpOk.writesMap (es := es) (ck := ck) (by simp [List.getD_eq_getElem?_getD, hb]) hblt fun ι tt w L es' hs hL hh hent => ?_
  have h := rv_operand hs (x := x) (by rw [ho]; simp [Op.operands]) hc
  rw [hx] at h
  have h2 := rv_operand hs (x := ix) (by rw [ho]; simp [Op.operands]) hc2
  rw [hk] at h2
  have h2 := h2.eq_of_plain hkp
  generalize hy : (act tt).eval x = y at h
  have hi := (List.getElem?_eq_some_iff.1 he).1
  have e2 : es'[i]? = some (es'[i]'(by rw [← hent.1]; exact hi)) := by simp
  have hee := hent.2 i _ _ he e2
  have hkk : (es'[i]'(by rw [← hent.1]; exact hi)).key = key := by
    have := hee.1.eq_of_plain (by rw [hke]; exact hkp)
    rw [← this, hke]
  cases h with
  | map hL' =>
    rw [hL] at hL'; cases hL'
    have hreal := hf.real hent hpk w
    simp only [Option.bind_some, e2, Option.map_some] at hreal
    refine ⟨es'.modify i fun e => { e with key := key }, ⟨by simp [hent.1], fun j x x' h1 h3 => ?_⟩, _, .tuple #[(es'[i]'(by rw [← hent.1]; exact hi)).val, .int .i64 e.born], ?_, RV.tuple rfl fun j => ?_, .inl rfl⟩
    · rw [modify_get] at h3
      split at h3
      · rename_i hij; subst hij
        rw [e2, Option.map_some] at h3
        cases h3
        rw [he] at h1; cases h1
        exact ⟨by rw [hke]; exact RV.refl _ _ hkp, hee.2.1, hee.2.2⟩
      · exact hent.2 j x x' h1 h3
    · unfold execOp; rw [ho]
      simp [hy, ← h2, mapEntry, run_underlying hu, Result.andThen, getMap_run hh, hf.may, hreal, keyThatStays, e2, hkk, hsb, setMap_run _ hh, goInt, hee.2.2]
    · rcases j with _ | _ | j
      · exact hee.2.1
      · exact .int _ _
      · exact .any _

theorem findIdx_arr (es : Array MapEntry) (p : MapEntry → Bool) : es.findIdx? p = es.toList.findIdx? p := by cases es; simp

/-- A value is laid into the entry of a mark. -/
theorem OpOk.entryStoreM {t : TypeId} {x ix y : Operand} {b ck i : Nat} {k : IntKind} {n : Int} {es : List MapEntry} {v : Value} {e : MapEntry} (ho : o.op = .entryStore t x ix y) (hc : okConst x = true) (hc2 : okConst ix = true) (hc3 : okConst y = true)
    (hx : evalC a x = .map (some b)) (hk : evalC a ix = .int k n) (hv : evalC a y = v) (hb : m[b]? = some (.map es ck)) (hi : es.findIdx? (fun e => (e.born : Int) == n) = some i) (he : es[i]? = some e) :
    OpOk P o a m undef (m.set b (.map (es.set i { e with val := v }) ck)) ⟨[b], [b]⟩ := by
  have hblt : b < m.length := (List.getElem?_eq_some_iff.1 hb).1
  refine OpOk.writesMap (es := es) (ck := ck) (by simp [List.getD_eq_getElem?_getD, hb]) hblt fun ι tt w L es' hs hL hh hent => ?_
  have h := rv_operand hs (x := x) (by rw [ho]; simp [Op.operands]) hc
  rw [hx] at h
  have h2 := rv_operand hs (x := ix) (by rw [ho]; simp [Op.operands]) hc2
  rw [hk] at h2
  have h2 := h2.int_inv
  have h3 := rv_operand hs (x := y) (by rw [ho]; simp [Op.operands]) hc3
  rw [hv] at h3
  generalize hy : (act tt).eval x = z at h
  have hilt := (List.getElem?_eq_some_iff.1 he).1
  have hfi : es'.findIdx? (fun e => (e.born : Int) == n) = some i := by
    have e1 : es'.toList.map (·.born) = es.map (·.born) := by
      apply List.ext_getElem?
      intro j
      rw [List.getElem?_map, List.getElem?_map]
      by_cases hj : j < es.length
      · have hj' : j < es'.size := by rw [← hent.1]; exact hj
        have e1 : es[j]? = some es[j] := List.getElem?_eq_getElem hj
        have e2 : es'[j]? = some es'[j] := by simp [hj']
        have e2' : es'.toList[j]? = some es'[j] := by simp [hj']
        rw [e1, e2', Option.map_some, Option.map_some, (hent.2 j _ _ e1 e2).2.2]
      · have := hent.1
        rw [List.getElem?_eq_none (by simp only [Array.length_toList]; omega), List.getElem?_eq_none (by omega)]
    have e3 : es'.toList.findIdx? (fun e => (e.born : Int) == n) = (es'.toList.map (fun e : MapEntry => e.born)).findIdx? (fun b : Nat => (b : Int) == n) := by rw [List.findIdx?_map]; rfl
    have e4 : es.findIdx? (fun e => (e.born : Int) == n) = (es.map (fun e : MapEntry => e.born)).findIdx? (fun b : Nat => (b : Int) == n) := by rw [List.findIdx?_map]; rfl
    have e5 : es'.findIdx? (fun e => (e.born : Int) == n) = es'.toList.findIdx? (fun e => (e.born : Int) == n) := findIdx_arr es' _
    rw [e5, e3, e1, ← e4, hi]
  cases h with
  | map hL' =>
    rw [hL] at hL'; cases hL'
    refine ⟨es'.modify i fun e => { e with val := (act tt).eval y }, ⟨by simp [hent.1], fun j x x' h1 h4 => ?_⟩, .skip, undef, ?_, .any _, .inr ⟨rfl, rfl⟩⟩
    · rw [modify_get] at h4
      split at h4
      · rename_i hij; subst hij
        rw [List.getElem?_set_self hilt] at h1
        cases h1
        cases h5 : es'[i]? with
        | none => rw [h5] at h4; cases h4
        | some e' =>
          rw [h5, Option.map_some] at h4
          cases h4
          have := hent.2 i _ _ he h5
          exact ⟨this.1, h3, this.2.2⟩
      · rename_i hij
        rw [List.getElem?_set_ne hij] at h1
        exact hent.2 j x x' h1 h4
    · unfold execOp; rw [ho]
      simp [hy, h2, entryStore, getMap_run hh, Result.andThen, asInt, asIntOf, hfi, setMap_run _ hh]

/-! ### Keys -/
theorem findNow_eq {d : TypeDesc} {key : Value} {f : Value → Bool} : ∀ (es : List MapEntry) (j : Nat), (∀ e, e ∈ es → sameNow d key e.key = some (f e.key)) → findNow d key es j = some (((es.map (·.key)).findIdx? f).bind fun i => (es[i]?).map fun e => (i + j, e.val))
  | [], j, _ => rfl
  | e :: es, j, h => by
    unfold findNow
    rw [h e (by simp), List.map_cons, List.findIdx?_cons]
    cases hxy : f e.key with
    | true => simp
    | false =>
      simp only [Bool.false_eq_true, if_false]
      rw [findNow_eq es (j + 1) (fun x hx => h x (by simp [hx]))]
      congr 1
      cases (es.map (·.key)).findIdx? f with
      | none => rfl
      | some i =>
        simp only [Option.bind_some, Option.map_some, List.getElem?_cons_succ]
        congr 1
        funext e
        rw [show i + (j + 1) = i + 1 + j by omega]

theorem Finds.now {kt : TypeId} {d : TypeDesc} {key : Value} {ks : List Value} {f : Value → Bool} (hu : P.underlying kt = some d) (hm : ∀ em w, (checkKey em 10000 kt key).run P w = .ok () w)
    (hk : ∀ k, k ∈ ks → sameNow d key k = some (f k)) : Finds P kt key ks (ks.findIdx? f) where
  may := hm
  find := fun es he w => by
    have := findNow_eq (d := d) (key := key) (f := f) es 0 (fun e hx => hk e.key (by rw [← he]; exact List.mem_map_of_mem hx))
    rw [he] at this
    simp [findKey, run_underlying hu, Result.andThen, this]

theorem int_may {kt : TypeId} {k kk : IntKind} {x : Int} (hu : P.underlying kt = some (.int k)) (em : Bool) (w : World) : (checkKey em 10000 kt (.int kk x)).run P w = .ok () w := by
  have : ∀ n, (checkKey em (n + 1) kt (.int kk x)).run P w = .ok () w := fun n => by simp [checkKey, run_underlying hu, Result.andThen]
  exact this 9999

def isI (x : Int) : Value → Bool
  | .int .i64 y => x == y
  | _ => false
theorem Finds.ints {kt : TypeId} {k : IntKind} {x : Int} {l : List Int} (hu : P.underlying kt = some (.int k)) : Finds P kt (.int .i64 x) (l.map (Value.int .i64)) (l.findIdx? (fun y => x == y)) := by
  have := Finds.now (f := isI x) hu (int_may (kk := .i64) (x := x) hu) (ks := l.map (Value.int .i64)) (fun k hk => by
    obtain ⟨y, _, rfl⟩ := List.mem_map.1 hk
    simp [sameNow, isI])
  rw [List.findIdx?_map] at this
  exact this

theorem findAsking_eq {kt : TypeId} {key : Value} {f : Value → Bool} : ∀ (es : List MapEntry) (j : Nat) (w : World), (∀ e, e ∈ es → ∀ w, (Op.equal kt key e.key).run P w = .ok (f e.key) w) →
    (findAsking kt key es j).run P w = .ok (((es.map (·.key)).findIdx? f).bind fun i => (es[i]?).map fun e => (i + j, e.val)) w
  | [], j, w, _ => rfl
  | e :: es, j, w, h => by
    simp only [findAsking, Sem.run_bind, h e (by simp) w, Result.andThen, List.map_cons, List.findIdx?_cons]
    cases hf : f e.key with
    | true => simp
    | false =>
      simp only [Bool.false_eq_true, if_false]
      rw [findAsking_eq es (j + 1) w (fun x hx => h x (by simp [hx]))]
      congr 1
      cases (es.map (·.key)).findIdx? f with
      | none => rfl
      | some i =>
        simp only [Option.bind_some, Option.map_some, List.getElem?_cons_succ]
        congr 1
        funext e
        rw [show i + (j + 1) = i + 1 + j by omega]

theorem Finds.wide {kt : TypeId} {key : Value} {ks : List Value} {f : Value → Bool} (hu : (match P.underlying kt with | some (.array _ _) | some (.struct _) => true | _ => false) = true) (hm : ∀ em, pureEval P (checkKey em 10000 kt key) = some ())
    (hk : ∀ k, k ∈ ks → eqC P 10000 kt key k = some (f k)) : Finds P kt key ks (ks.findIdx? f) where
  may := fun em w => run_of_pureEval (hm em) w
  find := fun es he w => by
    rw [run_findKey_eq w hu]
    have := findAsking_eq (P := P) (kt := kt) (key := key) (f := f) es 0 w (fun e hx w => run_eqC 10000 kt key e.key _ (hk e.key (by rw [← he]; exact List.mem_map_of_mem hx)) w)
    rw [he] at this
    simpa using this

/-! ### Reckoned -/
def keyEqD (P : Program) (kt : TypeId) (key k : Value) : Option Bool := match P.underlying kt with
  | some (.int _) => match key, k with
    | .int .i64 x, .int .i64 y => some (x == y)
    | _, _ => none
  | some (.array _ _) => eqC P 10000 kt key k
  | some (.struct _) => eqC P 10000 kt key k
  | _ => none
def findD (P : Program) (kt : TypeId) (key : Value) : Nat → List Value → Option (Option Nat)
  | _, [] => some none
  | i, k :: ks => match keyEqD P kt key k with
    | some b => match findD P kt key (i + 1) ks with
      | some r => some (bif b then some i else r)
      | none => none
    | none => none
def mayD (P : Program) (kt : TypeId) (key : Value) : Bool := (match pureEval P (checkKey true 10000 kt key) with | some () => true | none => false) && (match pureEval P (checkKey false 10000 kt key) with | some () => true | none => false)

theorem findD_idx {kt : TypeId} {key : Value} : ∀ (ks : List Value) (i : Nat) (r : Option Nat), findD P kt key i ks = some r → (∀ k, k ∈ ks → keyEqD P kt key k = some ((keyEqD P kt key k).getD false)) ∧ r = (ks.findIdx? fun k => (keyEqD P kt key k).getD false).map (· + i)
  | [], i, r, h => by cases h; exact ⟨fun _ h => (by cases h), rfl⟩
  | k :: ks, i, r, h => by
    unfold findD at h
    split at h
    · rename_i b hb
      split at h
      · rename_i r' hr'
        cases h
        obtain ⟨h1, h2⟩ := findD_idx ks (i + 1) r' hr'
        refine ⟨fun x hx => ?_, ?_⟩
        · rcases List.mem_cons.1 hx with rfl | hx
          · rw [hb]; rfl
          · exact h1 x hx
        · rw [List.findIdx?_cons, hb]
          cases b with
          | true => simp
          | false =>
            simp only [Option.getD_some, cond_false, Bool.false_eq_true, if_false, h2, Option.map_map]
            congr 1
            funext j
            simp only [Function.comp]
            omega
      · cases h
    · cases h

def kindD (P : Program) (kt : TypeId) : Bool := match P.underlying kt with
  | some (.int _) | some (.array _ _) | some (.struct _) => true
  | _ => false

theorem findD_ok {kt : TypeId} {key : Value} {ks : List Value} {r : Option Nat} (hk : kindD P kt = true) (hm : mayD P kt key = true) (h : findD P kt key 0 ks = some r) : Finds P kt key ks r := by
  obtain ⟨h1, h2⟩ := findD_idx ks 0 r h
  have h2 : r = ks.findIdx? fun k => (keyEqD P kt key k).getD false := by
    rw [h2]
    cases ks.findIdx? fun k => (keyEqD P kt key k).getD false <;> simp
  subst h2
  have hm' : ∀ em, pureEval P (checkKey em 10000 kt key) = some () := fun em => by
    unfold mayD at hm
    rw [Bool.and_eq_true] at hm
    cases em with
    | true =>
      have := hm.1
      split at this
      · assumption
      · cases this
    | false =>
      have := hm.2
      split at this
      · assumption
      · cases this
  have hwide : (match P.underlying kt with | some (.array _ _) | some (.struct _) => true | _ => false) = true → (∀ k, keyEqD P kt key k = eqC P 10000 kt key k) → Finds P kt key ks (ks.findIdx? fun k => (keyEqD P kt key k).getD false) := fun hu he => by
    have := Finds.wide (f := fun k => (keyEqD P kt key k).getD false) hu hm' (ks := ks) (fun k hk => by rw [← he]; exact h1 k hk)
    exact this
  unfold kindD at hk
  split at hk
  · rename_i kk hu
    refine Finds.now hu (fun em w => run_of_pureEval (hm' em) w) fun k hkk => ?_
    have := h1 k hkk
    generalize hf : (keyEqD P kt key k).getD false = b at this
    unfold keyEqD at this
    rw [hu] at this
    simp only at this
    split at this
    · cases this
      simp [sameNow]
    · cases this
  · rename_i n e hu
    exact hwide (by rw [hu]) (fun k => by unfold keyEqD; rw [hu])
  · rename_i fs hu
    exact hwide (by rw [hu]) (fun k => by unfold keyEqD; rw [hu])
  · cases hk

/-- What is at a place of a memory, if it is a map; of which keys. -/
def mapD (a : List Value) (m : List Blk) (x : Operand) : Option (Nat × List MapEntry × Nat) :=
  if okConst x then match evalC a x with
    | .map (some b) => match m[b]? with
      | some (.map es ck) => if plains (es.map (·.key)) then some (b, es, ck) else none
      | _ => none
    | _ => none
  else none
theorem mapD_ok {x : Operand} {b ck : Nat} {es : List MapEntry} (h : mapD a m x = some (b, es, ck)) : okConst x = true ∧ evalC a x = .map (some b) ∧ m[b]? = some (.map es ck) ∧ plains (es.map (·.key)) = true := by
  unfold mapD at h
  split at h
  · rename_i hc
    split at h
    · rename_i b' hx
      split at h
      · rename_i es' ck' hb
        split at h
        · rename_i hp
          cases h
          exact ⟨hc, hx, hb, hp⟩
        · cases h
      · cases h
    · cases h
  · cases h
def keyD (P : Program) (a : List Value) (t : TypeId) (ix : Operand) : Option (TypeId × TypeId) :=
  match P.underlying t with
  | some (.map kt et) => if okConst ix && plain (evalC a ix) && kindD P kt && mayD P kt (evalC a ix) then some (kt, et) else none
  | _ => none
theorem keyD_ok {t kt et : TypeId} {ix : Operand} (h : keyD P a t ix = some (kt, et)) : P.underlying t = some (.map kt et) ∧ okConst ix = true ∧ plain (evalC a ix) = true ∧ kindD P kt = true ∧ mayD P kt (evalC a ix) = true := by
  unfold keyD at h
  split at h
  · rename_i kt' et' hu
    split at h
    · rename_i hc
      cases h
      simp only [Bool.and_eq_true] at hc
      exact ⟨hu, hc.1.1.1, hc.1.1.2, hc.1.2, hc.2⟩
    · cases h
  · cases h
def zeroD (P : Program) (et : TypeId) : Option Value := match (P.info? et).bind (·.zero) with
  | some z => if plain z then some z else none
  | none => none

def opF (P : Program) (o : Oper) (a : List Value) (m : List Blk) : Option Out :=
  match o.op with
  | .makeMap t x => if resD a x && mapT P t then some (.map (some m.length), m ++ [.map [] 0], ⟨[], []⟩) else none
  | .lookup t x ix ok => match mapD a m x, keyD P a t ix with
    | some (b, es, _), some (kt, et) => match findD P kt (evalC a ix) 0 (es.map (·.key)), zeroD P et with
      | some r, some z => some (lookV ok (gotC z es r).1 (gotC z es r).2, m, ⟨[b], []⟩)
      | _, _ => none
    | _, _ => none
  | .mapEntry t x ix => match mapD a m x, keyD P a t ix with
    | some (b, es, ck), some (kt, et) => match findD P kt (evalC a ix) 0 (es.map (·.key)), zeroD P et with
      | some none, some z => some (.tuple #[z, .int .i64 ck], m.set b (.map (es ++ [⟨evalC a ix, z, ck⟩]) (ck + 1)), ⟨[b], [b]⟩)
      | some (some i), some _ => match es[i]?, evalC a ix with
        | some ⟨.int .i64 x, v, n⟩, .int .i64 y => if x = y then some (.tuple #[v, .int .i64 n], m.set b (.map es ck), ⟨[b], [b]⟩) else none
        | _, _ => none
      | _, _ => none
    | _, _ => none
  | .entryStore _ x ix y => match mapD a m x with
    | some (b, es, ck) => if okConst ix && okConst y then match evalC a ix with
      | .int _ n => match es.findIdx? (fun e => (e.born : Int) == n) with
        | some i => match es[i]? with
          | some e => some (undef, m.set b (.map (es.set i { e with val := evalC a y }) ck), ⟨[b], [b]⟩)
          | none => none
        | none => none
      | _ => none
      else none
    | none => none
  | _ => none

theorem zeroD_ok {et : TypeId} {z : Value} (h : zeroD P et = some z) : (P.info? et).bind (·.zero) = some z ∧ plain z = true := by
  unfold zeroD at h
  split at h
  · rename_i z' hz
    split at h
    · rename_i hp; cases h; exact ⟨hz, hp⟩
    · cases h
  · cases h

theorem opF_ok {v : Value} {m' : List Blk} {fp : Fp} (h : opF P o a m = some (v, m', fp)) : OpOk P o a m v m' fp := by
  unfold opF at h
  split at h
  · rename_i t x ho
    split at h
    · rename_i hc
      rw [Bool.and_eq_true] at hc
      cases h; exact OpOk.makeMapE ho hc.1 hc.2
    · cases h
  · rename_i t x ix ok ho
    split at h
    · rename_i b es ck kt et h1 h2
      obtain ⟨hc, hx, hb, hpk⟩ := mapD_ok h1
      obtain ⟨hu, hc2, hkp, hkd, hmd⟩ := keyD_ok h2
      split at h
      · rename_i r z hr hz
        cases h
        exact OpOk.lookupM ho hc hc2 hx rfl hkp hb hu hpk (findD_ok hkd hmd hr) (zeroD_ok hz).1 (zeroD_ok hz).2
      · cases h
    · cases h
  · rename_i t x ix ho
    split at h
    · rename_i b es ck kt et h1 h2
      obtain ⟨hc, hx, hb, hpk⟩ := mapD_ok h1
      obtain ⟨hu, hc2, hkp, hkd, hmd⟩ := keyD_ok h2
      split at h
      · rename_i z hr hz
        cases h
        exact OpOk.mapEntryNew ho hc hc2 hx rfl hkp hb hu hpk (findD_ok hkd hmd hr) (zeroD_ok hz).1 (zeroD_ok hz).2
      · rename_i i z hr hz
        split at h
        · rename_i x' v' n y he hk
          split at h
          · rename_i hxy
            cases h
            subst hxy
            exact OpOk.mapEntryOld ho hc hc2 hx rfl hkp hb hu hpk (findD_ok hkd hmd hr) he hk.symm (by rw [hk]; simp [sameBits])
          · cases h
        · cases h
      · cases h
    · cases h
  · rename_i t x ix y ho
    split at h
    · rename_i b es ck h1
      obtain ⟨hc, hx, hb, hpk⟩ := mapD_ok h1
      split at h
      · rename_i hcc
        rw [Bool.and_eq_true] at hcc
        split at h
        · rename_i k n hk
          split at h
          · rename_i i hi
            split at h
            · rename_i e he
              cases h
              exact OpOk.entryStoreM ho hc hcc.1 hcc.2 hx hk rfl hb hi he
            · cases h
          · cases h
        · cases h
      · cases h
    · cases h
  · cases h

end
end Go.Dt
