/- Several texts in one: Dt49, Dt50. -/
import Derived.Test.YtdoabaohacfhjaaQW19
namespace Go.Dt

section
set_option linter.unusedVariables false

/-- Entries of these keys, each of the value 1, numbered from n on. -/
def ents : Nat → List Value → List MapEntry
  | _, [] => []
  | n, k :: ks => ⟨k, .int .i64 1, n⟩ :: ents (n + 1) ks
/-- A map that holds 1 at each of these keys. -/
def mapK (ks : List Value) : Blk := .map (ents 0 ks) ks.length
/-- The same, where a key's place has been made. -/
def entB (ks : List Value) (k : Value) : Blk := .map (ents 0 ks ++ [⟨k, .int .i64 0, ks.length⟩]) (ks.length + 1)

theorem ents_keys : ∀ (ks : List Value) (n : Nat), (ents n ks).map (·.key) = ks
  | [], _ => rfl
  | k :: ks, n => by simp [ents, ents_keys ks (n + 1)]
theorem ents_length : ∀ (ks : List Value) (n : Nat), (ents n ks).length = ks.length
  | [], _ => rfl
  | k :: ks, n => by simp [ents, ents_length ks (n + 1)]
theorem ents_val : ∀ (ks : List Value) (n i : Nat) (e : MapEntry), (ents n ks)[i]? = some e → e.val = .int .i64 1
  | [], _, _, _, h => by simp [ents] at h
  | k :: ks, n, 0, e, h => by simp [ents] at h; rw [← h]
  | k :: ks, n, i + 1, e, h => ents_val ks (n + 1) i e (by simpa [ents] using h)
theorem ents_append : ∀ (ks : List Value) (k : Value) (n : Nat), ents n (ks ++ [k]) = ents n ks ++ [(⟨k, .int .i64 1, n + ks.length⟩ : MapEntry)]
  | [], k, n => by simp [ents]
  | x :: ks, k, n => by
    have := ents_append ks k (n + 1)
    simp only [List.cons_append, ents, this, List.length_cons]
    rw [show n + 1 + ks.length = n + (ks.length + 1) by omega]
theorem ents_find : ∀ (ks : List Value) (k z : Value) (n : Nat), (ents n ks ++ [(⟨k, z, n + ks.length⟩ : MapEntry)]).findIdx? (fun e => (e.born : Int) == ((n + ks.length : Nat) : Int)) = some ks.length
  | [], k, z, n => by simp [ents]
  | x :: ks, k, z, n => by
    have := ents_find ks k z (n + 1)
    rw [show n + 1 + ks.length = n + (ks.length + 1) by omega] at this
    simp only [ents, List.cons_append, List.findIdx?_cons, List.length_cons, this, Option.map_some]
    have e : (((n : Nat) : Int) == ((n + (ks.length + 1) : Nat) : Int)) = false := by
      rw [beq_eq_false_iff_ne]; omega
    simp only [e, Bool.false_eq_true, if_false]
theorem ents_set (ks : List Value) (k : Value) : (ents 0 ks ++ [(⟨k, .int .i64 0, ks.length⟩ : MapEntry)]).set ks.length ⟨k, .int .i64 1, ks.length⟩ = ents 0 (ks ++ [k]) := by
  rw [ents_append, List.set_append_right _ _ (by rw [ents_length]; exact Nat.le_refl _), ents_length]
  simp

section
variable {P : Program} {f : FuncId} {n0 : Nat} {Φ : List Blk → Prop}

/-- What is looked up next: the types, the map, the key. -/
def lkAt (P : Program) (s : VS) : Option (TypeId × TypeId × TypeId × Nat × Value) := match opAt s with
  | some o => match o.op with
    | .lookup t x ix false => match evalC s.slots x, P.underlying t with
      | .map (some b), some (.map kt et) => bif okConst x && okConst ix then some (t, kt, et, b, evalC s.slots ix) else none
      | _, _ => none
    | _ => none
  | none => none
theorem lkAt_inv {s : VS} {t kt et : TypeId} {b : Nat} {key : Value} (hs : lkAt P s = some (t, kt, et, b, key)) : ∃ o x ix, opAt s = some o ∧ o.op = .lookup t x ix false ∧ okConst x = true ∧ okConst ix = true ∧ evalC s.slots x = .map (some b) ∧ evalC s.slots ix = key ∧ P.underlying t = some (.map kt et) := by
  unfold lkAt at hs
  split at hs
  · rename_i o ho
    split at hs
    · rename_i t' x ix hop
      split at hs
      · rename_i b' kt' et' hx hu
        cases hc : okConst x && okConst ix with
        | false => rw [hc] at hs; cases hs
        | true =>
          rw [hc, cond_true] at hs
          cases hs
          rw [Bool.and_eq_true] at hc
          exact ⟨o, x, ix, ho, hop, hc.1, hc.2, hx, rfl, hu⟩
      · cases hs
    · cases hs
  · cases hs
/-- Whose place is made next. -/
def enAt (P : Program) (s : VS) : Option (TypeId × TypeId × TypeId × Nat × Value) := match opAt s with
  | some o => match o.op with
    | .mapEntry t x ix => match evalC s.slots x, P.underlying t with
      | .map (some b), some (.map kt et) => bif okConst x && okConst ix then some (t, kt, et, b, evalC s.slots ix) else none
      | _, _ => none
    | _ => none
  | none => none
theorem enAt_inv {s : VS} {t kt et : TypeId} {b : Nat} {key : Value} (hs : enAt P s = some (t, kt, et, b, key)) : ∃ o x ix, opAt s = some o ∧ o.op = .mapEntry t x ix ∧ okConst x = true ∧ okConst ix = true ∧ evalC s.slots x = .map (some b) ∧ evalC s.slots ix = key ∧ P.underlying t = some (.map kt et) := by
  unfold enAt at hs
  split at hs
  · rename_i o ho
    split at hs
    · rename_i t' x ix hop
      split at hs
      · rename_i b' kt' et' hx hu
        cases hc : okConst x && okConst ix with
        | false => rw [hc] at hs; cases hs
        | true =>
          rw [hc, cond_true] at hs
          cases hs
          rw [Bool.and_eq_true] at hc
          exact ⟨o, x, ix, ho, hop, hc.1, hc.2, hx, rfl, hu⟩
      · cases hs
    · cases hs
  · cases hs
/-- What is laid into an entry next: the map, the mark, the value. -/
def esAt (s : VS) : Option (Nat × Int × Value) := match opAt s with
  | some o => match o.op with
    | .entryStore _ x ix y => match evalC s.slots x, evalC s.slots ix with
      | .map (some b), .int _ n => bif okConst x && okConst ix && okConst y then some (b, n, evalC s.slots y) else none
      | _, _ => none
    | _ => none
  | none => none
theorem esAt_inv {s : VS} {b : Nat} {n : Int} {v : Value} (hs : esAt s = some (b, n, v)) : ∃ o t x ix y k, opAt s = some o ∧ o.op = .entryStore t x ix y ∧ okConst x = true ∧ okConst ix = true ∧ okConst y = true ∧ evalC s.slots x = .map (some b) ∧ evalC s.slots ix = .int k n ∧ evalC s.slots y = v := by
  unfold esAt at hs
  split at hs
  · rename_i o ho
    split at hs
    · rename_i t' x ix y hop
      split at hs
      · rename_i b' k n' hx hix
        cases hc : okConst x && okConst ix && okConst y with
        | false => rw [hc] at hs; cases hs
        | true =>
          rw [hc, cond_true] at hs
          cases hs
          simp only [Bool.and_eq_true] at hc
          exact ⟨o, t', x, ix, y, k, ho, hop, hc.1.1, hc.1.2, hc.2, hx, hix, rfl⟩
      · cases hs
    · cases hs
  · cases hs

/-- Is the key among those of the map? -/
structure Hit (P : Program) (kt : TypeId) (key : Value) (ks : List Value) (hit : Bool) : Prop where
  ex : ∃ r, Finds P kt key ks r ∧ r.isSome = hit ∧ ∀ i, r = some i → i < ks.length

theorem got_ents {P : Program} {kt : TypeId} {key : Value} {ks : List Value} {r : Option Nat} {hit : Bool} (h1 : r.isSome = hit) (h2 : ∀ i, r = some i → i < ks.length) : (gotC (.int .i64 0) (ents 0 ks) r).1 = .int .i64 (bif hit then 1 else 0) := by
  unfold gotC
  cases r with
  | none => subst h1; rfl
  | some i =>
    subst h1
    have := h2 i rfl
    have hlt : i < (ents 0 ks).length := by rw [ents_length]; exact this
    simp only [Option.bind_some, List.getElem?_eq_getElem hlt]
    exact ents_val ks 0 i _ (List.getElem?_eq_getElem hlt)

theorem Q.look {s : VS} {v : Value} (hm : P.follows .mixedOrders = true) (n' : Nat) (t kt et : TypeId) (b : Nat) (key : Value) (ks : List Value) (hit : Bool) (hs : lkAt P (vadv P n' s) = some (t, kt, et, b, key)) (hb : (vadv P n' s).mem[b]? = some (mapK ks))
    (hkp : plain key = true) (hpk : plains ks = true) (hf : Hit P kt key ks hit) (hz : (P.info? et).bind (·.zero) = some (.int .i64 0))
    (h : RunsQ Φ P f n0 (afterRd (vadv P n' s) b (.int .i64 (bif hit then 1 else 0))) v) : RunsQ Φ P f n0 s v := by
  refine RunsQ.adv hm n' ?_
  obtain ⟨o, x, ix, ho, hop, hc, hc2, hx, hk, hu⟩ := lkAt_inv hs
  obtain ⟨r, hr, h1, h2⟩ := hf.ex
  unfold afterRd at h
  simp only [ho, fv_eq] at h
  have := OpOk.lookupM (P := P) (a := (vadv P n' s).slots) (m := (vadv P n' s).mem) hop hc hc2 hx hk hkp hb hu (by rw [ents_keys]; exact hpk) (by rw [ents_keys]; exact hr) hz rfl
  have e : lookV false (gotC (.int .i64 0) (ents 0 ks) r).1 (gotC (.int .i64 0) (ents 0 ks) r).2 = .int .i64 (bif hit then 1 else 0) := got_ents (P := P) (kt := kt) (key := key) h1 h2
  rw [e] at this
  exact RunsQ.op o ho this h

def afterSf (s : VS) (v : Value) (b : Nat) (x : Blk) : VS := match s with
  | .reg k id ops draw a0 m0 i a m recs => match ops[i]? with
    | some o => fl (put a o.dst v) fun a' => .reg k id ops draw a0 m0 (i + 1) a' m (⟨⟨[b].filter (fun r => !Nat.beq r b), []⟩, m.length, m.length, some (b, x), []⟩ :: recs)
    | none => s
  | s => s
def afterEn (s : VS) (v : Value) (b : Nat) (x : Blk) : VS := match s with
  | .reg k id ops draw a0 m0 i a m recs => match ops[i]? with
    | some o => fl (put a o.dst v) fun a' => fl (m.set b x) fun m' => .reg k id ops draw a0 m0 (i + 1) a' m' (⟨⟨[b], [b]⟩, m.length, m'.length, none, [(b, x)]⟩ :: recs)
    | none => s
  | s => s

theorem opAt_reg {s : VS} {o : Oper} (h : opAt s = some o) : ∃ k id ops draw a0 m0 i a m recs, s = .reg k id ops draw a0 m0 i a m recs ∧ ops[i]? = some o ∧ wantedC ops o a = some true := by
  cases s with
  | norm => cases h
  | reg k id ops draw a0 m0 i a m recs =>
    simp only [opAt] at h
    split at h
    · cases h
    · rename_i o' ho'
      split at h
      · rename_i hw; cases h; exact ⟨k, id, ops, draw, a0, m0, i, a, m, recs, rfl, ho', hw⟩
      · cases h

/-- A map that is looked into, where the key's place may have been made. -/
theorem Q.lookS {s : VS} {v : Value} (hm : P.follows .mixedOrders = true) (n' : Nat) (t kt et : TypeId) (b : Nat) (key : Value) (ks : List Value) (hs : lkAt P (vadv P n' s) = some (t, kt, et, b, key)) (hb : (vadv P n' s).mem[b]? = some (mapK ks))
    (hkp : plain key = true) (hpk : plains ks = true) (hf : Finds P kt key ks Option.none) (hf2 : Finds P kt key (ks ++ [key]) (some ks.length)) (hz : (P.info? et).bind (·.zero) = some (.int .i64 0))
    (h : RunsQ Φ P f n0 (afterSf (vadv P n' s) (.int .i64 0) b (entB ks key)) v) : RunsQ Φ P f n0 s v := by
  refine RunsQ.adv hm n' ?_
  obtain ⟨o, x, ix, ho, hop, hc, hc2, hx, hk, hu⟩ := lkAt_inv hs
  obtain ⟨k, id, ops, draw, a0, m0, i, a, m, recs, e, hoi, hw⟩ := opAt_reg ho
  generalize vadv P n' s = s' at hs hb h ho hx hk e
  subst e
  obtain ⟨m', h, q⟩ := h
  refine ⟨m', ?_, q⟩
  simp only [afterSf, hoi, fl_eq] at h
  intro hreg
  have hlt : b < m.length := (List.getElem?_eq_some_iff.1 hb).1
  have k1 := OpOk.lookupM (P := P) (a := a) (m := m) hop hc hc2 hx hk hkp hb hu (by rw [ents_keys]; exact hpk) (by rw [ents_keys]; exact hf) hz rfl
  have hb2 : (m.set b (entB ks key))[b]? = some (.map (ents 0 ks ++ [(⟨key, .int .i64 0, ks.length⟩ : MapEntry)]) (ks.length + 1)) := by
    rw [List.getElem?_set_self hlt]; rfl
  have hkeys : (ents 0 ks ++ [(⟨key, .int .i64 0, ks.length⟩ : MapEntry)]).map (·.key) = ks ++ [key] := by simp [ents_keys]
  have hpk2 : plains (ks ++ [key]) = true := by
    have : ∀ (l : List Value), plains l = true → plains (l ++ [key]) = true := by
      intro l
      induction l with
      | nil => intro _; simp [plains, hkp]
      | cons y l ih => intro hl; simp only [List.cons_append, plains, Bool.and_eq_true] at hl ⊢; exact ⟨hl.1, ih hl.2⟩
    exact this ks hpk
  have k2 := OpOk.lookupM (P := P) (a := a) (m := m.set b (entB ks key)) hop hc hc2 hx hk hkp hb2 hu (by rw [hkeys]; exact hpk2) (by rw [hkeys]; exact hf2) hz rfl
  have e1 : lookV false (gotC (.int .i64 0) (ents 0 ks) Option.none).1 (gotC (.int .i64 0) (ents 0 ks) Option.none).2 = .int .i64 0 := rfl
  have e2 : lookV false (gotC (.int .i64 0) (ents 0 ks ++ [(⟨key, .int .i64 0, ks.length⟩ : MapEntry)]) (some ks.length)).1 (gotC (.int .i64 0) (ents 0 ks ++ [(⟨key, .int .i64 0, ks.length⟩ : MapEntry)]) (some ks.length)).2 = .int .i64 0 := by
    have : (ents 0 ks ++ [(⟨key, .int .i64 0, ks.length⟩ : MapEntry)])[ks.length]? = some ⟨key, .int .i64 0, ks.length⟩ := by
      rw [List.getElem?_append_right (by rw [ents_length]; exact Nat.le_refl _), ents_length]; simp
    simp only [gotC, Option.bind_some, this]; rfl
  rw [e1] at k1
  rw [e2] at k2
  exact h (hreg.nextS (.soft hoi hw k1 k2 rfl hlt) ⟨rfl, rfl, rfl, rfl, fun p hp => by cases hp⟩)

/-- A key's place is made. -/
theorem Q.entK {s : VS} {v : Value} (hm : P.follows .mixedOrders = true) (n' : Nat) (t kt et : TypeId) (b : Nat) (key : Value) (ks : List Value) (hs : enAt P (vadv P n' s) = some (t, kt, et, b, key)) (hb : (vadv P n' s).mem[b]? = some (mapK ks))
    (hkp : plain key = true) (hpk : plains ks = true) (hf : Finds P kt key ks Option.none) (hz : (P.info? et).bind (·.zero) = some (.int .i64 0))
    (h : RunsQ Φ P f n0 (afterEn (vadv P n' s) (.tuple ⟨[.int .i64 0, .int .i64 (ks.length : Nat)]⟩) b (entB ks key)) v) : RunsQ Φ P f n0 s v := by
  refine RunsQ.adv hm n' ?_
  obtain ⟨o, x, ix, ho, hop, hc, hc2, hx, hk, hu⟩ := enAt_inv hs
  obtain ⟨k, id, ops, draw, a0, m0, i, a, m, recs, e, hoi, hw⟩ := opAt_reg ho
  generalize vadv P n' s = s' at hs hb h ho hx hk e
  subst e
  obtain ⟨m', h, q⟩ := h
  refine ⟨m', ?_, q⟩
  simp only [afterEn, hoi, fl_eq] at h
  intro hreg
  have k1 := OpOk.mapEntryNew (P := P) (a := a) (m := m) hop hc hc2 hx hk hkp hb hu (by rw [ents_keys]; exact hpk) (by rw [ents_keys]; exact hf) hz rfl
  have hlt : b < m.length := (List.getElem?_eq_some_iff.1 hb).1
  refine h (hreg.nextS (.hard (.op hoi hw k1)) ⟨rfl, rfl, by simp [entB], rfl, fun p hp => ?_⟩)
  have : p = (b, entB ks key) := by simpa using hp
  subst this
  show (m.set b (.map (ents 0 ks ++ [(⟨key, .int .i64 0, ks.length⟩ : MapEntry)]) (ks.length + 1))).getD b .gone = entB ks key
  rw [List.getD_eq_getElem?_getD, List.getElem?_set_self hlt]; rfl

/-- 1 is laid into it. -/
theorem Q.estK {s : VS} {v : Value} (hm : P.follows .mixedOrders = true) (n' : Nat) (b : Nat) (key : Value) (ks : List Value) (hs : esAt (vadv P n' s) = some (b, ((ks.length : Nat) : Int), .int .i64 1)) (hb : (vadv P n' s).mem[b]? = some (entB ks key))
    (h : RunsQ Φ P f n0 (afterWr (vadv P n' s) b (mapK (ks ++ [key]))) v) : RunsQ Φ P f n0 s v := by
  refine RunsQ.adv hm n' ?_
  obtain ⟨o, t, x, ix, y, k, ho, hop, hc, hc2, hc3, hx, hk, hv⟩ := esAt_inv hs
  unfold afterWr at h
  simp only [ho, fl_eq] at h
  have hidx := ents_find ks key (.int .i64 0) 0
  rw [Nat.zero_add] at hidx
  have hget : (ents 0 ks ++ [(⟨key, .int .i64 0, ks.length⟩ : MapEntry)])[ks.length]? = some ⟨key, .int .i64 0, ks.length⟩ := by
    rw [List.getElem?_append_right (by rw [ents_length]; exact Nat.le_refl _), ents_length]; simp
  have := OpOk.entryStoreM (P := P) (a := (vadv P n' s).slots) (m := (vadv P n' s).mem) hop hc hc2 hc3 hx hk hv hb hidx hget
  rw [ents_set] at this
  have e : (Blk.map (ents 0 (ks ++ [key])) (ks.length + 1)) = mapK (ks ++ [key]) := by simp [mapK]
  rw [e] at this
  exact RunsQ.op o ho this h

/-! ### A region's end, where something was read softly -/
/-- The order's part; and what is left to be shown: what was left, what was foretold. -/
def softQ (rows : List Row) : Nat → List Row → Option (List (Blk × Blk))
  | _, [] => some []
  | i, y :: ys => match y.rec_.sf, softQ rows (i + 1) ys with
    | none, some l => some l
    | some (b, x), some l => if softAhead y.mask i b 0 rows && softLater i (softJ i b 0 rows) b 0 rows && Nat.blt i (softJ i b 0 rows) then
        match rows[softJ i b 0 rows]? with
        | none => some l
        | some r => match outOf r.rec_ b with
          | some z => some ((z, x) :: l)
          | none => none
      else none
    | _, none => none
theorem softQ_ok {rows : List Row} : ∀ (ys : List Row) (i : Nat) (l : List (Blk × Blk)), softQ rows i ys = some l → (∀ p, p ∈ l → p.1 = p.2) → SoftOk rows i ys
  | [], _, _, _, _ => trivial
  | y :: ys, i, l, h, hl => by
    unfold softQ at h
    split at h
    · rename_i l' hs hq
      cases h
      refine ⟨?_, softQ_ok ys (i + 1) l hq hl⟩
      rw [hs]; trivial
    · rename_i b x l' hs hq
      split at h
      · rename_i hc
        simp only [Bool.and_eq_true] at hc
        split at h
        · rename_i hr
          cases h
          refine ⟨?_, softQ_ok ys (i + 1) l hq hl⟩
          rw [hs]
          exact ⟨hc.1.1, hc.1.2, Nat.lt_of_succ_le (Nat.le_of_ble_eq_true hc.2), fun r hr' => by rw [hr] at hr'; cases hr'⟩
        · rename_i r hr
          split at h
          · rename_i z hz
            cases h
            refine ⟨?_, softQ_ok ys (i + 1) l' hq (fun p hp => hl p (by simp [hp]))⟩
            rw [hs]
            refine ⟨hc.1.1, hc.1.2, Nat.lt_of_succ_le (Nat.le_of_ble_eq_true hc.2), fun r' hr' => ?_⟩
            rw [hr] at hr'; cases hr'
            rw [hz, show z = x from hl (z, x) (by simp)]
          · cases h
      · cases h
    · cases h

def endQ (s : VS) : Option (List (Blk × Blk)) := match s with
  | .reg k id ops draw a0 m0 i a m recs => if Nat.beq i ops.size && ordOk ops recs then softQ (rowsAll ops recs) 0 (rowsAll ops recs) else none
  | _ => none
def afterEnd (s : VS) : VS := match s with
  | .reg k id ops draw a0 m0 i a m recs => .norm k a m
  | s => s
theorem Q.endS {s : VS} {v : Value} (hm : P.follows .mixedOrders = true) (n' : Nat) (l : List (Blk × Blk)) (hs : endQ (vadv P n' s) = some l) (hl : ∀ p, p ∈ l → p.1 = p.2) (h : RunsQ Φ P f n0 (afterEnd (vadv P n' s)) v) : RunsQ Φ P f n0 s v := by
  refine RunsQ.adv hm n' ?_
  generalize vadv P n' s = s' at hs h
  cases s' with
  | norm => cases hs
  | reg k id ops draw a0 m0 i a m recs =>
    obtain ⟨m', h, q⟩ := h
    refine ⟨m', fun hreg => ?_, q⟩
    simp only [endQ] at hs
    split at hs
    · rename_i hc
      rw [Bool.and_eq_true] at hc
      have hi : i = ops.size := Nat.eq_of_beq_eq_true hc.1
      subst hi
      exact RunsN.region hm hreg (fun _ => ⟨hc.2, softQ_ok _ _ _ hs hl⟩) h
    · cases hs

/-- A function that gives back the blocks that it got, and no other. -/
theorem ConM.takes {fn : Func} {args : List Value} {m m' : List Blk} {v : Value} (hf : P.funcs[f]? = some fn) (hn : ((fn.name == "runtime.NumGoroutine") || fn.body.isNone) = false) (hv : plain v = true) (hlen : m'.length = m.length) (hok : okM m' = true)
    (h : RunsQ (fun x => x.take m.length = m') P f m.length (entry fn args m) v) : ConM P f args m v m' where
  eq := by
    obtain ⟨m1, h, hq⟩ := h
    have hb : fn.body.isSome = true := by
      rw [Bool.or_eq_false_iff] at hn
      cases hb : fn.body with
      | none => rw [hb] at hn; cases hn.2
      | some c => rfl
    have hfn := FnEq.of_runs hf hb h
    refine FnEq.drop (List.range m.length) hfn (fun i hi => by simp [hi]) List.nodup_range (by simpa using hlen) (.plain hv) (fun j b hj => ?_)
    have hj' : j < m.length := by simpa using (List.getElem?_eq_some_iff.1 hj).1
    have : b = j := by simpa using (List.getElem?_eq_some_iff.1 hj).2.symm
    subst this
    have hκ : ∀ b, isOwn m' b = true → keepAt (List.range m.length) b = some b := fun b hb => by
      obtain ⟨x, hx, _⟩ := isOwn_iff.1 hb
      have hlt : b < m.length := by rw [← hlen]; exact (List.getElem?_eq_some_iff.1 hx).1
      unfold keepAt
      rw [if_pos (by simpa using hlt)]
      congr 1
      have hi : b < (List.range m.length).length := by simpa using hlt
      have hm : b ∈ List.range m.length := by simpa using hlt
      exact nodup_inj List.nodup_range (List.idxOf_lt_length_of_mem hm) hi (by simp)
    have e : m1.getD b .gone = m'.getD b .gone := by
      rw [← hq]; simp [List.getD_eq_getElem?_getD, hj']
    rw [e]
    have hx : m'[b]? = some (m'.getD b .gone) := by
      have : b < m'.length := by omega
      simp [List.getD_eq_getElem?_getD, this]
    have hbk := List.all_eq_true.1 hok _ (List.mem_of_getElem? hx)
    generalize m'.getD b .gone = x at hbk
    cases x with
    | cells c sz rw_ =>
      simp only [okB, Bool.and_eq_true] at hbk
      exact .cells sz rw_ rfl (fun i _ => by have := lift_ids hκ c hbk.2 i; simpa [List.getD_eq_getElem?_getD] using this)
    | map es ck =>
      refine .map ck rfl fun i e e' he he' => ?_
      rw [he] at he'; cases he'
      have := List.all_eq_true.1 hbk e (List.mem_of_getElem? he)
      simp only [Bool.and_eq_true] at this
      exact ⟨lift_id hκ _ this.1, lift_id hκ _ this.2, rfl⟩
    | gone => exact .gone _
  fn := ⟨fn, hf, hn⟩
end

end

section
set_option linter.unusedVariables false

theorem call_pre {mf mf' ext : List Blk} (h1 : okM mf = true) (h2 : okM mf' = true) (h3 : ownKept mf mf' = true) (hl : mf'.length = mf.length) : CallData (mf ++ ext) mf mf' (mf' ++ ext) (idEmb mf) (ownIds mf) (ownIds mf) := by
  obtain ⟨hlen, hown⟩ := ownKept_ok h3
  have hκ : ∀ b, isOwn mf b = true → idEmb mf b = some (b, 0, false) := fun b hb => by simp [idEmb, hb]
  have inv : ∀ {i b d : Nat} {r : Bool}, idEmb mf i = some (b, d, r) → b = i ∧ d = 0 ∧ r = false ∧ isOwn mf i = true := fun h => by
    unfold idEmb at h
    split at h
    · rename_i ho; cases h; exact ⟨rfl, rfl, rfl, ho⟩
    · cases h
  have lt : ∀ {l : List Blk} {b : Nat}, isOwn l b = true → b < l.length := fun h => by
    obtain ⟨x, hx, _⟩ := isOwn_iff.1 h
    exact (List.getElem?_eq_some_iff.1 hx).1
  have memOwn : ∀ b, b ∈ ownIds mf ↔ isOwn mf b = true := fun b => by
    unfold ownIds
    rw [List.mem_filter, List.mem_range]
    exact ⟨fun h => h.2, fun h => ⟨lt h, h⟩⟩
  have pre : ∀ {l : List Blk} {b : Nat}, b < l.length → (l ++ ext).getD b .gone = l.getD b .gone := fun h => by
    rw [List.getD_eq_getElem?_getD, List.getD_eq_getElem?_getD, List.getElem?_append_left h]
  have hback : ∀ b, isOwn mf' b = true → back (idEmb mf) mf.length mf'.length (mf ++ ext).length b = some b := fun b hb => by
    have hb' := lt hb
    unfold back
    rw [if_pos (by omega)]
    rw [hκ b (hown b (by omega) hb)]
  have okb : ∀ {l : List Blk}, okM l = true → ∀ b x, l[b]? = some x → okB l x = true := fun h b x hx => List.all_eq_true.1 h x (List.mem_of_getElem? hx)
  have lifted : ∀ b, BLift (back (idEmb mf) mf.length mf'.length (mf ++ ext).length) (mf'.getD b .gone) (mf'.getD b .gone) ∧ ownOrGone (mf'.getD b .gone) = true := fun b => by
    cases hx : mf'[b]? with
    | none =>
      have : mf'.getD b .gone = .gone := by simp [List.getD_eq_getElem?_getD, hx]
      rw [this]; exact ⟨.gone _, rfl⟩
    | some x =>
      have : mf'.getD b .gone = x := by simp [List.getD_eq_getElem?_getD, hx]
      rw [this]
      have hb := okb h2 b x hx
      cases x with
      | cells c sz rw_ =>
        simp only [okB, Bool.and_eq_true] at hb
        exact ⟨.cells sz rw_ rfl (fun i _ => by have := lift_ids hback c hb.2 i; simpa [List.getD_eq_getElem?_getD] using this), hb.1⟩
      | map es ck =>
        refine ⟨.map ck rfl fun i e e' he he' => ?_, rfl⟩
        rw [he] at he'; cases he'
        have := List.all_eq_true.1 hb e (List.mem_of_getElem? he)
        simp only [Bool.and_eq_true] at this
        exact ⟨lift_id hback _ this.1, lift_id hback _ this.2, rfl⟩
      | gone => exact ⟨.gone _, rfl⟩
  refine ⟨fun i b d h => (inv h).2.1, fun i b d r h => ?_, fun i b d r h => ?_, fun b hb => by have := lt ((memOwn b).1 hb); simp; omega, fun b hb => hb, fun i b h => ?_, fun i j b d r hne h h' => ?_, fun i hi => ?_, hlen, by simp [hl], fun i b h => ?_, fun j hj hj' => by omega, fun b hb hk => ?_⟩
  · obtain ⟨rfl, _, _, ho⟩ := inv h
    have := lt ho
    exact ⟨lt ho, by simp; omega, (memOwn b).2 ho⟩
  · obtain ⟨rfl, _, _, ho⟩ := inv h
    obtain ⟨x, hx, hxo⟩ := isOwn_iff.1 ho
    rw [pre (lt ho), show mf.getD b .gone = x by simp [List.getD_eq_getElem?_getD, hx]]
    exact Blk.live_of_own hxo
  · obtain ⟨rfl, _, _, ho⟩ := inv h
    exact (memOwn b).2 ho
  · exact hne ((inv h).1.symm.trans (inv h').1)
  · have hx : mf[i]? = some mf[i] := by simp [hi]
    have hg : mf.getD i .gone = mf[i] := by simp [List.getD_eq_getElem?_getD, hi]
    have hb := okb h1 i _ hx
    have hx2 : (mf ++ ext)[i]? = some mf[i] := by rw [List.getElem?_append_left hi]; exact hx
    rw [hg]
    generalize mf[i] = x at hx hb hx2
    cases x with
    | cells c sz rw_ =>
      simp only [okB, Bool.and_eq_true] at hb
      obtain ⟨hrw, hc⟩ := hb
      subst hrw
      exact .whole (hκ i (isOwn_iff.2 ⟨_, hx, rfl⟩)) hx2 rfl (fun j _ => by have := ren_ids hκ c hc j; simpa [List.getD_eq_getElem?_getD] using this)
    | map es ck =>
      refine .map (hκ i (isOwn_iff.2 ⟨_, hx, rfl⟩)) hx2 rfl fun j e e' he he' => ?_
      rw [he] at he'; cases he'
      have := List.all_eq_true.1 hb e (List.mem_of_getElem? he)
      simp only [Bool.and_eq_true] at this
      exact ⟨ren_id hκ _ this.1, ren_id hκ _ this.2, rfl⟩
    | gone => exact .gone
  · obtain ⟨rfl, _, _, ho⟩ := inv h
    rw [pre (show b < mf'.length by have := lt ho; omega)]
    exact lifted _
  · by_cases hbl : b < mf.length
    · -- what is not owned is gone, ahead and behind
      have ho : isOwn mf b = false := by
        cases h : isOwn mf b with
        | false => rfl
        | true => exact absurd (hκ b h) (hk b)
      have gone : ∀ {l : List Blk}, okM l = true → isOwn l b = false → l.getD b .gone = .gone := fun {l} hl ho => by
        cases hx : l[b]? with
        | none => simp [List.getD_eq_getElem?_getD, hx]
        | some x =>
          have hb := okb hl b x hx
          rw [show l.getD b .gone = x by simp [List.getD_eq_getElem?_getD, hx]]
          cases x with
          | gone => rfl
          | map es ck => simp [isOwn, hx, Blk.own] at ho
          | cells c sz rw_ =>
            simp only [okB, Bool.and_eq_true] at hb
            simp [isOwn, hx, Blk.own, hb.1] at ho
      rw [pre hbl, pre (by omega), gone h1 ho, gone h2 (by
        cases h : isOwn mf' b with
        | false => rfl
        | true => rw [hown b hbl h] at ho; cases ho)]
    · rw [List.getD_eq_getElem?_getD, List.getD_eq_getElem?_getD, List.getElem?_append_right (by omega), List.getElem?_append_right (by omega), hl]

theorem OpOk.callPre {P : Program} {o : Oper} {a : List Value} {mf mf' ext : List Blk} {g : FuncId} {gn : Func} {args : List Value} {v : Value} (ho : callOf o a = some (g, args)) (hf : P.funcs[g]? = some gn) (hn : ((gn.name == "runtime.NumGoroutine") || gn.body.isNone) = false)
    (h1 : okM mf = true) (h2 : okM mf' = true) (h3 : ownKept mf mf' = true) (hl : mf'.length = mf.length) (ha : okVs mf args = true) (hv : plain v = true) (h : FnEq P g args mf v mf') : OpOk P o a (mf ++ ext) v (mf' ++ ext) ⟨ownIds mf, ownIds mf⟩ := by
  have D := call_pre (ext := ext) h1 h2 h3 hl
  rw [Bool.or_eq_false_iff] at hn
  unfold callOf at ho
  split at ho
  · rename_i c hop
    split at ho
    · rename_i gop hcal
      split at ho
      · rename_i hc
        rw [Bool.and_eq_true] at hc
        split at ho
        · rename_i f' first captured hg
          cases ho
          obtain ⟨callee, xs, ts⟩ := c
          simp only at hcal hc h ha
          subst hcal
          have hκ : ∀ b, isOwn mf b = true → idEmb mf b = some (b, 0, false) := fun b hb => by simp [idEmb, hb]
          refine OpOk.call hop hg hc.1 hc.2 hf hn.1 hn.2 rfl (fun i _ => ?_) D (.plain hv) h
          have := ren_ids hκ _ ha i
          simpa [List.getD_eq_getElem?_getD] using this
        · cases ho
      · cases ho
    · cases ho
  · cases ho

section
open Go.Instr
variable {P : Program} {o : Oper} {a : List Value} {m : List Blk}
/-- A value is laid at a key that is not there. -/
theorem OpOk.mapUpdNew {t kt et : TypeId} {x ix y : Operand} {b ck : Nat} {es : List MapEntry} {key v : Value} (ho : o.op = .mapUpdate t x ix y) (hc : okConst x = true) (hc2 : okConst ix = true) (hc3 : okConst y = true)
    (hx : evalC a x = .map (some b)) (hk : evalC a ix = key) (hv : evalC a y = v) (hkp : plain key = true) (hb : m[b]? = some (.map es ck)) (hu : P.underlying t = some (.map kt et)) (hpk : plains (es.map (·.key)) = true)
    (hf : Finds P kt key (es.map (·.key)) none) :
    OpOk P o a m undef (m.set b (.map (es ++ [⟨key, v, ck⟩]) (ck + 1))) ⟨[b], [b]⟩ := by
  have hblt : b < m.length := (List.getElem?_eq_some_iff.1 hb).1
  refine OpOk.writesMap (es := es) (ck := ck) (by simp [List.getD_eq_getElem?_getD, hb]) hblt fun ι tt w L es' hs hL hh hent => ?_
  have h := rv_operand hs (x := x) (by rw [ho]; simp [Op.operands]) hc
  rw [hx] at h
  have h2 := rv_operand hs (x := ix) (by rw [ho]; simp [Op.operands]) hc2
  rw [hk] at h2
  have h2 := h2.eq_of_plain hkp
  have h3 := rv_operand hs (x := y) (by rw [ho]; simp [Op.operands]) hc3
  rw [hv] at h3
  generalize hy : (act tt).eval x = z at h
  cases h with
  | map hL' =>
    rw [hL] at hL'; cases hL'
    have hreal := hf.real hent hpk w
    refine ⟨es'.push ⟨key, (act tt).eval y, ck⟩, hent.push ⟨RV.refl _ _ hkp, h3, rfl⟩, .skip, undef, ?_, .any _, .inr ⟨rfl, rfl⟩⟩
    unfold execOp; rw [ho]
    simp [hy, ← h2, mapUpdate, run_underlying hu, Result.andThen, getMap_run hh, hf.may, hreal, setMap_run _ hh]
end

section
variable {P : Program} {f : FuncId} {n0 : Nat} {Φ : List Blk → Prop}
/-- What is laid into a map next: the types, the map, the key, the value. -/
def upAt (P : Program) (s : VS) : Option (TypeId × TypeId × TypeId × Nat × Value × Value) := match opAt s with
  | some o => match o.op with
    | .mapUpdate t x ix y => match evalC s.slots x, P.underlying t with
      | .map (some b), some (.map kt et) => bif okConst x && okConst ix && okConst y then some (t, kt, et, b, evalC s.slots ix, evalC s.slots y) else none
      | _, _ => none
    | _ => none
  | none => none
theorem Q.updK {s : VS} {v : Value} (hm : P.follows .mixedOrders = true) (n' : Nat) (t kt et : TypeId) (b : Nat) (key u : Value) (ks : List Value) (hs : upAt P (vadv P n' s) = some (t, kt, et, b, key, u)) (hu1 : u = .int .i64 1) (hb : (vadv P n' s).mem[b]? = some (mapK ks))
    (hkp : plain key = true) (hpk : plains ks = true) (hf : Finds P kt key ks Option.none) (h : RunsQ Φ P f n0 (afterWr (vadv P n' s) b (mapK (ks ++ [key]))) v) : RunsQ Φ P f n0 s v := by
  refine RunsQ.adv hm n' ?_
  unfold upAt at hs
  split at hs
  · rename_i o ho
    split at hs
    · rename_i t' x ix y hop
      split at hs
      · rename_i b' kt' et' hx hu
        cases hc : okConst x && okConst ix && okConst y with
        | false => rw [hc] at hs; cases hs
        | true =>
          rw [hc, cond_true] at hs
          simp only [Option.some.injEq, Prod.mk.injEq] at hs
          obtain ⟨rfl, rfl, rfl, rfl, hk, hv⟩ := hs
          simp only [Bool.and_eq_true] at hc
          unfold afterWr at h
          simp only [ho, fl_eq] at h
          have := OpOk.mapUpdNew (P := P) (a := (vadv P n' s).slots) (m := (vadv P n' s).mem) hop hc.1.1 hc.1.2 hc.2 hx hk (hv.trans hu1) hkp hb hu (by rw [ents_keys]; exact hpk) (by rw [ents_keys]; exact hf)
          have e : (Blk.map (ents 0 ks ++ [(⟨key, .int .i64 1, ks.length⟩ : MapEntry)]) (ks.length + 1)) = mapK (ks ++ [key]) := by
            simp [mapK, ents_append]
          rw [e] at this
          exact RunsQ.op o ho this h
      · cases hs
    · cases hs
  · cases hs

/-- The state behind such a call. -/
def afterPre (mf mf' ext : List Blk) (s : VS) (u : Value) : VS := match opAt s with
  | some o => afterOp s o u (mf' ++ ext) ⟨ownIds mf, ownIds mf⟩
  | none => s
theorem Q.callPre {s : VS} {v u : Value} {g : FuncId} {args : List Value} (hm : P.follows .mixedOrders = true) (mf mf' ext : List Blk) (c : ConM P g args mf u mf') (hs : callAt (go P s) = some (g, args)) (hmem : (go P s).mem = mf ++ ext)
    (h1 : okM mf = true) (h2 : okM mf' = true) (h3 : ownKept mf mf' = true) (hl : mf'.length = mf.length) (ha : okVs mf args = true) (hv : plain u = true) (hr : RunsQ Φ P f n0 (afterPre mf mf' ext (go P s) u) v) : RunsQ Φ P f n0 s v := by
  refine RunsQ.adv hm 1000000 ?_
  show RunsQ Φ P f n0 (go P s) v
  obtain ⟨gn, hf, hn⟩ := c.fn
  unfold callAt at hs
  unfold afterPre at hr
  cases ho : opAt (go P s) with
  | none => rw [ho] at hs; cases hs
  | some o =>
    simp only [ho] at hs hr
    have := OpOk.callPre (ext := ext) hs hf hn h1 h2 h3 hl ha hv c.eq
    rw [← hmem] at this
    exact RunsQ.op o ho this hr
end

end

end Go.Dt
