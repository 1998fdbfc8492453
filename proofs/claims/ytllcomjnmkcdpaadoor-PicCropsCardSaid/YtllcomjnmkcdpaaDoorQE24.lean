/- Closed runs with contracts for some calls; bytes to a string. -/
import Derived.Test.YtllcomjnmkcdpaaDoorQE23
import Derived.Test.YtllcomjnmkcdpaaDoorQE17
namespace Go.Dt
set_option linter.unusedVariables false
set_option linter.unusedSimpArgs false

section
variable {P : Program}

/-- Bytes to a string, where they are known. -/
def opZ (P : Program) (o : Oper) (a : List Value) (m : List Blk) : Option Out := match o.op with
  | .convert src dst x => bif okConst x then (match evalC a x, P.underlying src, P.underlying dst with
    | .slice (some ⟨b, off, none⟩) n _, some (.slice e), some .string => (match P.underlying e, m[b]? with
      | some (.int .u8), some (.cells c _ _) => bif Nat.ble (off + n) c.length && allU8 ((c.drop off).take n) then some (.string (strN (bytesC ((c.drop off).take n)) .empty), m, ⟨[b], []⟩) else none
      | _, _ => none)
    | _, _, _ => none) else none
  | _ => none
theorem opZ_ok {o : Oper} {a : List Value} {m : List Blk} {v : Value} {m' : List Blk} {fp : Fp} (h : opZ P o a m = some (v, m', fp)) : OpOk P o a m v m' fp := by
  unfold opZ at h
  split at h
  · rename_i src dst x hop
    cases hc : okConst x with
    | false => rw [hc] at h; cases h
    | true =>
      rw [hc, cond_true] at h
      split at h
      · rename_i b off n cap e hx hs1 hs2
        split at h
        · rename_i c sz rw_ hs3 hb
          cases hf : Nat.ble (off + n) c.length && allU8 ((c.drop off).take n) with
          | false => rw [hf] at h; cases h
          | true =>
            rw [hf, cond_true] at h
            rw [Bool.and_eq_true] at hf
            cases h
            exact OpOk.bytesOwn hop hc hx hb hs1 hs2 hs3 (Nat.le_of_ble_eq_true hf.1) hf.2
        · cases h
      · cases h
  · cases h
def opW (P : Program) (X : Exts) (E : FuncId → Func → List Value → List Blk → Option (Value × List Blk)) (o : Oper) (a : List Value) (m : List Blk) : Option Out := match opZ P o a m with
  | some x => some x
  | none => opY P X E o a m
theorem opW_ok {X : Exts} (hX : ExtOk P X) {E : FuncId → Func → List Value → List Blk → Option (Value × List Blk)} (hE : ∀ g gn vs mf v m1, P.funcs[g]? = some gn → gn.body.isSome = true → E g gn vs mf = some (v, m1) → FnEq P g vs mf v m1)
    {o : Oper} {a : List Value} {m : List Blk} {v : Value} {m' : List Blk} {fp : Fp} (h : opW P X E o a m = some (v, m', fp)) : OpOk P o a m v m' fp := by
  unfold opW at h
  split at h
  · rename_i x hx; cases h; exact opZ_ok hx
  · exact opY_ok hX hE h

/-- Calls of which it is known what they do. -/
abbrev Hk := FuncId → List Value → List Blk → Option (Value × List Blk)
def HkOk (P : Program) (K : Hk) : Prop := ∀ g gn vs mf v m1, P.funcs[g]? = some gn → gn.body.isSome = true → K g vs mf = some (v, m1) → FnEq P g vs mf v m1
theorem hkE {K : Hk} (hK : HkOk P K) {F : FuncId → Func → List Value → List Blk → Option (Value × List Blk)} (hF : ∀ g gn vs mf v m1, P.funcs[g]? = some gn → gn.body.isSome = true → F g gn vs mf = some (v, m1) → FnEq P g vs mf v m1) :
    ∀ g gn vs mf v m1, P.funcs[g]? = some gn → gn.body.isSome = true → (match K g vs mf with | some r => some r | none => F g gn vs mf) = some (v, m1) → FnEq P g vs mf v m1 := fun g gn vs mf v m1 hg hb h => by
  split at h
  · rename_i r hr
    cases h
    exact hK g gn vs mf v m1 hg hb hr
  · exact hF g gn vs mf v m1 hg hb h
/-- A table of such calls. -/
structure Known where
  g : FuncId
  vs : List Value
  mf : List Blk
  v : Value
  m1 : List Blk
def eqBk : Blk → Blk → Bool
  | .cells c sz rw_, .cells c' sz' rw' => eqVs c c' && Nat.beq sz sz' && (rw_ == rw')
  | b, b' => eqBlk b b'
theorem eqBk_ok : ∀ (x y : Blk), eqBk x y = true → x = y := fun x y h => by
  unfold eqBk at h
  split at h
  · simp only [Bool.and_eq_true] at h
    rw [eqVs_ok _ _ h.1.1, Nat.eq_of_beq_eq_true h.1.2, eq_of_beq h.2]
  · exact eqBlk_ok _ _ h
def eqBs : List Blk → List Blk → Bool
  | [], [] => true
  | b :: l, b' :: l' => eqBk b b' && eqBs l l'
  | _, _ => false
theorem eqBs_ok : ∀ (l l' : List Blk), eqBs l l' = true → l = l'
  | [], [], _ => rfl
  | b :: l, b' :: l', h => by
    simp only [eqBs, Bool.and_eq_true] at h
    rw [eqBk_ok b b' h.1, eqBs_ok l l' h.2]
  | [], _ :: _, h => by cases h
  | _ :: _, [], h => by cases h
def tabK : List Known → Hk
  | [], _, _, _ => none
  | k :: l, g, vs, mf => bif Nat.beq k.g g && eqVs k.vs vs && eqBs k.mf mf then some (k.v, k.m1) else tabK l g vs mf
theorem tabK_ok : ∀ {l : List Known}, (∀ k, k ∈ l → FnEq P k.g k.vs k.mf k.v k.m1) → HkOk P (tabK l)
  | [], _ => fun g gn vs mf v m1 _ _ h => by cases h
  | k :: l, hl => fun g gn vs mf v m1 hg hb h => by
    unfold tabK at h
    cases hc : Nat.beq k.g g && eqVs k.vs vs && eqBs k.mf mf with
    | true =>
      rw [hc, cond_true] at h
      simp only [Bool.and_eq_true] at hc
      cases h
      have h0 := hl k (by simp)
      rw [Nat.eq_of_beq_eq_true hc.1.1, eqVs_ok _ _ hc.1.2, eqBs_ok _ _ hc.2] at h0
      exact h0
    | false =>
      rw [hc, cond_false] at h
      exact tabK_ok (fun k hk => hl k (by simp [hk])) g gn vs mf v m1 hg hb h

def evalT2 (P : Program) (X : Exts) (E : FuncId → Func → List Value → List Blk → Option (Value × List Blk)) : Nat → VS → Option (List Item × List Value × List Blk)
  | 0, _ => none
  | n + 1, s => match stopT s with
    | some r => some r
    | none => match vstepC P s with
      | some s' => evalT2 P X E n s'
      | none => match opAt s with
        | none => none
        | some o => match opW P X E o s.slots s.mem with
          | some (v, m', fp) => fv v fun v => fvc v fun v => fbl m' fun m' => evalT2 P X E n (afterOp s o v m' fp)
          | none => none
theorem evalT2_ok {J : Map → World → Prop} (hm : P.follows .mixedOrders = true) {X : Exts} (hX : ExtOk P X) {E : FuncId → Func → List Value → List Blk → Option (Value × List Blk)} (hE : ∀ g gn vs mf v m1, P.funcs[g]? = some gn → gn.body.isSome = true → E g gn vs mf = some (v, m1) → FnEq P g vs mf v m1) (hK : Keeps J) (hD : Drawn J) : ∀ (n : Nat) {f : FuncId} {s : VS} {todo' : List Item} {a' : List Value} {m' : List Blk}, evalT2 P X E n s = some (todo', a', m') → GoV P f J s todo' a' m'
  | 0, _, _, _, _, _, h => by cases h
  | n + 1, f, s, todo', a', m', h => by
    unfold evalT2 at h
    split at h
    · rename_i r hs
      cases h
      unfold stopT at hs
      split at hs
      · cases hs; exact GoF.refl _ _ _
      · cases hs; exact GoF.refl _ _ _
      · cases hs
    · split at h
      · rename_i s' hs
        rw [vstepC_eq] at hs
        exact GoV.step hm hK hD hs (evalT2_ok hm hX hE hK hD n h)
      · split at h
        · cases h
        · rename_i o ho
          split at h
          · rename_i v1 m1 fp hy
            rw [fv_eq, fvc_eq, fbl_eq] at h
            exact GoV.op hK o ho (opW_ok hX hE hy) (evalT2_ok hm hX hE hK hD n h)
          · cases h

def evalI2 (P : Program) (X : Exts) (E : FuncId → Func → List Value → List Blk → Option (Value × List Blk)) (Y : YC) (fn : Func) : Nat → VS → Option (List Item × List Value × List Blk)
  | 0, _ => none
  | n + 1, s => match retOf P fn s with
    | some _ => match s with
      | .norm todo a m => some (todo, a, m)
      | _ => none
    | none => match vstepC P s with
      | some s' => evalI2 P X E Y fn n s'
      | none => match opAt s with
        | none => none
        | some o => match yldAt Y.lb Y.params.size o s.slots with
          | some args => fvl (setP Y.params.toList args Y.ac) fun a1 =>
            bif bnds s.mem.length a1 && bnds s.mem.length Y.ac && bbnds s.mem.length s.mem && Nat.blt Y.lb s.mem.length then
              match evalT2 P X E n (.norm [.code Y.assign, .beginRound, .code Y.body] a1 s.mem) with
              | some (.beginRound :: k1, a2, m2) => match evalT2 P X E n (.norm k1 a2 m2) with
                | some ([], a3, m3) => bif Nat.ble s.mem.length m3.length then fbl m3 fun m3 => evalI2 P X E Y fn n (afterOp s o (.bool true) m3 ⟨List.range s.mem.length, List.range s.mem.length⟩) else none
                | _ => none
              | _ => none
            else none
          | none => match opW P X E o s.slots s.mem with
            | some (v, m', fp) => fv v fun v => fvc v fun v => fbl m' fun m' => evalI2 P X E Y fn n (afterOp s o v m' fp)
            | none => none

theorem evalI2_ok (hm : P.follows .mixedOrders = true) {X : Exts} (hX : ExtOk P X) {E : FuncId → Func → List Value → List Blk → Option (Value × List Blk)} (hE : ∀ g gn vs mf v m1, P.funcs[g]? = some gn → gn.body.isSome = true → E g gn vs mf = some (v, m1) → FnEq P g vs mf v m1) (Y : YC) {fn : Func} : ∀ (n : Nat) {f : FuncId} {s : VS} {todo' : List Item} {a' : List Value} {m' : List Blk}, evalI2 P X E Y fn n s = some (todo', a', m') →
    GoV P f (JR Y .ready) s todo' a' m' ∧ ∃ v, retOf P fn (.norm todo' a' m') = some v
  | 0, _, _, _, _, _, h => by cases h
  | n + 1, f, s, todo', a', m', h => by
    unfold evalI2 at h
    split at h
    · rename_i v hret
      split at h
      · cases h; exact ⟨GoF.refl _ _ _, v, hret⟩
      · cases h
    · split at h
      · rename_i s' hs
        rw [vstepC_eq] at hs
        obtain ⟨h1, h2⟩ := evalI2_ok hm hX hE Y n (f := f) h
        exact ⟨GoV.step hm (JR.keeps _ _) (JR.drawn _ _) hs h1, h2⟩
      · split at h
        · cases h
        · rename_i o ho
          split at h
          · rename_i args hy
            rw [fvl_eq] at h
            cases hc : bnds s.mem.length (setP Y.params.toList args Y.ac) && bnds s.mem.length Y.ac && bbnds s.mem.length s.mem && Nat.blt Y.lb s.mem.length with
            | false => rw [hc] at h; cases h
            | true =>
              rw [hc, cond_true] at h
              simp only [Bool.and_eq_true] at hc
              split at h
              · rename_i k1 a2 m2 h1
                split at h
                · rename_i a3 m3 h2
                  cases hl : Nat.ble s.mem.length m3.length with
                  | false => rw [hl] at h; cases h
                  | true =>
                    rw [hl, cond_true, fbl_eq] at h
                    obtain ⟨g1, g2⟩ := evalI2_ok hm hX hE Y n (f := f) h
                    refine ⟨GoV.opJ o ho (fun ι0 q hq => ?_) g1, g2⟩
                    unfold yldAt at hy
                    split at hy
                    · rename_i g xs ts hop
                      split at hy
                      · rename_i b hgv
                        cases hcc : Nat.beq b Y.lb && okConst g && xs.toList.all okConst && Nat.beq xs.size Y.params.size with
                        | false => rw [hcc] at hy; cases hy
                        | true =>
                          rw [hcc, cond_true] at hy
                          cases hy
                          simp only [Bool.and_eq_true] at hcc
                          have hb := Nat.eq_of_beq_eq_true hcc.1.1.1
                          subst hb
                          exact OpOkJ.yield hq hop hgv hcc.1.1.2 hcc.1.2 (Nat.eq_of_beq_eq_true hcc.2) hc.1.1.1 hc.1.1.2 (fun b hb => bbnd_ok (by
                            have := List.all_eq_true.1 hc.1.2 (s.mem.getD b .gone) (by simp [List.getD_eq_getElem?_getD, hb])
                            exact this)) (Nat.lt_of_succ_le (Nat.le_of_ble_eq_true hc.2)) (Nat.le_of_ble_eq_true hl)
                            (evalT2_ok hm hX hE (JR.keeps _ _) (JR.drawn _ _) n h1) (evalT2_ok hm hX hE (JR.keeps _ _) (JR.drawn _ _) n h2)
                      · cases hy
                    · cases hy
                · cases h
              · cases h
          · split at h
            · rename_i v1 m1 fp hy
              rw [fv_eq, fvc_eq, fbl_eq] at h
              obtain ⟨g1, g2⟩ := evalI2_ok hm hX hE Y n (f := f) h
              exact ⟨GoV.op (JR.keeps _ _) o ho (opW_ok hX hE hy) g1, g2⟩
            · cases h
/-- A run with ranges over functions. -/
def evalHk (P : Program) (X : Exts) (K : Hk) : Nat → FuncId → Func → VS → Option (Value × List Blk)
  | 0, _, _, _ => none
  | n + 1, f, fn, s => match retOf P fn s with
    | some v => some (v, s.mem)
    | none => match s with
      | .norm (.code (.rangeFunc g params assign body) :: k) a m => match evalC a g with
        | .func (.func fi) first captured => match P.funcs[fi]? with
          | none => none
          | some gn => bif okConst g && !(gn.name == "runtime.NumGoroutine") && gn.body.isSome then
              match evalI2 P X (fun g gn vs mf => match K g vs mf with | some r => some r | none => evalHk P X K n g gn (entry gn vs mf)) ⟨f, a, params, assign, body, m.length⟩ gn n (entry gn (first.toList ++ .chan (some m.length) :: captured.toList) (m ++ [.gone])) with
              | some (_, _, m1) => fbl m1 fun m1 => evalHk P X K n f fn (.norm k a m1)
              | none => none
            else none
        | _ => none
      | s => match vstepC P s with
        | some s' => evalHk P X K n f fn s'
        | none => match opAt s with
          | none => none
          | some o => match opW P X (fun g gn vs mf => match K g vs mf with | some r => some r | none => evalHk P X K n g gn (entry gn vs mf)) o s.slots s.mem with
            | some (v, m', fp) => fv v fun v => fvc v fun v => fbl m' fun m' => evalHk P X K n f fn (afterOp s o v m' fp)
            | none => none

variable {f : FuncId}
theorem evalHk_ok (hm : P.follows .mixedOrders = true) {X : Exts} (hX : ExtOk P X) {K : Hk} (hK : HkOk P K) : ∀ (n : Nat) {f : FuncId} {n0 : Nat} {fn : Func} {s : VS} {v : Value} {m' : List Blk}, P.funcs[f]? = some fn → evalHk P X K n f fn s = some (v, m') → RunsK P f n0 s v m'
  | 0, _, _, _, _, _, _, _, h => by cases h
  | n + 1, f, n0, fn, s, v, m', hf, h => by
    unfold evalHk at h
    split at h
    · rename_i hret
      cases h
      exact RunsK.ret hf hret
    · split at h
      · rename_i g params assign body k a m _
        split at h
        · rename_i fi first captured hg
          split at h
          · cases h
          · rename_i gn hfi
            cases hc : (okConst g && !(gn.name == "runtime.NumGoroutine") && gn.body.isSome) with
            | false => rw [hc] at h; cases h
            | true =>
              rw [hc, cond_true] at h
              simp only [Bool.and_eq_true, Bool.not_eq_true'] at hc
              split at h
              · rename_i td a1 m1 hI
                rw [fbl_eq] at h
                obtain ⟨g1, u, g2⟩ := evalI2_ok hm hX (hkE hK fun g gn vs mf v m1 hg hb he => FnEq.of_runsK hg hb (evalHk_ok hm hX hK n hg he)) _ n (f := fi) hI
                exact RunsKN.loop hg hc.1.1 hfi hc.1.2 hc.2 g1 g2 (evalHk_ok (n0 := n0) hm hX hK n hf h)
              · cases h
        · cases h
      · split at h
        · rename_i s' hs
          rw [vstepC_eq] at hs
          exact RunsK.step hm hs (evalHk_ok hm hX hK n hf h)
        · split at h
          · cases h
          · rename_i o ho
            split at h
            · rename_i v1 m1 fp hy
              rw [fv_eq, fvc_eq, fbl_eq] at h
              exact RunsK.op o ho (opW_ok hX (hkE hK fun g gn vs mf v m1 hg hb he => FnEq.of_runsK hg hb (evalHk_ok hm hX hK n hg he)) hy) (evalHk_ok hm hX hK n hf h)
            · cases h

/-- A function's contract, by a run. -/
theorem FnEq.evalHk (hm : P.follows .mixedOrders = true) {X : Exts} (hX : ExtOk P X) {K : Hk} (hK : HkOk P K) {fn : Func} {args : List Value} {v : Value} (n : Nat) (hf : P.funcs[f]? = some fn) (hb : fn.body.isSome = true) (hv : plain v = true)
    (h : (match Dt.evalHk P X K n f fn (entry fn args []) with | some (u, _) => some u | none => none) = some v) : FnEq P f args [] v [] := by
  split at h
  · rename_i u m' he
    cases h
    exact FnEq.pure (FnEq.of_runsK hf hb (evalHk_ok hm hX hK n hf he)) hv
  · cases h
end
end Go.Dt
