/- Lifting: one combinator for each thing that the machine can't reckon by itself. -/
import Derived.Test.YtjfodgjgpeiaaaaDt32
namespace Go.Dt
open Go.RowKit
set_option linter.unusedVariables false
set_option linter.unusedSimpArgs false

/-- Where the value is some r, the run from s ends with what r stands for. -/
def Lifts (P : Program) (f : FuncId) (n0 : Nat) {ρ : Type} (E : ρ → Value) (s : VS) (o : Option ρ) : Prop := ∀ r, o = some r → RunsE P f n0 s (E r)

/-- Is a number a place among so many? -/
def inR (i : Int) (n : Nat) : Bool := decide (0 ≤ i) && decide (i < n)
/-- Is there room for so many elements of so many bytes? -/
def room (n bytes : Nat) : Bool := decide (2 * n * bytes ≤ 281474976710656) && decide (n ≤ 9223372036854775807)

section
variable {P : Program} {f : FuncId} {n0 : Nat} {ρ : Type} {E : ρ → Value} {s : VS} {T T1 T2 : Option ρ}

theorem Con.lift {fn : Func} {args : List Value} {o : Option ρ} (hf : P.funcs[f]? = some fn) (hn : ((fn.name == "runtime.NumGoroutine") || fn.body.isNone) = false) (hp : pures args = true) (hE : ∀ r, pureV (E r) = true)
    (h : Lifts P f 0 E (entry fn args []) o) : ∀ r, o = some r → Con P f args (E r) := fun r hr =>
  Con.run hf hn (by rw [hp, hE r]; rfl) (h r hr)

theorem L.no : Lifts P f n0 E s Option.none := fun r h => by cases h

theorem L.ret (fn : Func) (hm : P.follows .mixedOrders = true) (hf : P.funcs[f]? = some fn) {r0 : ρ} (v : Value) (h : retOf P fn (go P s) = some v) (e : v = E r0) : Lifts P f n0 E s (some r0) := fun r hr => by
  cases hr
  exact R.finIs hm hf v h e

theorem L.br (hm : P.follows .mixedOrders = true) (n : Nat) (b : Bool) (hs : condOf (vadv P n s) = some b) (h1 : b = true → Lifts P f n0 E (goC (vadv P n s) true) T1) (h0 : b = false → Lifts P f n0 E (goC (vadv P n s) false) T2) :
    Lifts P f n0 E s (bif b then T1 else T2) := fun r hr =>
  R.branch hm n b hs (fun e => h1 e r (by rw [e] at hr; exact hr)) (fun e => h0 e r (by rw [e] at hr; exact hr))
theorem L.gu (hm : P.follows .mixedOrders = true) (n : Nat) (b : Bool) (hs : guardB (vadv P n s) = some b) (h1 : b = true → Lifts P f n0 E (setG (vadv P n s) true) T1) (h0 : b = false → Lifts P f n0 E (setG (vadv P n s) false) T2) :
    Lifts P f n0 E s (bif b then T1 else T2) := fun r hr =>
  R.guard hm n b hs (fun e => h1 e r (by rw [e] at hr; exact hr)) (fun e => h0 e r (by rw [e] at hr; exact hr))
theorem L.brIs (hm : P.follows .mixedOrders = true) (n : Nat) (b b' : Bool) (e : b = b') (hs : condOf (vadv P n s) = some b) (h : Lifts P f n0 E (goC (vadv P n s) b') T) : Lifts P f n0 E s T := fun r hr => R.cond hm n b b' e hs (h r hr)
theorem L.guIs (hm : P.follows .mixedOrders = true) (n : Nat) (b b' : Bool) (e : b = b') (hs : guardB (vadv P n s) = some b) (h : Lifts P f n0 E (setG (vadv P n s) b') T) : Lifts P f n0 E s T := fun r hr => R.guardIs hm n b b' e hs (h r hr)

theorem L.call (hm : P.follows .mixedOrders = true) {u : Value} {g : FuncId} {args : List Value} (c : Con P g args u) (hs : callAt (go P s) = some (g, args)) (h : Lifts P f n0 E (afterCall (go P s) u) T) : Lifts P f n0 E s T := fun r hr => R.call hm c hs (h r hr)
theorem L.callO (hm : P.follows .mixedOrders = true) {U : Type} {G : Option U} {k : U → Option ρ} {g : FuncId} {args : List Value} (eu : U → Value) (c : ∀ u, G = some u → Con P g args (eu u)) (hs : callAt (go P s) = some (g, args))
    (h : ∀ u, G = some u → Lifts P f n0 E (afterCall (go P s) (eu u)) (k u)) : Lifts P f n0 E s (G.bind k) := fun r hr => by
  cases hG : G with
  | none => rw [hG] at hr; cases hr
  | some u =>
    rw [hG] at hr
    exact R.call hm (c u hG) hs (h u hG r hr)
theorem L.ext (hm : P.follows .mixedOrders = true) {u : Value} {g : FuncId} {e : Array Value → Sem Value} (args : Array Value) (he : externOf P g = some e) (hp : plain u = true) (hv : ∀ w, (e args).run P w = .ok u w) (hs : extAt (go P s) = some (g, args))
    (h : Lifts P f n0 E (afterOne (go P s) u) T) : Lifts P f n0 E s T := fun r hr => R.ext hm args he hp hv hs (h r hr)
theorem L.spell (hm : P.follows .mixedOrders = true) (n' : Nat) (d : Nat) (u u' : Value) (e : u = u') (hs : (vadv P n' s).slots.getD d undef = u) (h : Lifts P f n0 E (setV (vadv P n' s) d u') T) : Lifts P f n0 E s T := fun r hr => R.spell hm n' d u u' e hs (h r hr)

theorem L.div (hm : P.follows .mixedOrders = true) (n' : Nat) (q : Bool) (k : IntKind) (n d : Int) (hs : divAt (vadv P n' s) = some (q, k, n, d)) (h : d ≠ 0 → Lifts P f n0 E (afterOne (vadv P n' s) (.int k (bif q then n.tmod d else k.wrap (n.tdiv d)))) T) :
    Lifts P f n0 E s (bif d != 0 then T else none) := fun r hr => by
  cases hd : d != 0 with
  | false => rw [hd] at hr; cases hr
  | true =>
    rw [hd] at hr
    have hd' : d ≠ 0 := by simpa using hd
    exact R.div hm n' q k n d hd' hs (h hd' r hr)
theorem L.divC (hm : P.follows .mixedOrders = true) (n' : Nat) (q : Bool) (k : IntKind) (n d : Int) (hd : d ≠ 0) (hs : divAt (vadv P n' s) = some (q, k, n, d)) (h : Lifts P f n0 E (afterOne (vadv P n' s) (.int k (bif q then n.tmod d else k.wrap (n.tdiv d)))) T) :
    Lifts P f n0 E s T := fun r hr => R.div hm n' q k n d hd hs (h r hr)
theorem L.shift (hm : P.follows .mixedOrders = true) (n' : Nat) (q : Bool) (k : IntKind) (n d : Int) (hs : shiftAt (vadv P n' s) = some (q, k, n, d)) (h : 0 ≤ d → Lifts P f n0 E (afterOne (vadv P n' s) (.int k (bif q then n.fdiv (2 ^ min d.toNat k.bits) else k.wrap (n * 2 ^ min d.toNat k.bits)))) T) :
    Lifts P f n0 E s (bif decide (0 ≤ d) then T else none) := fun r hr => by
  cases hd : decide (0 ≤ d) with
  | false => rw [hd] at hr; cases hr
  | true =>
    rw [hd] at hr
    have hd' : 0 ≤ d := by simpa using hd
    exact R.shiftIs hm n' q k n d _ hd' rfl hs (h hd' r hr)

/-- As far as a state that is known, of which only some slots matter, and some blocks. -/
theorem L.jump (hm : P.follows .mixedOrders = true) (n : Nat) (ks : List Nat) {st : VS} (e : keepS ks (vadv P n s) = st) (h : Lifts P f n0 E st T) : Lifts P f n0 E s T := fun r hr => R.at hm n ks e (h r hr)
theorem L.jumpG (hm : P.follows .mixedOrders = true) (n : Nat) (ks : List Nat) {st : VS} (Es : List Ent) (cs : List (List Value)) (e : gcS Es (keepS ks (vadv P n s)) = st)
    (hE : okE Es (keepS ks (vadv P n s)).mem (Es.map (downB Es (keepS ks (vadv P n s)).mem)) = true) (hv : viewsB Es (keepS ks (vadv P n s)).mem = cs) (hcs : puresAll cs) (hfirst : firstE Es (keepS ks (vadv P n s)).mem n0 = true) (hs : isNormS (keepS ks (vadv P n s)) = true)
    (h : Lifts P f n0 E st T) : Lifts P f n0 E s T := fun r hr =>
  RunsE.adv hm n (RunsE.forget ks (RunsE.gc Es hE (views_okP hv hcs) hfirst hs (e ▸ h r hr)))
theorem L.pad (hm : P.follows .mixedOrders = true) (n : Nat) (h : Lifts P f n0 E (padS (vadv P n s)) T) : Lifts P f n0 E s T := fun r hr => RunsE.adv hm n (RunsE.pad (h r hr))

/-! ### Slices that are known by what they hold -/
def fidxAt (P : Program) (s : VS) : Option (Nat × List Value × Nat × IntKind × Int) := match opAt s with
  | some o => match o.op with
    | .indexAddr t x ix => bif okConst x && okConst ix then (match asFrz (evalC s.slots x), evalC s.slots ix, P.underlying t with
      | some (n, c), .int k i, some (.slice e) => (match szC P e with
        | some sz => some (n, c, sz, k, i)
        | none => none)
      | _, _, _ => none) else none
    | _ => none
  | none => none

theorem L.idx (hm : P.follows .mixedOrders = true) (n' : Nat) (n : Nat) (c : List Value) (sz : Nat) (k : IntKind) (i : Int) (hs : fidxAt P (vadv P n' s) = some (n, c, sz, k, i)) (h : 0 ≤ i → i < n → Lifts P f n0 E (afterOne (vadv P n' s) (frp c (i.toNat * sz))) T) :
    Lifts P f n0 E s (bif inR i n then T else none) := fun r hr => by
  cases hi : inR i n with
  | false => rw [hi] at hr; cases hr
  | true =>
    rw [hi] at hr
    simp only [inR, Bool.and_eq_true, decide_eq_true_eq] at hi
    refine RunsE.adv hm n' ?_
    have h := h hi.1 hi.2 r hr
    unfold fidxAt at hs
    unfold afterOne at h
    split at hs
    · rename_i o ho
      simp only [ho, fv_eq] at h
      split at hs
      · rename_i t x ix hop
        cases hc : (okConst x && okConst ix) with
        | false => rw [hc] at hs; cases hs
        | true =>
          rw [hc, cond_true] at hs
          rw [Bool.and_eq_true] at hc
          split at hs
          · rename_i n1 c1 k1 i1 e hx hix hu
            split at hs
            · rename_i sz1 hz
              cases hs
              exact RunsE.op o ho (OpOk.idxFrz hop hc.1 hc.2 (asFrz_ok hx) hix hu hz hi.1 hi.2) h
            · cases hs
          · cases hs
      · cases hs
    · cases hs

def fldAt (s : VS) : Option (TypeId × List Value × Nat) := match opAt s with
  | some o => match o.op with
    | .load t x => bif okConst x then (match asFrp (evalC s.slots x) with
      | some (c, off) => some (t, c, off)
      | none => none) else none
    | _ => none
  | none => none

theorem L.ld (hm : P.follows .mixedOrders = true) (n' : Nat) (t : TypeId) (c : List Value) (off : Nat) (v : Value) (hs : fldAt (vadv P n' s) = some (t, c, off)) (hv : loadC P t c off = some v) (h : Lifts P f n0 E (afterOne (vadv P n' s) v) T) : Lifts P f n0 E s T := fun r hr => by
  refine RunsE.adv hm n' ?_
  have h := h r hr
  unfold fldAt at hs
  unfold afterOne at h
  split at hs
  · rename_i o ho
    simp only [ho, fv_eq] at h
    split at hs
    · rename_i t1 x hop
      cases hc : okConst x with
      | false => rw [hc] at hs; cases hs
      | true =>
        rw [hc, cond_true] at hs
        split at hs
        · rename_i c1 off1 hx
          cases hs
          exact RunsE.op o ho (OpOk.loadFrp hop hc (asFrp_ok hx) hv) h
        · cases hs
    · cases hs
  · cases hs

/-- The bounds of a cut. -/
def fslAt (P : Program) (s : VS) : Option (Nat × List Value × Nat × Option Int × Option Int) := match opAt s with
  | some o => match o.op with
    | .slice t x lo hi none => bif okConst x then (match asFrz (evalC s.slots x), P.underlying t with
      | some (n, c), some (.slice e) => (match szC P e with
        | some sz => (match (match lo with
            | none => some none
            | some y => bif okConst y then (match evalC s.slots y with | .int _ i => some (some i) | _ => none) else none), (match hi with
            | none => some none
            | some y => bif okConst y then (match evalC s.slots y with | .int _ i => some (some i) | _ => none) else none) with
          | some l, some h => some (n, c, sz, l, h)
          | _, _ => none)
        | none => none)
      | _, _ => none) else none
    | _ => none
  | none => none

def cutOk (n : Nat) (l h : Int) : Bool := decide (0 ≤ l) && decide (l ≤ h) && decide (h ≤ n)

theorem L.sl (hm : P.follows .mixedOrders = true) {α : Type} [F : Flat α] (n' : Nat) (xs : List α) (l h : Option Int) (hs : fslAt P (vadv P n' s) = some (xs.length, rows xs, F.sz, l, h))
    (hk : Lifts P f n0 E (afterOne (vadv P n' s) (lst ((xs.drop (l.getD 0).toNat).take ((h.getD xs.length).toNat - (l.getD 0).toNat)))) T) :
    Lifts P f n0 E s (bif cutOk xs.length (l.getD 0) (h.getD xs.length) then T else none) := fun r hr => by
  cases hi : cutOk xs.length (l.getD 0) (h.getD xs.length) with
  | false => rw [hi] at hr; cases hr
  | true =>
    rw [hi] at hr
    simp only [cutOk, Bool.and_eq_true, decide_eq_true_eq] at hi
    refine RunsE.adv hm n' ?_
    have h2 := hk r hr
    unfold fslAt at hs
    unfold afterOne at h2
    split at hs
    · rename_i o ho
      simp only [ho, fv_eq] at h2
      split at hs
      · rename_i t x lo hi' hop
        cases hc : okConst x with
        | false => rw [hc] at hs; cases hs
        | true =>
          rw [hc, cond_true] at hs
          split at hs
          · rename_i n1 c1 e hx hu
            split at hs
            · rename_i sz1 hz
              split at hs
              · rename_i l1 h1 hl hh
                have hs := Option.some.inj hs
                simp only [Prod.mk.injEq] at hs
                obtain ⟨rfl, rfl, rfl, rfl, rfl⟩ := hs
                have hlo : ∃ kl, (lo = none ∧ (l1.getD 0).toNat = 0) ∨ ∃ y, lo = some y ∧ okConst y = true ∧ evalC (vadv P n' s).slots y = .int kl ((l1.getD 0).toNat : Nat) := by
                  cases lo with
                  | none => cases hl; exact ⟨.i64, .inl ⟨rfl, rfl⟩⟩
                  | some y =>
                    simp only at hl
                    cases hcy : okConst y with
                    | false => rw [hcy] at hl; cases hl
                    | true =>
                      rw [hcy, cond_true] at hl
                      split at hl
                      · rename_i kk i hy
                        cases hl
                        refine ⟨kk, .inr ⟨y, rfl, hcy, ?_⟩⟩
                        rw [hy]
                        have : 0 ≤ i := hi.1.1
                        congr 1
                        simp only [Option.getD_some]
                        omega
                      · cases hl
                have hhi : ∃ kh, (hi' = none ∧ (h1.getD xs.length).toNat = xs.length) ∨ ∃ y, hi' = some y ∧ okConst y = true ∧ evalC (vadv P n' s).slots y = .int kh ((h1.getD xs.length).toNat : Nat) := by
                  cases hi' with
                  | none => cases hh; exact ⟨.i64, .inl ⟨rfl, rfl⟩⟩
                  | some y =>
                    simp only at hh
                    cases hcy : okConst y with
                    | false => rw [hcy] at hh; cases hh
                    | true =>
                      rw [hcy, cond_true] at hh
                      split at hh
                      · rename_i kk i hy
                        cases hh
                        refine ⟨kk, .inr ⟨y, rfl, hcy, ?_⟩⟩
                        rw [hy]
                        have := hi.1.1
                        have := hi.1.2
                        simp only [Option.getD_some] at *
                        congr 1
                        omega
                      · cases hh
                obtain ⟨kl, hlo⟩ := hlo
                obtain ⟨kh, hhi⟩ := hhi
                have hok := OpOk.sliceFrz (m := (vadv P n' s).mem) hop hc (asFrz_ok hx) hu hz (rows_length xs) hlo hhi (by omega) (by omega)
                rw [rows_drop, rows_take] at hok
                have hlen : ((xs.drop (l1.getD 0).toNat).take ((h1.getD xs.length).toNat - (l1.getD 0).toNat)).length = (h1.getD xs.length).toNat - (l1.getD 0).toNat := by
                  simp only [List.length_take, List.length_drop]; omega
                have e2 : lst ((xs.drop (l1.getD 0).toNat).take ((h1.getD xs.length).toNat - (l1.getD 0).toNat)) = frz ((h1.getD xs.length).toNat - (l1.getD 0).toNat) (rows ((xs.drop (l1.getD 0).toNat).take ((h1.getD xs.length).toNat - (l1.getD 0).toNat))) := by
                  unfold lst; rw [hlen]
                rw [← e2] at hok
                exact RunsE.op o ho hok h2
              · cases hs
            · cases hs
          · cases hs
      · cases hs
    · cases hs

end
end Go.Dt
