/- Several texts in one: Dt33, Dt34, Dt35. -/
import Derived.Test.YtdmcdijlpnbghaaGreatDoorQI13
namespace Go.Dt

section
open Go.RowKit
set_option linter.unusedVariables false
set_option linter.unusedSimpArgs false

/-- Where the value is some r, the run from s ends with what r stands for. -/
def LiftsF (P : Program) (f : Fr) (n0 : Nat) {ρ : Type} (E : ρ → VQ) (s : VS) (o : Option ρ) : Prop := ∀ r, o = some r → RunsE P f n0 s (E r)
abbrev Lifts (P : Program) (f : Fr) (n0 : Nat) {ρ : Type} (E : ρ → Value) (s : VS) (o : Option ρ) : Prop := LiftsF P f n0 (fun r => vq (E r)) s o

/-- Is a number a place among so many? -/
def inR (i : Int) (n : Nat) : Bool := decide (0 ≤ i) && decide (i < n)
/-- Is there room for so many elements of so many bytes? -/
def room (n bytes : Nat) : Bool := decide (2 * n * bytes ≤ 281474976710656) && decide (n ≤ 9223372036854775807)

section
variable {P : Program} {f : Fr} {n0 : Nat} {ρ : Type} {E : ρ → VQ} {s : VS} {T T1 T2 : Option ρ}

theorem Con.lift {E : ρ → Value} {f : FuncId} {fn : Func} {args : List Value} {o : Option ρ} (hf : P.funcs[f]? = some fn) (hn : ((fn.name == "runtime.NumGoroutine") || fn.body.isNone) = false) (hp : pures args = true) (hE : ∀ r, pureV (E r) = true)
    (h : Lifts P (.fn0 f) 0 E (entry fn args []) o) : ∀ r, o = some r → Con P f args (E r) := fun r hr =>
  Con.run hf hn (by rw [hp, hE r]; rfl) (h r hr)

theorem L.no : LiftsF P f n0 E s Option.none := fun r h => by cases h

theorem L.ret {E : ρ → Value} (fn : Func) (hm : P.follows .mixedOrders = true) {g : FuncId} (hf : P.funcs[g]? = some fn) {r0 : ρ} (v : Value) (h : retOf P fn (go P s) = some v) (e : v = E r0) (hg : f.IsF g := by exact rfl) : Lifts P f n0 E s (some r0) := fun r hr => by
  cases hr
  exact R.finIs hm hf v h e hg

theorem L.br (hm : P.follows .mixedOrders = true) (n : Nat) (b : Bool) (hs : condOf (vadv P n s) = some b) (h1 : b = true → LiftsF P f n0 E (goC (vadv P n s) true) T1) (h0 : b = false → LiftsF P f n0 E (goC (vadv P n s) false) T2) :
    LiftsF P f n0 E s (bif b then T1 else T2) := fun r hr =>
  R.branch hm n b hs (fun e => h1 e r (by rw [e] at hr; exact hr)) (fun e => h0 e r (by rw [e] at hr; exact hr))
theorem L.gu (hm : P.follows .mixedOrders = true) (n : Nat) (b : Bool) (hs : guardB (vadv P n s) = some b) (h1 : b = true → LiftsF P f n0 E (setG (vadv P n s) true) T1) (h0 : b = false → LiftsF P f n0 E (setG (vadv P n s) false) T2) :
    LiftsF P f n0 E s (bif b then T1 else T2) := fun r hr =>
  R.guard hm n b hs (fun e => h1 e r (by rw [e] at hr; exact hr)) (fun e => h0 e r (by rw [e] at hr; exact hr))
theorem L.brIs (hm : P.follows .mixedOrders = true) (n : Nat) (b b' : Bool) (e : b = b') (hs : condOf (vadv P n s) = some b) (h : LiftsF P f n0 E (goC (vadv P n s) b') T) : LiftsF P f n0 E s T := fun r hr => R.cond hm n b b' e hs (h r hr)
theorem L.call (hm : P.follows .mixedOrders = true) {u : Value} {g : FuncId} {args : List Value} (c : Con P g args u) (hs : callAt (go P s) = some (g, args)) (h : LiftsF P f n0 E (afterCall (go P s) u) T) : LiftsF P f n0 E s T := fun r hr => R.call hm c hs (h r hr)
theorem L.callO (hm : P.follows .mixedOrders = true) {U : Type} {G : Option U} {k : U → Option ρ} {g : FuncId} {args : List Value} (eu : U → Value) (c : ∀ u, G = some u → Con P g args (eu u)) (hs : callAt (go P s) = some (g, args))
    (h : ∀ u, G = some u → LiftsF P f n0 E (afterCall (go P s) (eu u)) (k u)) : LiftsF P f n0 E s (G.bind k) := fun r hr => by
  cases hG : G with
  | none => rw [hG] at hr; cases hr
  | some u =>
    rw [hG] at hr
    exact R.call hm (c u hG) hs (h u hG r hr)
theorem L.ext (hm : P.follows .mixedOrders = true) {u : Value} {g : FuncId} {e : Array Value → Sem Value} (args : Array Value) (he : externOf P g = some e) (hp : plain u = true) (hv : ∀ w, (e args).run P w = .ok u w) (hs : extAt (go P s) = some (g, args))
    (h : LiftsF P f n0 E (afterOne (go P s) u) T) : LiftsF P f n0 E s T := fun r hr => R.ext hm args he hp hv hs (h r hr)
theorem L.spell (hm : P.follows .mixedOrders = true) (n' : Nat) (d : Nat) (u u' : Value) (e : u = u') (hs : (vadv P n' s).slots.getD d undef = u) (h : LiftsF P f n0 E (setV (vadv P n' s) d u') T) : LiftsF P f n0 E s T := fun r hr => R.spell hm n' d u u' e hs (h r hr)

theorem L.div (hm : P.follows .mixedOrders = true) (n' : Nat) (q : Bool) (k : IntKind) (n d : Int) (hs : divAt (vadv P n' s) = some (q, k, n, d)) (h : d ≠ 0 → LiftsF P f n0 E (afterOne (vadv P n' s) (.int k (bif q then n.tmod d else k.wrap (n.tdiv d)))) T) :
    LiftsF P f n0 E s (bif d != 0 then T else none) := fun r hr => by
  cases hd : d != 0 with
  | false => rw [hd] at hr; cases hr
  | true =>
    rw [hd] at hr
    have hd' : d ≠ 0 := by simpa using hd
    exact R.div hm n' q k n d hd' hs (h hd' r hr)
/-- As far as a state that is known, of which only some slots matter, and some blocks. -/
theorem L.jump (hm : P.follows .mixedOrders = true) (n : Nat) (ks : List Nat) {st : VS} (e : keepS ks (vadv P n s) = st) (h : LiftsF P f n0 E st T) : LiftsF P f n0 E s T := fun r hr => R.at hm n ks e (h r hr)
theorem L.jumpG (hm : P.follows .mixedOrders = true) (n : Nat) (ks : List Nat) {st : VS} (Es : List Ent) (cs : List (List Value)) (e : gcS Es (keepS ks (vadv P n s)) = st)
    (hE : okE Es (keepS ks (vadv P n s)).mem (Es.map (downB Es (keepS ks (vadv P n s)).mem)) = true) (hv : viewsB Es (keepS ks (vadv P n s)).mem = cs) (hcs : puresAll cs) (hfirst : firstE Es (keepS ks (vadv P n s)).mem n0 = true) (hs : isNormS (keepS ks (vadv P n s)) = true)
    (h : LiftsF P f n0 E st T) : LiftsF P f n0 E s T := fun r hr =>
  RunsE.adv hm n (RunsE.forget ks (RunsE.gc Es hE (views_okP hv hcs) hfirst hs (e ▸ h r hr)))
/-! ### Slices that are known by what they hold -/
def fidxAt (P : Program) (s : VS) : Option (Nat × List Value × Nat × IntKind × Int) := match opAt s with
  | some o => match o.op with
    | .indexAddr t x ix => bif okConst x && okConst ix then (match asFrz (evalC s.slots x), evalC s.slots ix, P.underlying t with
      | some (n, c), .int k i, some (.slice e) => (match szC P e with
        | some sz => some (n, c, sz, k, i)
        | none => none)
      | _, _, _ => none) else none
    | _ => none
  | none => none

theorem L.idx (hm : P.follows .mixedOrders = true) (n' : Nat) (n : Nat) (c : List Value) (sz : Nat) (k : IntKind) (i : Int) (hs : fidxAt P (vadv P n' s) = some (n, c, sz, k, i)) (h : 0 ≤ i → i < n → LiftsF P f n0 E (afterOne (vadv P n' s) (frp c (i.toNat * sz))) T) :
    LiftsF P f n0 E s (bif inR i n then T else none) := fun r hr => by
  cases hi : inR i n with
  | false => rw [hi] at hr; cases hr
  | true =>
    rw [hi] at hr
    simp only [inR, Bool.and_eq_true, decide_eq_true_eq] at hi
    refine RunsE.adv hm n' ?_
    have h := h hi.1 hi.2 r hr
    unfold fidxAt at hs
    unfold afterOne at h
    split at hs
    · rename_i o ho
      simp only [ho, fv_eq] at h
      split at hs
      · rename_i t x ix hop
        cases hc : (okConst x && okConst ix) with
        | false => rw [hc] at hs; cases hs
        | true =>
          rw [hc, cond_true] at hs
          rw [Bool.and_eq_true] at hc
          split at hs
          · rename_i n1 c1 k1 i1 e hx hix hu
            split at hs
            · rename_i sz1 hz
              cases hs
              exact RunsE.op o ho (OpOk.idxFrz hop hc.1 hc.2 (asFrz_ok hx) hix hu hz hi.1 hi.2) h
            · cases hs
          · cases hs
      · cases hs
    · cases hs

def fldAt (s : VS) : Option (TypeId × List Value × Nat) := match opAt s with
  | some o => match o.op with
    | .load t x => bif okConst x then (match asFrp (evalC s.slots x) with
      | some (c, off) => some (t, c, off)
      | none => none) else none
    | _ => none
  | none => none

theorem L.ld (hm : P.follows .mixedOrders = true) (n' : Nat) (t : TypeId) (c : List Value) (off : Nat) (v : Value) (hs : fldAt (vadv P n' s) = some (t, c, off)) (hv : loadC P t c off = some v) (h : LiftsF P f n0 E (afterOne (vadv P n' s) v) T) : LiftsF P f n0 E s T := fun r hr => by
  refine RunsE.adv hm n' ?_
  have h := h r hr
  unfold fldAt at hs
  unfold afterOne at h
  split at hs
  · rename_i o ho
    simp only [ho, fv_eq] at h
    split at hs
    · rename_i t1 x hop
      cases hc : okConst x with
      | false => rw [hc] at hs; cases hs
      | true =>
        rw [hc, cond_true] at hs
        split at hs
        · rename_i c1 off1 hx
          cases hs
          exact RunsE.op o ho (OpOk.loadFrp hop hc (asFrp_ok hx) hv) h
        · cases hs
    · cases hs
  · cases hs

/-- The bounds of a cut. -/
def fslAt (P : Program) (s : VS) : Option (Nat × List Value × Nat × Option Int × Option Int) := match opAt s with
  | some o => match o.op with
    | .slice t x lo hi none => bif okConst x then (match asFrz (evalC s.slots x), P.underlying t with
      | some (n, c), some (.slice e) => (match szC P e with
        | some sz => (match (match lo with
            | none => some none
            | some y => bif okConst y then (match evalC s.slots y with | .int _ i => some (some i) | _ => none) else none), (match hi with
            | none => some none
            | some y => bif okConst y then (match evalC s.slots y with | .int _ i => some (some i) | _ => none) else none) with
          | some l, some h => some (n, c, sz, l, h)
          | _, _ => none)
        | none => none)
      | _, _ => none) else none
    | _ => none
  | none => none

def cutOk (n : Nat) (l h : Int) : Bool := decide (0 ≤ l) && decide (l ≤ h) && decide (h ≤ n)

theorem L.sl (hm : P.follows .mixedOrders = true) {α : Type} [F : Flat α] (n' : Nat) (xs : List α) (l h : Option Int) (hs : fslAt P (vadv P n' s) = some (xs.length, rows xs, F.sz, l, h))
    (hk : LiftsF P f n0 E (afterOne (vadv P n' s) (lst ((xs.drop (l.getD 0).toNat).take ((h.getD xs.length).toNat - (l.getD 0).toNat)))) T) :
    LiftsF P f n0 E s (bif cutOk xs.length (l.getD 0) (h.getD xs.length) then T else none) := fun r hr => by
  cases hi : cutOk xs.length (l.getD 0) (h.getD xs.length) with
  | false => rw [hi] at hr; cases hr
  | true =>
    rw [hi] at hr
    simp only [cutOk, Bool.and_eq_true, decide_eq_true_eq] at hi
    refine RunsE.adv hm n' ?_
    have h2 := hk r hr
    unfold fslAt at hs
    unfold afterOne at h2
    split at hs
    · rename_i o ho
      simp only [ho, fv_eq] at h2
      split at hs
      · rename_i t x lo hi' hop
        cases hc : okConst x with
        | false => rw [hc] at hs; cases hs
        | true =>
          rw [hc, cond_true] at hs
          split at hs
          · rename_i n1 c1 e hx hu
            split at hs
            · rename_i sz1 hz
              split at hs
              · rename_i l1 h1 hl hh
                have hs := Option.some.inj hs
                simp only [Prod.mk.injEq] at hs
                obtain ⟨rfl, rfl, rfl, rfl, rfl⟩ := hs
                have hlo : ∃ kl, (lo = none ∧ (l1.getD 0).toNat = 0) ∨ ∃ y, lo = some y ∧ okConst y = true ∧ evalC (vadv P n' s).slots y = .int kl ((l1.getD 0).toNat : Nat) := by
                  cases lo with
                  | none => cases hl; exact ⟨.i64, .inl ⟨rfl, rfl⟩⟩
                  | some y =>
                    simp only at hl
                    cases hcy : okConst y with
                    | false => rw [hcy] at hl; cases hl
                    | true =>
                      rw [hcy, cond_true] at hl
                      split at hl
                      · rename_i kk i hy
                        cases hl
                        refine ⟨kk, .inr ⟨y, rfl, hcy, ?_⟩⟩
                        rw [hy]
                        have : 0 ≤ i := hi.1.1
                        congr 1
                        simp only [Option.getD_some]
                        omega
                      · cases hl
                have hhi : ∃ kh, (hi' = none ∧ (h1.getD xs.length).toNat = xs.length) ∨ ∃ y, hi' = some y ∧ okConst y = true ∧ evalC (vadv P n' s).slots y = .int kh ((h1.getD xs.length).toNat : Nat) := by
                  cases hi' with
                  | none => cases hh; exact ⟨.i64, .inl ⟨rfl, rfl⟩⟩
                  | some y =>
                    simp only at hh
                    cases hcy : okConst y with
                    | false => rw [hcy] at hh; cases hh
                    | true =>
                      rw [hcy, cond_true] at hh
                      split at hh
                      · rename_i kk i hy
                        cases hh
                        refine ⟨kk, .inr ⟨y, rfl, hcy, ?_⟩⟩
                        rw [hy]
                        have := hi.1.1
                        have := hi.1.2
                        simp only [Option.getD_some] at *
                        congr 1
                        omega
                      · cases hh
                obtain ⟨kl, hlo⟩ := hlo
                obtain ⟨kh, hhi⟩ := hhi
                have hok := OpOk.sliceFrz (m := (vadv P n' s).mem) hop hc (asFrz_ok hx) hu hz (rows_length xs) hlo hhi (by omega) (by omega)
                rw [rows_drop, rows_take] at hok
                have hlen : ((xs.drop (l1.getD 0).toNat).take ((h1.getD xs.length).toNat - (l1.getD 0).toNat)).length = (h1.getD xs.length).toNat - (l1.getD 0).toNat := by
                  simp only [List.length_take, List.length_drop]; omega
                have e2 : lst ((xs.drop (l1.getD 0).toNat).take ((h1.getD xs.length).toNat - (l1.getD 0).toNat)) = frz ((h1.getD xs.length).toNat - (l1.getD 0).toNat) (rows ((xs.drop (l1.getD 0).toNat).take ((h1.getD xs.length).toNat - (l1.getD 0).toNat))) := by
                  unfold lst; rw [hlen]
                rw [← e2] at hok
                exact RunsE.op o ho hok h2
              · cases hs
            · cases hs
          · cases hs
      · cases hs
    · cases hs

end

end

section
open Go.RowKit
set_option linter.unusedVariables false
set_option linter.unusedSimpArgs false

/-- A row that is nil as long as nothing was appended. -/
def accV {α : Type} (b : Nat) : List α → Value
  | [] => .slice none 0 0
  | x :: xs => .slice (some ⟨b, 0, none⟩) (xs.length + 1) (xs.length + 1)
abbrev ownV {α : Type} (b : Nat) (xs : List α) : Value := .slice (some ⟨b, 0, none⟩) xs.length xs.length
section
variable {α : Type} [F : Flat α]
def accB : List α → Blk
  | [] => .gone
  | x :: xs => .cells (rows (x :: xs)) F.sz true
abbrev ownB (xs : List α) : Blk := .cells (rows xs) F.sz true
end

theorem OpOk.widen {P : Program} {o : Oper} {a : List Value} {m m' : List Blk} {v : Value} {b : Nat} {rd : List Nat} (hblt : b < m.length) (hb : m.getD b .gone = .gone) (hb' : m'.getD b .gone = .gone) (h : OpOk P o a m v m' ⟨rd, []⟩) : OpOk P o a m v m' ⟨b :: rd, [b]⟩ where
  len := h.len
  sub := by simp
  rdlt := fun x hx => by
    rcases List.mem_cons.1 hx with rfl | hx
    · exact hblt
    · exact h.rdlt x hx
  same := fun x hx _ => h.same x hx (by simp)
  run := fun ι t w hs hdom hsim next Q hn => by
    have e1 : (at_ m).only (isIn (b :: rd)) = (at_ m).only (isIn rd) := by
      funext x
      simp only [Cont.only]
      by_cases hx : x = b
      · have h1 : at_ m x = .gone := by rw [hx]; exact hb
        rw [h1]
        split <;> split <;> rfl
      · have e : isIn (b :: rd) x = isIn rd x := by simp [isIn, hx]
        simp only [e]
    have e2 : (at_ m').only (tch (b :: rd) m.length m'.length) = (at_ m').only (tch rd m.length m'.length) := by
      funext x
      simp only [Cont.only]
      by_cases hx : x = b
      · have h1 : at_ m' x = .gone := by rw [hx]; exact hb'
        rw [h1]
        split <;> split <;> rfl
      · have e : tch (b :: rd) m.length m'.length x = tch rd m.length m'.length x := by simp [tch, hx]
        simp only [e]
    refine h.run ι t w hs hdom (by rw [← e1]; exact hsim) next Q fun v' w1 ι' h1 h2 h3 h4 => hn v' w1 ι' h1 ?_ ?_ h4
    · rw [e1, e2]; exact h2
    · rw [e2]; exact h3

section
variable {P : Program} {f : Fr} {n0 : Nat} {ρ : Type} {E : ρ → VQ} {s : VS} {T : Option ρ} {α : Type} [F : Flat α]

/-- An append of one or more elements. -/
theorem L.push (hm : P.follows .mixedOrders = true) (n' : Nat) (b bytes b2 o2 : Nat) (c2 : List Value) (xs ys : List α) (hs : apAt P (vadv P n' s) = some (accV b xs, F.sz, bytes, b2, o2, ys.length, c2)) (hb : (vadv P n' s).mem[b]? = some (accB xs)) (hy : 0 < ys.length)
    (hfit2 : o2 + ys.length * F.sz ≤ c2.length) (hsrc : (c2.drop o2).take (ys.length * F.sz) = rows ys)
    (h : LiftsF P f n0 E (afterAp (vadv P n' s) (ownV (vadv P n' s).mem.length (xs ++ ys)) ((vadv P n' s).mem.set b .gone ++ [ownB (xs ++ ys)]) ⟨[b, b2], [b]⟩) T) :
    LiftsF P f n0 E s (bif room (xs.length + ys.length) bytes then T else none) := fun r hr => by
  cases hi : room (xs.length + ys.length) bytes with
  | false => rw [hi] at hr; cases hr
  | true =>
    rw [hi] at hr
    simp only [room, Bool.and_eq_true, decide_eq_true_eq] at hi
    have h := h r hr
    have hone : ((c2.drop o2).take (ys.length * F.sz)).all one = true := by rw [hsrc]; exact rows_one ys
    cases xs with
    | nil =>
      refine RunsE.adv hm n' ?_
      obtain ⟨o, so, x, t, tx, e, e', i, z, cap, sz, rw_, ho, hop, hc1, hc2, hse, hu, hu2, hxe, hb2, hinf, hz, hzs, hsz, rfl⟩ := apAt_inv hs
      unfold afterAp at h
      simp only [ho, fv_eq, fl_eq] at h
      have hblt : b < (vadv P n' s).mem.length := (List.getElem?_eq_some_iff.1 hb).1
      have hbg : (vadv P n' s).mem.getD b .gone = .gone := by simp [List.getD_eq_getElem?_getD, hb, accB]
      have hset : (vadv P n' s).mem.set b .gone = (vadv P n' s).mem := by
        apply List.ext_getElem?
        intro j
        by_cases hj : b = j
        · subst hj; rw [List.getElem?_set_self hblt, hb]; rfl
        · rw [List.getElem?_set_ne hj]
      simp only [List.length_nil, Nat.zero_add] at hi
      have hok := OpOk.appendNil (o := o) (a := (vadv P n' s).slots) (m := (vadv P n' s).mem) hop hc1 hc2 hse hy hu (.inl ⟨e', hu2⟩) hinf hz hzs hi.2 hi.1 (.sl hxe hb2 (by rw [hsz]; exact hfit2) (by rw [hsz]; exact hone))
      rw [hsz, hsrc] at hok
      have hok2 := OpOk.widen (b := b) hblt hbg (by
        simp only [List.getD_eq_getElem?_getD]
        rw [List.getElem?_append_left hblt, hb]; rfl) hok
      refine RunsE.op o ho hok2 ?_
      rw [hset] at h
      exact h
    | cons x xs =>
      have hb' : (vadv P n' s).mem[b]? = some (.cells (rows (x :: xs)) F.sz true) := hb
      refine RunsE.adv hm n' (RunsE.appGrow b 0 (xs.length + 1) F.sz bytes b2 o2 ys.length (rows (x :: xs)) c2 (rows ((x :: xs) ++ ys)) hs hb' hy ?_ hfit2 hone ?_ ?_ ?_ ?_)
      · rw [rows_length, Nat.zero_add]; exact Nat.le_refl _
      · simpa using hi.2
      · simpa using hi.1
      · rw [hsrc, List.drop_zero, List.take_of_length_le (by rw [rows_length]; exact Nat.le_refl _), rows_append]
      · have e : (xs.length + 1 + ys.length) = ((x :: xs) ++ ys).length := by simp; omega
        rw [e]
        exact h
/-- The same onto a row that is there. -/
theorem L.app (hm : P.follows .mixedOrders = true) (n' : Nat) (b bytes b2 o2 nn : Nat) (c2 : List Value) (xs ys : List α) (hnn : nn = xs.length) (hs : apAt P (vadv P n' s) = some (.slice (some ⟨b, 0, none⟩) nn nn, F.sz, bytes, b2, o2, ys.length, c2)) (hb : (vadv P n' s).mem[b]? = some (ownB xs)) (hy : 0 < ys.length)
    (hfit2 : o2 + ys.length * F.sz ≤ c2.length) (hsrc : (c2.drop o2).take (ys.length * F.sz) = rows ys)
    (h : LiftsF P f n0 E (afterAp (vadv P n' s) (ownV (vadv P n' s).mem.length (xs ++ ys)) ((vadv P n' s).mem.set b .gone ++ [ownB (xs ++ ys)]) ⟨[b, b2], [b]⟩) T) :
    LiftsF P f n0 E s (bif room (xs.length + ys.length) bytes then T else none) := fun r hr => by
  subst hnn
  cases hi : room (xs.length + ys.length) bytes with
  | false => rw [hi] at hr; cases hr
  | true =>
    rw [hi] at hr
    simp only [room, Bool.and_eq_true, decide_eq_true_eq] at hi
    have h := h r hr
    have hone : ((c2.drop o2).take (ys.length * F.sz)).all one = true := by rw [hsrc]; exact rows_one ys
    refine RunsE.adv hm n' (RunsE.appGrow b 0 xs.length F.sz bytes b2 o2 ys.length (rows xs) c2 (rows (xs ++ ys)) hs hb hy ?_ hfit2 hone hi.2 hi.1 ?_ ?_)
    · rw [rows_length, Nat.zero_add]; exact Nat.le_refl _
    · rw [hsrc, List.drop_zero, List.take_of_length_le (by rw [rows_length]; exact Nat.le_refl _), rows_append]
    · have e : (xs.length + ys.length) = (xs ++ ys).length := by simp
      rw [e]
      exact h

/-! ### Rows given up -/
theorem RunsE.frzN {s : VS} {v : VQ} (d b off n cap sz : Nat) (c l : List Value) (hs : slotV d s = .slice (some ⟨b, off, none⟩) n cap) (hb : s.mem[b]? = some (.cells c sz true))
    (hn : n ≤ cap) (hp : pures l = true) (hfl : off + l.length ≤ c.length) (hl : (c.drop off).take l.length = l) (h0 : n = 0 → l = []) (hns : isNormS s = true) (h : RunsE P f n0 (frzS d b (frz n l) s) v) : RunsE P f n0 s v := by
  obtain ⟨m', h, q⟩ := h
  cases s with
  | reg => cases hns
  | norm todo a m =>
    refine ⟨m', Runs.frzN d b off n cap sz c hs hb hn l hp hfl hl h0 ?_, q⟩
    simpa only [frzS, fv_eq, fl_eq] using h
theorem L.frzO (hm : P.follows .mixedOrders = true) (n' d b nn : Nat) (xs : List α) (hnn : nn = xs.length) (hs : slotV d (vadv P n' s) = .slice (some ⟨b, 0, none⟩) nn nn) (hb : (vadv P n' s).mem[b]? = some (ownB xs)) (hns : isNormS (vadv P n' s) = true) (h : LiftsF P f n0 E (frzS d b (lst xs) (vadv P n' s)) T) : LiftsF P f n0 E s T := fun r hr => by
  subst hnn
  exact RunsE.adv hm n' (RunsE.frzN d b 0 xs.length xs.length F.sz (rows xs) (rows xs) hs hb (Nat.le_refl _) (rows_pure xs) (by omega) (by rw [List.drop_zero, List.take_length]) (fun h => by
    have : xs = [] := List.eq_nil_of_length_eq_zero h
    subst this; rfl) hns (h r hr))
/-! ### Rows of one's own, element by element -/
theorem L.oidx (hm : P.follows .mixedOrders = true) (n' : Nat) (b off len n : Nat) (k : IntKind) (i : Int) (hs : idxAt P (vadv P n' s) = some (b, off, len, n, k, i)) (h : 0 ≤ i → i < len → LiftsF P f n0 E (afterOne (vadv P n' s) (.pointer (some ⟨b, off + i.toNat * n, none⟩))) T) :
    LiftsF P f n0 E s (bif inR i len then T else none) := fun r hr => by
  cases hi : inR i len with
  | false => rw [hi] at hr; cases hr
  | true =>
    rw [hi] at hr
    simp only [inR, Bool.and_eq_true, decide_eq_true_eq] at hi
    exact R.idx hm n' b off len n k i _ hs hi.1 hi.2 rfl (h hi.1 hi.2 r hr)
theorem L.old1 (hm : P.follows .mixedOrders = true) (n' : Nat) (n b off : Nat) (c : List Value) (u : Value) (hs : ldAt P (vadv P n' s) = some (false, n, b, off, c)) (hu : c[off]? = some u) (h : LiftsF P f n0 E (afterRd (vadv P n' s) b u) T) : LiftsF P f n0 E s T := fun r hr =>
  R.load1 hm n' n b off c u hs hu (h r hr)
theorem L.oldN (hm : P.follows .mixedOrders = true) (n' : Nat) (n b off : Nat) (c l : List Value) (hs : ldAt P (vadv P n' s) = some (true, n, b, off, c)) (hfit : off + n ≤ c.length) (hl : (c.drop off).take n = l) (h : LiftsF P f n0 E (afterRd (vadv P n' s) b (.agg ⟨l⟩)) T) : LiftsF P f n0 E s T := fun r hr =>
  R.loadN hm n' n b off c l hs hfit hl (h r hr)
theorem L.ost (hm : P.follows .mixedOrders = true) (n' : Nat) (u : Value) (n b off : Nat) (c c2 : List Value) (sz : Nat) (hs : stAt P (vadv P n' s) = some (n, b, off, c, sz, u)) (hn : u.cells.size = n) (hone : u.cells.toList.all one = true) (hfit : off + n ≤ c.length) (hc2 : splice c off u.cells.toList = c2)
    (h : LiftsF P f n0 E (afterWr (vadv P n' s) b (.cells c2 sz true)) T) : LiftsF P f n0 E s T := fun r hr => R.store hm n' u n b off c c2 sz hs hn hone hfit hc2 (h r hr)
end

end

section
open Go.RowKit
set_option linter.unusedVariables false
set_option linter.unusedSimpArgs false

def firstReg : Code → Nat
  | .region id _ _ => id
  | .seq (.region id _ _) _ => id
  | .seq a b => match firstReg a with
    | 0 => firstReg b
    | n + 1 => n + 1
  | .block _ c => firstReg c
  | .loop c => firstReg c
  | .scope c => firstReg c
  | .cond _ a b => match firstReg a with
    | 0 => firstReg b
    | n + 1 => n + 1
  | _ => 0
/-- The loops of a text, each with what is to be done from its head on. -/
def lheads : Code → List Item → List (Nat × List Item)
  | .seq a b, k => lheads a (.code b :: k) ++ lheads b k
  | .cond _ a b, k => lheads a k ++ lheads b k
  | .block id c, k => lheads c (.inBlock id :: k)
  | .loop c, k => (firstReg c, .code c :: .inLoop c :: k) :: lheads c (.inLoop c :: k)
  | _, _ => []
def todoL : List (Nat × List Item) → Nat → List Item
  | [], _ => []
  | (i, t) :: l, j => bif Nat.beq i j then t else todoL l j
def todoAt (fn : Func) (key : Nat) : List Item := match fn.body with
  | some c => todoL (lheads c []) key
  | none => []
/-- A loop's head. -/
def headS (fn : Func) (key : Nat) (l : List (Nat × Value)) (m : List Blk) : VS := fl (putA l (List.replicate fn.ntmps undef)) fun a => .norm (todoAt fn key) a m

theorem toNat_lt {i : Int} {n : Nat} (h0 : 0 ≤ i) (h1 : i < n) : i.toNat < n := by omega
theorem in_of {i : Int} {n : Nat} (h : inR i n = true) : 0 ≤ i ∧ i < n := by simpa [inR] using h

section
variable {α : Type} [F : Flat α]
theorem rows_setF : ∀ (xs : List α) (i d off : Nat) (vs : List Value) (v : α), off = i * F.sz + d → i < xs.length → d + vs.length ≤ F.sz → splice (F.cells (getR xs i)) d vs = F.cells v → splice (rows xs) off vs = rows (xs.set i v)
  | [], _, _, _, _, _, _, h, _, _ => by cases h
  | x :: xs, 0, d, off, vs, v, ho, _, hd, h => by
    subst ho
    have hl := F.len x
    have h : splice (F.cells x) d vs = F.cells v := h
    simp only [splice, Nat.zero_mul, Nat.zero_add, rows, List.set_cons_zero] at h ⊢
    rw [← h, List.take_append, List.drop_append]
    have e1 : d - (F.cells x).length = 0 := by omega
    have e2 : d + vs.length - (F.cells x).length = 0 := by omega
    rw [e1, e2]
    simp [List.append_assoc]
  | x :: xs, i + 1, d, off, vs, v, ho, hi, hd, h => by
    subst ho
    rw [getR_cons] at h
    have ih := rows_setF xs i d _ vs v rfl (by simpa using hi) hd h
    have e : (i + 1) * F.sz + d = (F.cells x).length + (i * F.sz + d) := by rw [F.len, Nat.add_mul]; omega
    simp only [splice] at ih ⊢
    rw [List.set_cons_succ, rows, rows, e, List.take_append, List.take_of_length_le (by omega), Nat.add_sub_cancel_left, Nat.add_assoc, ← List.drop_drop, List.drop_left, ← ih]
    simp [List.append_assoc]
theorem rows_subN {xs : List α} {i d k off : Nat} {l : List Value} (ho : off = i * F.sz + d) (hi : i < xs.length) (hk : d + k ≤ F.sz) (hl : ((F.cells (getR xs i)).drop d).take k = l) : ((rows xs).drop off).take k = l := by
  subst ho; rw [rows_sub xs i d k hi hk, hl]
theorem rows_sub1 {xs : List α} {i d off : Nat} {v : Value} (ho : off = i * F.sz + d) (hi : i < xs.length) (hd : d < F.sz) (hl : (F.cells (getR xs i))[d]? = some v) : (rows xs)[off]? = some v := by
  subst ho; rw [rows_cell xs i d hi hd, hl]
theorem rows_fitN {xs : List α} {i d k off : Nat} (ho : off = i * F.sz + d) (hi : i < xs.length) (hk : d + k ≤ F.sz) : off + k ≤ (rows xs).length := by
  subst ho; exact rows_fit hi hk
end

/-- A byte of a text. -/
def byteAt (b : ByteArray) (i : Int) : Int := ((b[i.toNat]?).getD 0).toNat
section
variable {P : Program} {f : Fr} {n0 : Nat} {ρ : Type} {E : ρ → VQ} {s : VS} {T : Option ρ} {α : Type} [F : Flat α]

theorem L.push0 (hm : P.follows .mixedOrders = true) (n' : Nat) (bytes b2 o2 : Nat) (c2 : List Value) (ys : List α) (hs : apAt P (vadv P n' s) = some (.slice none 0 0, F.sz, bytes, b2, o2, ys.length, c2)) (hy : 0 < ys.length)
    (hfit2 : o2 + ys.length * F.sz ≤ c2.length) (hsrc : (c2.drop o2).take (ys.length * F.sz) = rows ys)
    (h : LiftsF P f n0 E (afterAp (vadv P n' s) (ownV (vadv P n' s).mem.length ys) ((vadv P n' s).mem ++ [ownB ys]) ⟨[b2], []⟩) T) :
    LiftsF P f n0 E s (bif room (([] : List α).length + ys.length) bytes then T else none) := fun r hr => by
  cases hi : room (([] : List α).length + ys.length) bytes with
  | false => rw [hi] at hr; cases hr
  | true =>
    rw [hi] at hr
    simp only [room, Bool.and_eq_true, decide_eq_true_eq, List.length_nil, Nat.zero_add] at hi
    exact RunsE.adv hm n' (RunsE.appNil F.sz bytes b2 o2 ys.length c2 (rows ys) hs hy hfit2 (by rw [hsrc]; exact rows_one ys) hi.2 hi.1 hsrc (h r hr))

def frz1 (d : Nat) : VS → VS
  | .norm todo a m => fl (a.set d (frz 0 [])) fun a' => .norm todo a' m
  | s => s
theorem L.frzNil (hm : P.follows .mixedOrders = true) (n' d : Nat) (hs : slotV d (vadv P n' s) = .slice none 0 0) (h : LiftsF P f n0 E (frz1 d (vadv P n' s)) T) : LiftsF P f n0 E s T := fun r hr => by
  refine RunsE.adv hm n' ?_
  obtain ⟨m', h, q⟩ := h r hr
  generalize vadv P n' s = s' at hs h
  cases s' with
  | reg => exact ⟨m', h, q⟩
  | norm todo a m =>
    refine ⟨m', ?_, q⟩
    simp only [frz1, fl_eq] at h
    intro D ds ι t w hr
    refine h D ds ι t w ⟨by simpa using hr.size, fun x => ?_, hr.sim, hr.dom⟩
    by_cases hx : d = x
    · subst hx
      by_cases hda : d < a.length
      · have hv := hr.slots d
        rw [show a.getD d undef = .slice none 0 0 from hs] at hv
        rw [show (a.set d (Dt.frz 0 [])).getD d undef = Dt.frz 0 [] by simp [List.getD_eq_getElem?_getD, hda]]
        generalize t.getD d undef = y at hv
        cases hv
        exact .frzN
      · have e : (a.set d (Dt.frz 0 [])) = a := List.set_eq_of_length_le (by omega)
        rw [e]; exact hr.slots d
    · rw [show (a.set d (Dt.frz 0 [])).getD x undef = a.getD x undef by simp [List.getD_eq_getElem?_getD, List.getElem?_set_ne hx]]
      exact hr.slots x

theorem L.strIdx (hm : P.follows .mixedOrders = true) (n' : Nat) (t : TypeId) (b : ByteArray) (k : IntKind) (i : Int) (hs : strAt (vadv P n' s) = some (t, b, k, i)) (ht : P.underlying t = some .string) (h : 0 ≤ i → i < b.size → LiftsF P f n0 E (afterOne (vadv P n' s) (.int .u8 (byteAt b i))) T) :
    LiftsF P f n0 E s (bif inR i b.size then T else none) := fun r hr => by
  cases hi : inR i b.size with
  | false => rw [hi] at hr; cases hr
  | true =>
    rw [hi] at hr
    obtain ⟨h0, h1⟩ := in_of hi
    have hlt : i.toNat < b.size := by omega
    have hb : b[i.toNat]? = some b[i.toNat] := by simp [hlt]
    have h := h h0 h1 r hr
    have e : byteAt b i = (b[i.toNat]).toNat := by unfold byteAt; rw [hb]; rfl
    rw [e] at h
    exact R.strIndex hm n' t b k i _ hs ht h0 hb h

/-! ### Appends of slices that are known by what they hold -/
end

end

end Go.Dt
