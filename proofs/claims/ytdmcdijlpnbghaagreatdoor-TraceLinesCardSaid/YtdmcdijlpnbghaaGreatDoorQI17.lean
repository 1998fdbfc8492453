/- Several texts in one: Dt42, Dt43, Dt44. -/
import Derived.Test.YtdmcdijlpnbghaaGreatDoorQI16
namespace Go.Dt

section
open Go.RowKit Go.Instr
set_option linter.unusedVariables false
set_option linter.unusedSimpArgs false

/-- The text of bytes. -/
def strN : List Int → ByteArray → ByteArray
  | [], s => s
  | n :: l, s => strN l (s.push (UInt8.ofNat n.toNat))
def bytesC : List Value → List Int
  | .int .u8 n :: l => n :: bytesC l
  | _ => []
def allU8 : List Value → Bool
  | [] => true
  | .int .u8 _ :: l => allU8 l
  | _ => false

section
variable {P : Program} {o : Oper} {a : List Value} {m : List Blk}
theorem run_bytes {w : World} : ∀ (l l' : List Value) (s : ByteArray), allU8 l = true → l' = l →
    (forIn l' s fun (c : Value) (r : ByteArray) => (match c with
      | .int .u8 n => pure (ForInStep.yield (r.push (UInt8.ofNat n.toNat)))
      | _ => do
        stuck "bytesToString: byte expected"
        pure (ForInStep.yield r) : Sem (ForInStep ByteArray))).run P w = .ok (strN (bytesC l) s) w
  | [], _, s, _, rfl => by simp [bytesC, strN]
  | v :: l, _, s, h, rfl => by
    match v, h with
    | .int .u8 n, h =>
      have ih := run_bytes (w := w) l l (s.push (UInt8.ofNat n.toNat)) h rfl
      simp only [List.forIn_cons]
      simpa [bytesC, strN] using ih
theorem allU8_get : ∀ {l : List Value} {i : Nat}, allU8 l = true → i < l.length → ∃ n, l.getD i undef = .int .u8 n
  | [], i, _, h => absurd h (Nat.not_lt_zero _)
  | .int .u8 n :: l, 0, _, _ => ⟨n, rfl⟩
  | .int .u8 n :: l, i + 1, h, hi => by
    obtain ⟨k, hk⟩ := allU8_get (l := l) (i := i) h (Nat.lt_of_succ_lt_succ hi)
    exact ⟨k, by simpa using hk⟩
theorem run_bytesToString {w : World} {a : Addr} {n cap : Nat} {l : List Value} (hl : (loadCells a n).run P w = .ok l.toArray w) (hu : allU8 l = true) :
    (Conv.bytesToString (.slice (some a) n cap)).run P w = .ok (.string (strN (bytesC l) .empty)) w := by
  unfold Conv.bytesToString
  simp only [Sem.run_bind, hl, Result.andThen_ok, List.forIn_toArray]
  have h := run_bytes (P := P) (w := w) l l .empty hu rfl
  exact (congrArg (fun r : Result ByteArray => r.andThen fun a w' => (pure (Value.string a) : Sem Value).run P w') h).trans rfl
theorem OpOk.bytesOwn {src dst e : TypeId} {x : Operand} {b off n cap sz : Nat} {c : List Value} {rw_ : Bool} (ho : o.op = .convert src dst x) (hc : okConst x = true) (hx : evalC a x = .slice (some ⟨b, off, none⟩) n cap) (hb : m[b]? = some (.cells c sz rw_))
    (hs1 : P.underlying src = some (.slice e)) (hs2 : P.underlying dst = some .string) (hs3 : P.underlying e = some (.int .u8)) (hfit : off + n ≤ c.length) (hu : allU8 ((c.drop off).take n) = true) :
    OpOk P o a m (.string (strN (bytesC ((c.drop off).take n)) .empty)) m ⟨[b], []⟩ := by
  have hblt : b < m.length := (List.getElem?_eq_some_iff.1 hb).1
  refine OpOk.reads (by simpa using hblt) fun ι tt w hs hbl => ?_
  have h := rv_operand hs (x := x) (by rw [ho]; simp [Op.operands]) hc
  rw [hx] at h
  refine ⟨_, .string _, ?_⟩
  generalize hy : (act tt).eval x = y at h
  cases h with
  | slice0 p q =>
    have hl : (loadCells q 0).run P w = .ok ([] : List Value).toArray w := by simp [loadCells, loadCellsFrom]
    have := run_bytesToString (cap := 0) hl rfl
    unfold execOp; rw [ho]
    simp [convert, run_underlying hs1 w, run_underlying hs2 w, run_underlying hs3 w, hy, this, bytesC, strN]
  | @slice _ _ _ _ cap' L hL _ _ =>
    have := hbl b (by simp)
    rw [show m.getD b .gone = .cells c sz rw_ by simp [List.getD_eq_getElem?_getD, hb]] at this
    obtain ⟨L', c', te, fz, hL', hh, hfit', _, _, hcells⟩ := this
    rw [hL] at hL'; cases hL'
    have hl := run_loadCells (P := P) w ⟨L.blk, L.off + off, none⟩ n (fun j => c'.getD (L.off + off + j) undef) (fun j hj => by rw [addr_add]; exact cell_of hh (by omega))
    have e2 : (List.range n).map (fun j => c'.getD (L.off + off + j) undef) = (c.drop off).take n := by
      apply List.ext_getElem
      · simp; omega
      · intro j h1 h2
        simp only [List.length_map, List.length_range] at h1
        have h3 := hcells (off + j) (by omega)
        obtain ⟨k, hk⟩ := allU8_get (i := j) hu (by simp; omega)
        have h4 : ((c.drop off).take n).getD j undef = c.getD (off + j) undef := by
          simp [List.getD_eq_getElem?_getD, h1]
        have h5 : ((c.drop off).take n)[j] = .int .u8 k := by
          rw [← hk, List.getD_eq_getElem?_getD, List.getElem?_eq_getElem h2]; rfl
        rw [h4] at hk
        rw [hk] at h3
        rw [h5, List.getElem_map, List.getElem_range, Nat.add_assoc]
        exact h3.int_inv
    rw [e2] at hl
    have := run_bytesToString (cap := cap') hl hu
    unfold execOp; rw [ho]
    simp [convert, run_underlying hs1 w, run_underlying hs2 w, run_underlying hs3 w, hy, this]
end

/-- The text of bytes. -/
def strU (xs : List U8) : ByteArray := strN (xs.map U8.n) .empty
theorem rows_u8 : ∀ xs : List U8, allU8 (rows xs) = true ∧ bytesC (rows xs) = xs.map U8.n
  | [] => ⟨rfl, rfl⟩
  | x :: xs => by
    obtain ⟨h1, h2⟩ := rows_u8 xs
    have e : rows (x :: xs) = .int .u8 x.n :: rows xs := rfl
    rw [e]
    exact ⟨h1, by rw [bytesC, h2]; rfl⟩
def bstrAt (P : Program) (s : VS) : Option (Nat × Nat × List Value) := match opAt s with
  | some o => match o.op with
    | .convert src dst x => bif okConst x then (match evalC s.slots x, P.underlying src, P.underlying dst with
      | .slice (some ⟨b, 0, none⟩) n _, some (.slice e), some .string => (match P.underlying e, s.mem[b]? with
        | some (.int .u8), some (.cells c _ _) => some (b, n, c)
        | _, _ => none)
      | _, _, _ => none) else none
    | _ => none
  | none => none
section
variable {P : Program} {f : Fr} {n0 : Nat} {ρ : Type} {E : ρ → VQ} {s : VS} {T : Option ρ}
theorem L.bytesO (hm : P.follows .mixedOrders = true) (n' b nn : Nat) (xs : List U8) (hnn : nn = xs.length) (hs : bstrAt P (vadv P n' s) = some (b, nn, rows xs))
    (hk : LiftsF P f n0 E (afterRd (vadv P n' s) b (.string (strU xs))) T) : LiftsF P f n0 E s T := fun r hr => by
  refine RunsE.adv hm n' ?_
  have h2 := hk r hr
  unfold bstrAt at hs
  unfold afterRd at h2
  split at hs
  · rename_i o ho
    simp only [ho, fv_eq] at h2
    split at hs
    · rename_i src dst x hop
      cases hc : okConst x with
      | false => rw [hc] at hs; cases hs
      | true =>
        rw [hc, cond_true] at hs
        split at hs
        · rename_i b1 n1 cap e hx hs1 hs2
          split at hs
          · rename_i c1 sz1 rw1 hs3 hb
            simp only [Option.some.injEq, Prod.mk.injEq] at hs
            obtain ⟨rfl, rfl, rfl⟩ := hs
            have hlen : (rows xs).length = xs.length := by rw [rows_length]; exact Nat.mul_one _
            have ht : ((rows xs).drop 0).take xs.length = rows xs := by rw [List.drop_zero, ← hlen, List.take_length]
            have hok := OpOk.bytesOwn (o := o) (a := (vadv P n' s).slots) (m := (vadv P n' s).mem) hop hc hx hb hs1 hs2 hs3 (by subst hnn; omega) (by subst hnn; rw [ht]; exact (rows_u8 xs).1)
            subst hnn
            rw [ht, (rows_u8 xs).2] at hok
            exact RunsE.op o ho hok h2
          · cases hs
        · cases hs
    · cases hs
  · cases hs
end

end

section
open Go.RowKit
set_option linter.unusedVariables false

/-- From the state s the function returns E r and leaves M r, where the mirror says r. -/
abbrev LiftsM (P : Program) (f : Fr) (n0 : Nat) {ρ : Type} (E : ρ → Value) (M : ρ → List Blk) (s : VS) (o : Option ρ) : Prop := LiftsF P f n0 (fun r => (E r, fun m => m = M r)) s o

section
variable {P : Program} {f : Fr} {n0 : Nat} {ρ : Type} {E : ρ → Value} {M : ρ → List Blk} {s : VS} {T T1 T2 : Option ρ}
theorem LM.no : LiftsM P f n0 E M s Option.none := fun r h => by cases h
theorem LM.ret (fn : Func) (hm : P.follows .mixedOrders = true) {g : FuncId} (hf : P.funcs[g]? = some fn) {r0 : ρ} (v : Value) (h : retOf P fn (go P s) = some v) (e : v = E r0) (hq : (go P s).mem = M r0) (hg : f.IsF g := by exact rfl) : LiftsM P f n0 E M s (some r0) := fun r hr => by
  cases hr
  subst e
  exact Q.fin hm hf h hq hg
theorem LM.br (hm : P.follows .mixedOrders = true) (n : Nat) (b : Bool) (hs : condOf (vadv P n s) = some b) (h1 : b = true → LiftsM P f n0 E M (goC (vadv P n s) true) T1) (h0 : b = false → LiftsM P f n0 E M (goC (vadv P n s) false) T2) :
    LiftsM P f n0 E M s (bif b then T1 else T2) := fun r hr => by
  refine Q.branch hm n b hs (fun h => ?_) (fun h => ?_)
  · subst h; exact h1 rfl r hr
  · subst h; exact h0 rfl r hr
theorem LM.gu (hm : P.follows .mixedOrders = true) (n : Nat) (b : Bool) (hs : guardB (vadv P n s) = some b) (h1 : b = true → LiftsM P f n0 E M (setG (vadv P n s) true) T1) (h0 : b = false → LiftsM P f n0 E M (setG (vadv P n s) false) T2) :
    LiftsM P f n0 E M s (bif b then T1 else T2) := fun r hr => by
  refine Q.guard hm n b hs (fun h => ?_) (fun h => ?_)
  · subst h; exact h1 rfl r hr
  · subst h; exact h0 rfl r hr
theorem LM.callO (hm : P.follows .mixedOrders = true) {U : Type} {G : Option U} {k : U → Option ρ} {g : FuncId} {args : List Value} (eu : U → Value) (c : ∀ u, G = some u → Con P g args (eu u)) (hs : callAt (go P s) = some (g, args))
    (h : ∀ u, G = some u → LiftsM P f n0 E M (afterCall (go P s) (eu u)) (k u)) : LiftsM P f n0 E M s (G.bind k) := fun r hr => by
  cases hG : G with
  | none => rw [hG] at hr; cases hr
  | some u =>
    rw [hG] at hr
    exact Q.call hm (c u hG) hs (h u hG r hr)
theorem LM.jump (hm : P.follows .mixedOrders = true) (n : Nat) (ks : List Nat) {st : VS} (e : keepS ks (vadv P n s) = st) (h : LiftsM P f n0 E M st T) : LiftsM P f n0 E M s T := fun r hr => Q.at hm n ks e (h r hr)
theorem LM.jumpG (hm : P.follows .mixedOrders = true) (n : Nat) (ks : List Nat) {st : VS} (Es : List Ent) (cs : List (List Value)) (e : gcS Es (keepS ks (vadv P n s)) = st)
    (hE : okE Es (keepS ks (vadv P n s)).mem (Es.map (downB Es (keepS ks (vadv P n s)).mem)) = true) (hv : viewsB Es (keepS ks (vadv P n s)).mem = cs) (hcs : puresAll cs) (hfirst : firstE Es (keepS ks (vadv P n s)).mem n0 = true) (hs : isNormS (keepS ks (vadv P n s)) = true)
    (h : LiftsM P f n0 E M st T) : LiftsM P f n0 E M s T := fun r hr =>
  RunsQ.adv hm n (RunsQ.forget ks (RunsQ.gc Es hE (views_okP hv hcs) hfirst hs (e ▸ h r hr)))
theorem LM.oidx (hm : P.follows .mixedOrders = true) (n' : Nat) (b off len n : Nat) (k : IntKind) (i : Int) (hs : idxAt P (vadv P n' s) = some (b, off, len, n, k, i)) (h : 0 ≤ i → i < len → LiftsM P f n0 E M (afterOne (vadv P n' s) (.pointer (some ⟨b, off + i.toNat * n, none⟩))) T) :
    LiftsM P f n0 E M s (bif inR i len then T else none) := fun r hr => by
  cases hi : inR i len with
  | false => rw [hi] at hr; cases hr
  | true =>
    rw [hi] at hr
    simp only [inR, Bool.and_eq_true, decide_eq_true_eq] at hi
    exact Q.idx hm n' b off len n k i _ hs hi.1 hi.2 rfl (h hi.1 hi.2 r hr)
theorem LM.old1 (hm : P.follows .mixedOrders = true) (n' : Nat) (n b off : Nat) (c : List Value) (u : Value) (hs : ldAt P (vadv P n' s) = some (false, n, b, off, c)) (hu : c[off]? = some u) (h : LiftsM P f n0 E M (afterRd (vadv P n' s) b u) T) : LiftsM P f n0 E M s T := fun r hr =>
  Q.load1 hm n' n b off c u hs hu (h r hr)
theorem LM.ost (hm : P.follows .mixedOrders = true) (n' : Nat) (u : Value) (n b off : Nat) (c c2 : List Value) (sz : Nat) (hs : stAt P (vadv P n' s) = some (n, b, off, c, sz, u)) (hn : u.cells.size = n) (hone : u.cells.toList.all one = true) (hfit : off + n ≤ c.length) (hc2 : splice c off u.cells.toList = c2)
    (h : LiftsM P f n0 E M (afterWr (vadv P n' s) b (.cells c2 sz true)) T) : LiftsM P f n0 E M s T := fun r hr => Q.store hm n' u n b off c c2 sz hs hn hone hfit hc2 (h r hr)
theorem ConM.liftM {f : FuncId} {fn : Func} {args : List Value} {m : List Blk} {o : Option ρ} (hf : P.funcs[f]? = some fn) (hn : ((fn.name == "runtime.NumGoroutine") || fn.body.isNone) = false)
    (h : LiftsM P (.fn0 f) m.length E M (entry fn args m) o) : ∀ r, o = some r → ConM P f args m (E r) (M r) := fun r hr => ConM.makes hf hn (h r hr)
end
section
variable {P : Program} {f : Fr} {n0 : Nat} {ρ : Type} {E : ρ → Value} {s : VS}
end

end

section
open Go.RowKit Go.Instr
set_option linter.unusedVariables false
set_option linter.unusedSimpArgs false

def catOk (a b : ByteArray) : Bool := Nat.ble (a.size + b.size) 9223372036854775807
section
variable {P : Program} {o : Oper} {a : List Value} {m : List Blk}
theorem RV.str_inv {ι : Map} {s : ByteArray} {v : Value} (h : RV ι (.string s) v) : v = .string s := by cases h; rfl
theorem OpOk.cat {t ty : TypeId} {x y : Operand} {s1 s2 : ByteArray} (ho : o.op = .binOp .add t x y ty) (hc : okConst x = true) (hc2 : okConst y = true) (hx : evalC a x = .string s1) (hy : evalC a y = .string s2) (hk : catOk s1 s2 = true) :
    OpOk P o a m (.string (s1 ++ s2)) m ⟨[], []⟩ :=
  OpOk.quiet fun ι tt w hs => by
    have h1 := rv_operand hs (x := x) (by rw [ho]; simp [Op.operands]) hc
    have h2 := rv_operand hs (x := y) (by rw [ho]; simp [Op.operands]) hc2
    rw [hx] at h1
    rw [hy] at h2
    have e1 := h1.str_inv
    have e2 := h2.str_inv
    have hle : ¬ (((s1.size + s2.size : Nat) : Int) > IntKind.i64.max) := by
      have := Nat.le_of_ble_eq_true hk
      show ¬ (((s1.size + s2.size : Nat) : Int) > 9223372036854775807)
      omega
    refine ⟨.string (s1 ++ s2), .string _, ?_⟩
    unfold execOp; rw [ho]
    simp only [e1, e2]
    simp [eqGuard, binOp, Op.stringOp, hle]
    have := Nat.le_of_ble_eq_true hk
    omega
theorem OpOk.ssl {t : TypeId} {x : Operand} {lo hi : Option Operand} {s : ByteArray} {l h : Nat} {kl kh : IntKind} (ho : o.op = .slice t x lo hi none) (hc : okConst x = true) (hx : evalC a x = .string s) (hu : P.underlying t = some .string)
    (hlo : (lo = none ∧ l = 0) ∨ ∃ y, lo = some y ∧ okConst y = true ∧ evalC a y = .int kl l) (hhi : (hi = none ∧ h = s.size) ∨ ∃ y, hi = some y ∧ okConst y = true ∧ evalC a y = .int kh h) (hlh : l ≤ h) (hhc : h ≤ s.size) :
    OpOk P o a m (.string (s.extract l h)) m ⟨[], []⟩ :=
  OpOk.quiet fun ι tt w hs => by
    have hrx := rv_operand hs (x := x) (by rw [ho]; simp [Op.operands]) hc
    rw [hx] at hrx
    have he := hrx.str_inv
    have hhv : hi.map (act tt).eval = hi.map (fun _ => Value.int kh h) := by
      rcases hhi with ⟨rfl, _⟩ | ⟨y, rfl, hy1, hy2⟩
      · rfl
      · have := rv_operand hs (x := y) (by rw [ho]; simp [Op.operands]) hy1
        rw [hy2] at this
        simp [this.int_inv]
    have hlv : lo.map (act tt).eval = lo.map (fun _ => Value.int kl l) := by
      rcases hlo with ⟨rfl, _⟩ | ⟨y, rfl, hy1, hy2⟩
      · rfl
      · have := rv_operand hs (x := y) (by rw [ho]; simp [Op.operands]) hy1
        rw [hy2] at this
        simp [this.int_inv]
    have hbnd : (sliceBounds false s.size s.size (lo.map (act tt).eval) (hi.map (act tt).eval) none).run P w = .ok (l, h, s.size) w := by
      rw [hhv, hlv]
      rcases hhi with ⟨rfl, rfl⟩ | ⟨y, rfl, _, _⟩ <;> rcases hlo with ⟨rfl, rfl⟩ | ⟨z, rfl, _, _⟩ <;>
        simp [sliceBounds, sliceBound, asIntOf, *]
    refine ⟨.string (s.extract l h), .string _, ?_⟩
    unfold execOp; rw [ho]
    simp [Instr.sliceAt, run_underlying hu w, he, Instr.slice, hbnd]
end
def scatAt (P : Program) (s : VS) : Option (ByteArray × ByteArray) := match opAt s with
  | some o => match o.op with
    | .binOp .add t x y ty => bif okConst x && okConst y then (match evalC s.slots x, evalC s.slots y with
      | .string a, .string b => some (a, b)
      | _, _ => none) else none
    | _ => none
  | none => none
def sslAt (P : Program) (s : VS) : Option (ByteArray × Option Int × Option Int) := match opAt s with
  | some o => match o.op with
    | .slice t x lo hi none => bif okConst x then (match evalC s.slots x, P.underlying t with
      | .string b, some .string => (match boundI s.slots lo, boundI s.slots hi with
        | some l, some h => some (b, l, h)
        | _, _ => none)
      | _, _ => none) else none
    | _ => none
  | none => none
section
variable {P : Program} {f : Fr} {n0 : Nat} {ρ : Type} {E : ρ → VQ} {s : VS} {T : Option ρ}
theorem L.cat (hm : P.follows .mixedOrders = true) (n' : Nat) (s1 s2 : ByteArray) (hs : scatAt P (vadv P n' s) = some (s1, s2)) (hk : LiftsF P f n0 E (afterOne (vadv P n' s) (.string (s1 ++ s2))) T) : LiftsF P f n0 E s (bif catOk s1 s2 then T else Option.none) := fun r hr => by
  cases hi : catOk s1 s2 with
  | false => rw [hi] at hr; cases hr
  | true =>
    rw [hi] at hr
    refine RunsE.adv hm n' ?_
    have h2 := hk r hr
    unfold scatAt at hs
    unfold afterOne at h2
    split at hs
    · rename_i o ho
      simp only [ho, fv_eq] at h2
      split at hs
      · rename_i t x y ty hop
        cases hc : (okConst x && okConst y) with
        | false => rw [hc] at hs; cases hs
        | true =>
          rw [hc, cond_true] at hs
          rw [Bool.and_eq_true] at hc
          split at hs
          · rename_i a b hx hy
            simp only [Option.some.injEq, Prod.mk.injEq] at hs
            obtain ⟨rfl, rfl⟩ := hs
            exact RunsE.op o ho (OpOk.cat (m := (vadv P n' s).mem) hop hc.1 hc.2 hx hy hi) h2
          · cases hs
      · cases hs
    · cases hs
theorem L.ssl (hm : P.follows .mixedOrders = true) (n' : Nat) (b : ByteArray) (l h : Option Int) (hs : sslAt P (vadv P n' s) = some (b, l, h))
    (hk : LiftsF P f n0 E (afterOne (vadv P n' s) (.string (b.extract (l.getD 0).toNat (h.getD b.size).toNat))) T) : LiftsF P f n0 E s (bif cutOk b.size (l.getD 0) (h.getD b.size) then T else Option.none) := fun r hr => by
  cases hi : cutOk b.size (l.getD 0) (h.getD b.size) with
  | false => rw [hi] at hr; cases hr
  | true =>
    rw [hi] at hr
    simp only [cutOk, Bool.and_eq_true, decide_eq_true_eq] at hi
    refine RunsE.adv hm n' ?_
    have h2 := hk r hr
    unfold sslAt at hs
    unfold afterOne at h2
    split at hs
    · rename_i o ho
      simp only [ho, fv_eq] at h2
      split at hs
      · rename_i t x lo hi' hop
        cases hc : okConst x with
        | false => rw [hc] at hs; cases hs
        | true =>
          rw [hc, cond_true] at hs
          split at hs
          · rename_i b1 hx hu
            split at hs
            · rename_i l1 h1 hl hh
              simp only [Option.some.injEq, Prod.mk.injEq] at hs
              obtain ⟨rfl, rfl, rfl⟩ := hs
              have e1 : l1.getD 0 = (((l1.getD 0).toNat : Nat) : Int) := by omega
              have e2 : h1.getD b1.size = (((h1.getD b1.size).toNat : Nat) : Int) := by omega
              have hlo := boundI_ok hl (d := 0) (l := (l1.getD 0).toNat) e1
              have hhi := boundI_ok hh (d := b1.size) (l := (h1.getD b1.size).toNat) e2
              have klo : ∃ kl, (lo = Option.none ∧ (l1.getD 0).toNat = 0) ∨ ∃ y, lo = some y ∧ okConst y = true ∧ evalC (vadv P n' s).slots y = .int kl ((l1.getD 0).toNat : Nat) := by
                rcases hlo with h | ⟨y, k, h⟩
                · exact ⟨.i64, .inl h⟩
                · exact ⟨k, .inr ⟨y, h⟩⟩
              have khi : ∃ kh, (hi' = Option.none ∧ (h1.getD b1.size).toNat = b1.size) ∨ ∃ y, hi' = some y ∧ okConst y = true ∧ evalC (vadv P n' s).slots y = .int kh ((h1.getD b1.size).toNat : Nat) := by
                rcases hhi with h | ⟨y, k, h⟩
                · exact ⟨.i64, .inl h⟩
                · exact ⟨k, .inr ⟨y, h⟩⟩
              obtain ⟨kl, klo⟩ := klo
              obtain ⟨kh, khi⟩ := khi
              exact RunsE.op o ho (OpOk.ssl (m := (vadv P n' s).mem) hop hc hx hu klo khi (by omega) (by omega)) h2
            · cases hs
          · cases hs
      · cases hs
    · cases hs
end

end

end Go.Dt
