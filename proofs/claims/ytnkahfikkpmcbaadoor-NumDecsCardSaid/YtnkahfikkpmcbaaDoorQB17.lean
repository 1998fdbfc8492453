/- Several texts in one: Dt40, Dt41, Dt42. -/
import Derived.Test.YtnkahfikkpmcbaaDoorQB16
namespace Go.Dt

section
open Go.RowKit Go.Instr
set_option linter.unusedVariables false
set_option linter.unusedSimpArgs false

section
variable {P : Program} {f : FuncId} {n0 : Nat}
end
section
variable {P : Program} {f : FuncId} {n0 : Nat} {ρ : Type} {E : ρ → Value} {s : VS} {T : Option ρ}
end
section
variable {P : Program} {o : Oper} {a : List Value} {m : List Blk}
end
section
variable {P : Program} {f : FuncId} {n0 : Nat} {ρ : Type} {E : ρ → Value} {s : VS} {T : Option ρ} {α : Type} [F : Flat α]
end

/-! ### A slice written out in full -/
section
variable {P : Program} {f : FuncId} {n0 : Nat} {ρ : Type} {E : ρ → Value} {s : VS} {T : Option ρ} {α : Type} [F : Flat α]
end

end

section
open Go.RowKit
set_option linter.unusedVariables false

section
variable {P : Program} {f : FuncId} {n0 : Nat} {ρ : Type} {E : ρ → Value} {s : VS} {T : Option ρ}
theorem L.callM (hm : P.follows .mixedOrders = true) {r0 : Value} {g : FuncId} {vs : List Value} {mf mf' : List Blk} (Es : List Ent) (c : ConM P g vs mf r0 mf') (hs : downAt Es (go P s) = some (g, vs, mf)) (hE : okE Es (go P s).mem mf' = true) (hview : Es.all (fun e => !e.plain) = true)
    (h : Lifts P f n0 E (afterM Es [] (go P s) (upV (back (kap Es) Es.length mf'.length (go P s).mem.length) r0) mf') T) : Lifts P f n0 E s T := fun r hr => R.callM hm Es c hs hE hview (h r hr)
end

end

section
open Go.RowKit Go.Instr
set_option linter.unusedVariables false
set_option linter.unusedSimpArgs false

/-- The text of bytes. -/
def strN : List Int → ByteArray → ByteArray
  | [], s => s
  | n :: l, s => strN l (s.push (UInt8.ofNat n.toNat))
def bytesC : List Value → List Int
  | .int .u8 n :: l => n :: bytesC l
  | _ => []
def allU8 : List Value → Bool
  | [] => true
  | .int .u8 _ :: l => allU8 l
  | _ => false

section
variable {P : Program} {o : Oper} {a : List Value} {m : List Blk}
theorem run_bytes {w : World} : ∀ (l l' : List Value) (s : ByteArray), allU8 l = true → l' = l →
    (forIn l' s fun (c : Value) (r : ByteArray) => (match c with
      | .int .u8 n => pure (ForInStep.yield (r.push (UInt8.ofNat n.toNat)))
      | _ => do
        stuck "bytesToString: byte expected"
        pure (ForInStep.yield r) : Sem (ForInStep ByteArray))).run P w = .ok (strN (bytesC l) s) w
  | [], _, s, _, rfl => by simp [bytesC, strN]
  | v :: l, _, s, h, rfl => by
    match v, h with
    | .int .u8 n, h =>
      have ih := run_bytes (w := w) l l (s.push (UInt8.ofNat n.toNat)) h rfl
      simp only [List.forIn_cons]
      simpa [bytesC, strN] using ih
theorem allU8_get : ∀ {l : List Value} {i : Nat}, allU8 l = true → i < l.length → ∃ n, l.getD i undef = .int .u8 n
  | [], i, _, h => absurd h (Nat.not_lt_zero _)
  | .int .u8 n :: l, 0, _, _ => ⟨n, rfl⟩
  | .int .u8 n :: l, i + 1, h, hi => by
    obtain ⟨k, hk⟩ := allU8_get (l := l) (i := i) h (Nat.lt_of_succ_lt_succ hi)
    exact ⟨k, by simpa using hk⟩
theorem run_bytesToString {w : World} {a : Addr} {n cap : Nat} {l : List Value} (hl : (loadCells a n).run P w = .ok l.toArray w) (hu : allU8 l = true) :
    (Conv.bytesToString (.slice (some a) n cap)).run P w = .ok (.string (strN (bytesC l) .empty)) w := by
  unfold Conv.bytesToString
  simp only [Sem.run_bind, hl, Result.andThen_ok, List.forIn_toArray]
  have h := run_bytes (P := P) (w := w) l l .empty hu rfl
  exact (congrArg (fun r : Result ByteArray => r.andThen fun a w' => (pure (Value.string a) : Sem Value).run P w') h).trans rfl
theorem OpOk.bytesOwn {src dst e : TypeId} {x : Operand} {b off n cap sz : Nat} {c : List Value} {rw_ : Bool} (ho : o.op = .convert src dst x) (hc : okConst x = true) (hx : evalC a x = .slice (some ⟨b, off, none⟩) n cap) (hb : m[b]? = some (.cells c sz rw_))
    (hs1 : P.underlying src = some (.slice e)) (hs2 : P.underlying dst = some .string) (hs3 : P.underlying e = some (.int .u8)) (hfit : off + n ≤ c.length) (hu : allU8 ((c.drop off).take n) = true) :
    OpOk P o a m (.string (strN (bytesC ((c.drop off).take n)) .empty)) m ⟨[b], []⟩ := by
  have hblt : b < m.length := (List.getElem?_eq_some_iff.1 hb).1
  refine OpOk.reads (by simpa using hblt) fun ι tt w hs hbl => ?_
  have h := rv_operand hs (x := x) (by rw [ho]; simp [Op.operands]) hc
  rw [hx] at h
  refine ⟨_, .string _, ?_⟩
  generalize hy : (act tt).eval x = y at h
  cases h with
  | slice0 p q =>
    have hl : (loadCells q 0).run P w = .ok ([] : List Value).toArray w := by simp [loadCells, loadCellsFrom]
    have := run_bytesToString (cap := 0) hl rfl
    unfold execOp; rw [ho]
    simp [convert, run_underlying hs1 w, run_underlying hs2 w, run_underlying hs3 w, hy, this, bytesC, strN]
  | @slice _ _ _ _ cap' L hL _ _ =>
    have := hbl b (by simp)
    rw [show m.getD b .gone = .cells c sz rw_ by simp [List.getD_eq_getElem?_getD, hb]] at this
    obtain ⟨L', c', te, fz, hL', hh, hfit', _, _, hcells⟩ := this
    rw [hL] at hL'; cases hL'
    have hl := run_loadCells (P := P) w ⟨L.blk, L.off + off, none⟩ n (fun j => c'.getD (L.off + off + j) undef) (fun j hj => by rw [addr_add]; exact cell_of hh (by omega))
    have e2 : (List.range n).map (fun j => c'.getD (L.off + off + j) undef) = (c.drop off).take n := by
      apply List.ext_getElem
      · simp; omega
      · intro j h1 h2
        simp only [List.length_map, List.length_range] at h1
        have h3 := hcells (off + j) (by omega)
        obtain ⟨k, hk⟩ := allU8_get (i := j) hu (by simp; omega)
        have h4 : ((c.drop off).take n).getD j undef = c.getD (off + j) undef := by
          simp [List.getD_eq_getElem?_getD, h1]
        have h5 : ((c.drop off).take n)[j] = .int .u8 k := by
          rw [← hk, List.getD_eq_getElem?_getD, List.getElem?_eq_getElem h2]; rfl
        rw [h4] at hk
        rw [hk] at h3
        rw [h5, List.getElem_map, List.getElem_range, Nat.add_assoc]
        exact h3.int_inv
    rw [e2] at hl
    have := run_bytesToString (cap := cap') hl hu
    unfold execOp; rw [ho]
    simp [convert, run_underlying hs1 w, run_underlying hs2 w, run_underlying hs3 w, hy, this]
end

/-- The text of bytes. -/
def strU (xs : List U8) : ByteArray := strN (xs.map U8.n) .empty
theorem rows_u8 : ∀ xs : List U8, allU8 (rows xs) = true ∧ bytesC (rows xs) = xs.map U8.n
  | [] => ⟨rfl, rfl⟩
  | x :: xs => by
    obtain ⟨h1, h2⟩ := rows_u8 xs
    have e : rows (x :: xs) = .int .u8 x.n :: rows xs := rfl
    rw [e]
    exact ⟨h1, by rw [bytesC, h2]; rfl⟩
def bstrAt (P : Program) (s : VS) : Option (Nat × Nat × List Value) := match opAt s with
  | some o => match o.op with
    | .convert src dst x => bif okConst x then (match evalC s.slots x, P.underlying src, P.underlying dst with
      | .slice (some ⟨b, 0, none⟩) n _, some (.slice e), some .string => (match P.underlying e, s.mem[b]? with
        | some (.int .u8), some (.cells c _ _) => some (b, n, c)
        | _, _ => none)
      | _, _, _ => none) else none
    | _ => none
  | none => none
section
variable {P : Program} {f : FuncId} {n0 : Nat} {ρ : Type} {E : ρ → Value} {s : VS} {T : Option ρ}
theorem L.bytesO (hm : P.follows .mixedOrders = true) (n' b nn : Nat) (xs : List U8) (hnn : nn = xs.length) (hs : bstrAt P (vadv P n' s) = some (b, nn, rows xs))
    (hk : Lifts P f n0 E (afterRd (vadv P n' s) b (.string (strU xs))) T) : Lifts P f n0 E s T := fun r hr => by
  refine RunsE.adv hm n' ?_
  have h2 := hk r hr
  unfold bstrAt at hs
  unfold afterRd at h2
  split at hs
  · rename_i o ho
    simp only [ho, fv_eq] at h2
    split at hs
    · rename_i src dst x hop
      cases hc : okConst x with
      | false => rw [hc] at hs; cases hs
      | true =>
        rw [hc, cond_true] at hs
        split at hs
        · rename_i b1 n1 cap e hx hs1 hs2
          split at hs
          · rename_i c1 sz1 rw1 hs3 hb
            simp only [Option.some.injEq, Prod.mk.injEq] at hs
            obtain ⟨rfl, rfl, rfl⟩ := hs
            have hlen : (rows xs).length = xs.length := by rw [rows_length]; exact Nat.mul_one _
            have ht : ((rows xs).drop 0).take xs.length = rows xs := by rw [List.drop_zero, ← hlen, List.take_length]
            have hok := OpOk.bytesOwn (o := o) (a := (vadv P n' s).slots) (m := (vadv P n' s).mem) hop hc hx hb hs1 hs2 hs3 (by subst hnn; omega) (by subst hnn; rw [ht]; exact (rows_u8 xs).1)
            subst hnn
            rw [ht, (rows_u8 xs).2] at hok
            exact RunsE.op o ho hok h2
          · cases hs
        · cases hs
    · cases hs
  · cases hs
end

end

end Go.Dt
