/- Several texts in one: Dt40, Dt41, Dt42. -/
import Derived.Test.YtllcomjnmkcdpaaDoorQE16
namespace Go.Dt

section
open Go.RowKit Go.Instr
set_option linter.unusedVariables false
set_option linter.unusedSimpArgs false

section
variable {P : Program} {f : FuncId} {n0 : Nat}
theorem Runs.frpN {todo : List Item} {a : List Value} {m : List Blk} {v : Value} {m' : List Blk} (d b off sz : Nat) (c : List Value) (hs : a.getD d undef = .pointer (some ⟨b, off, none⟩)) (hb : m[b]? = some (.cells c sz true))
    (hp : pures c = true) (h : Runs P f n0 (.norm todo (a.set d (Dt.frp c off)) (m.set b .gone)) v m') : Runs P f n0 (.norm todo a m) v m' := by
  have hblt : b < m.length := (List.getElem?_eq_some_iff.1 hb).1
  have hbg : at_ m b = .cells c sz true := by simp [at_, List.getD_eq_getElem?_getD, hb]
  intro ι t w hr fr0 cs hb0 hk0
  have hB := hr.sim.blk b
  rw [hbg] at hB
  obtain ⟨L, c', te, fz, hL, hh, hfit, hrw, _, hcells⟩ := hB
  obtain ⟨rfl, hroom, hsz, hro⟩ := hrw rfl
  have hlb : ∀ r cc, ι.fro r = some cc → L.blk ≠ r := fun r cc h => hr.sim.apart b L r cc (by rw [hbg]; rfl) hL h
  let ι' : Map := ⟨ι.loc, fun r => if r = L.blk then some c' else ι.fro r⟩
  have hself : ι'.fro L.blk = some c' := by show (if L.blk = L.blk then some c' else _) = _; rw [if_pos rfl]
  have hle : Le ι ι' := ⟨fun _ _ h => h, fun r cc h => by
    show (if r = L.blk then some c' else ι.fro r) = some cc
    rw [if_neg (Ne.symm (hlb r cc h))]; exact h⟩
  have hcase : ∀ r cc, ι'.fro r = some cc → (r = L.blk ∧ cc = c') ∨ ι.fro r = some cc := fun r cc h => by
    have h : (if r = L.blk then some c' else ι.fro r) = some cc := h
    split at h
    · rename_i e; cases h; exact .inl ⟨e, rfl⟩
    · exact .inr h
  have hat : ∀ x, at_ (m.set b .gone) x = if x = b then .gone else at_ m x := fun x => by
    simp only [at_, List.getD_eq_getElem?_getD]
    by_cases hx : x = b
    · subst hx; simp [hblt]
    · rw [if_neg hx, List.getElem?_set_ne (Ne.symm hx)]
  have ownSub : ∀ k, OwnR ι' (at_ (m.set b .gone)) k → OwnR ι (at_ m) k := fun k ⟨x, K, ho, hK, hk⟩ => by
    rw [hat] at ho
    split at ho
    · cases ho
    · exact ⟨x, K, ho, hK, hk⟩
  have liveSub : ∀ k, LiveR ι' (at_ (m.set b .gone)) k → LiveR ι (at_ m) k := fun k ⟨x, K, ho, hK, hk⟩ => by
    rw [hat] at ho
    split at ho
    · cases ho
    · exact ⟨x, K, ho, hK, hk⟩
  have hrel : Rel ι' (a.set d (Dt.frp c off)) (m.set b .gone) t w := by
    refine ⟨by simpa using hr.size, fun x => ?_, ⟨fun x => ?_, fun x x2 K K2 hne ho hl hK hK2 => ?_, fun r cc hcc => ?_, fun x K r cc ho hK hcc => ?_⟩, fun x hx => by simpa using hr.dom x hx⟩
    · by_cases hx : d = x
      · subst hx
        by_cases hda : d < a.length
        · have hv := hr.slots d
          rw [hs] at hv
          rw [show (a.set d (Dt.frp c off)).getD d undef = Dt.frp c off by simp [List.getD_eq_getElem?_getD, hda]]
          obtain ⟨L2, hL2, he⟩ := hv.ptr_inv
          rw [hL] at hL2; cases hL2
          rw [he]
          exact .frp hself hp hfit fun i hi => (hcells i hi).mono hle
        · have e : (a.set d (Dt.frp c off)) = a := List.set_eq_of_length_le (by omega)
          rw [e]; exact (hr.slots d).mono hle
      · rw [show (a.set d (Dt.frp c off)).getD x undef = a.getD x undef by simp [List.getD_eq_getElem?_getD, List.getElem?_set_ne hx]]
        exact (hr.slots x).mono hle
    · rw [hat]
      split
      · trivial
      · exact (hr.sim.blk x).keep hle fun _ _ _ => rfl
    · rw [hat] at ho hl
      split at ho
      · cases ho
      · split at hl
        · cases hl
        · exact hr.sim.sep x x2 K K2 hne ho hl hK hK2
    · rcases hcase r cc hcc with ⟨rfl, rfl⟩ | h
      · exact ⟨te, (0, 0), hh⟩
      · exact hr.sim.fro r cc h
    · rw [hat] at ho
      split at ho
      · cases ho
      · rename_i hxb
        rcases hcase r cc hcc with ⟨rfl, rfl⟩ | h
        · exact hr.sim.sep x b K L hxb ho (by rw [hbg]; rfl) hK hL
        · exact hr.sim.apart x K r cc ho hK h
  obtain ⟨v', w', fr, ι'', h1, h2, h3, h4, h5, h6, h7⟩ := h ι' t w hrel fr0 cs hb0 hk0
  refine ⟨v', w', fr, ι'', h1, h2, h3, h4, h5, h6, ⟨h7.le, h7.size, h7.os, h7.tape, h7.output, fun k hk hn => h7.frame k hk (fun ho => hn (ownSub k ho)), fun k ho => (h7.own k ho).imp (ownSub k) id, fun k ho => (h7.live k ho).imp (liveSub k) id,
    fun r cc hcc => h7.lef r cc (hle.fro r cc hcc), fun r cc hcc => ?_⟩⟩
  rcases h7.fro r cc hcc with h | h | h
  · rcases hcase r cc h with ⟨rfl, rfl⟩ | h
    · exact .inr (.inl ⟨b, L, by rw [hbg]; rfl, hL, rfl⟩)
    · exact .inl h
  · exact .inr (.inl (ownSub r h))
  · exact .inr (.inr h)

theorem RunsE.frpN {s : VS} {v : Value} (d b off sz : Nat) (c : List Value) (hs : slotV d s = .pointer (some ⟨b, off, none⟩)) (hb : s.mem[b]? = some (.cells c sz true))
    (hp : pures c = true) (hns : isNormS s = true) (h : RunsE P f n0 (frzS d b (frp c off) s) v) : RunsE P f n0 s v := by
  obtain ⟨m', h⟩ := h
  cases s with
  | reg => cases hns
  | norm todo a m =>
    refine ⟨m', Runs.frpN d b off sz c hs hb hp ?_⟩
    simpa only [frzS, fv_eq, fl_eq] using h
end
section
variable {P : Program} {f : FuncId} {n0 : Nat} {ρ : Type} {E : ρ → Value} {s : VS} {T : Option ρ}
theorem L.frzP (hm : P.follows .mixedOrders = true) (n' d b off sz : Nat) (c : List Value) (hs : slotV d (vadv P n' s) = .pointer (some ⟨b, off, Option.none⟩)) (hb : (vadv P n' s).mem[b]? = some (.cells c sz true)) (hp : pures c = true) (hns : isNormS (vadv P n' s) = true)
    (h : Lifts P f n0 E (frzS d b (frp c off) (vadv P n' s)) T) : Lifts P f n0 E s T := fun r hr => RunsE.adv hm n' (RunsE.frpN d b off sz c hs hb hp hns (h r hr))
end
section
variable {P : Program} {o : Oper} {a : List Value} {m : List Blk}
end
section
variable {P : Program} {f : FuncId} {n0 : Nat} {ρ : Type} {E : ρ → Value} {s : VS} {T : Option ρ} {α : Type} [F : Flat α]
end

/-! ### A slice written out in full -/
section
variable {P : Program} {f : FuncId} {n0 : Nat} {ρ : Type} {E : ρ → Value} {s : VS} {T : Option ρ} {α : Type} [F : Flat α]
end

end

section
open Go.RowKit
set_option linter.unusedVariables false

section
variable {P : Program} {f : FuncId} {n0 : Nat} {ρ : Type} {E : ρ → Value} {s : VS} {T : Option ρ}
end

end

section
open Go.RowKit Go.Instr
set_option linter.unusedVariables false
set_option linter.unusedSimpArgs false

/-- The text of bytes. -/
def strN : List Int → ByteArray → ByteArray
  | [], s => s
  | n :: l, s => strN l (s.push (UInt8.ofNat n.toNat))
def bytesC : List Value → List Int
  | .int .u8 n :: l => n :: bytesC l
  | _ => []
def allU8 : List Value → Bool
  | [] => true
  | .int .u8 _ :: l => allU8 l
  | _ => false

section
variable {P : Program} {o : Oper} {a : List Value} {m : List Blk}
theorem run_bytes {w : World} : ∀ (l l' : List Value) (s : ByteArray), allU8 l = true → l' = l →
    (forIn l' s fun (c : Value) (r : ByteArray) => (match c with
      | .int .u8 n => pure (ForInStep.yield (r.push (UInt8.ofNat n.toNat)))
      | _ => do
        stuck "bytesToString: byte expected"
        pure (ForInStep.yield r) : Sem (ForInStep ByteArray))).run P w = .ok (strN (bytesC l) s) w
  | [], _, s, _, rfl => by simp [bytesC, strN]
  | v :: l, _, s, h, rfl => by
    match v, h with
    | .int .u8 n, h =>
      have ih := run_bytes (w := w) l l (s.push (UInt8.ofNat n.toNat)) h rfl
      simp only [List.forIn_cons]
      simpa [bytesC, strN] using ih
theorem allU8_get : ∀ {l : List Value} {i : Nat}, allU8 l = true → i < l.length → ∃ n, l.getD i undef = .int .u8 n
  | [], i, _, h => absurd h (Nat.not_lt_zero _)
  | .int .u8 n :: l, 0, _, _ => ⟨n, rfl⟩
  | .int .u8 n :: l, i + 1, h, hi => by
    obtain ⟨k, hk⟩ := allU8_get (l := l) (i := i) h (Nat.lt_of_succ_lt_succ hi)
    exact ⟨k, by simpa using hk⟩
theorem run_bytesToString {w : World} {a : Addr} {n cap : Nat} {l : List Value} (hl : (loadCells a n).run P w = .ok l.toArray w) (hu : allU8 l = true) :
    (Conv.bytesToString (.slice (some a) n cap)).run P w = .ok (.string (strN (bytesC l) .empty)) w := by
  unfold Conv.bytesToString
  simp only [Sem.run_bind, hl, Result.andThen_ok, List.forIn_toArray]
  have h := run_bytes (P := P) (w := w) l l .empty hu rfl
  exact (congrArg (fun r : Result ByteArray => r.andThen fun a w' => (pure (Value.string a) : Sem Value).run P w') h).trans rfl
theorem OpOk.bytesOwn {src dst e : TypeId} {x : Operand} {b off n cap sz : Nat} {c : List Value} {rw_ : Bool} (ho : o.op = .convert src dst x) (hc : okConst x = true) (hx : evalC a x = .slice (some ⟨b, off, none⟩) n cap) (hb : m[b]? = some (.cells c sz rw_))
    (hs1 : P.underlying src = some (.slice e)) (hs2 : P.underlying dst = some .string) (hs3 : P.underlying e = some (.int .u8)) (hfit : off + n ≤ c.length) (hu : allU8 ((c.drop off).take n) = true) :
    OpOk P o a m (.string (strN (bytesC ((c.drop off).take n)) .empty)) m ⟨[b], []⟩ := by
  have hblt : b < m.length := (List.getElem?_eq_some_iff.1 hb).1
  refine OpOk.reads (by simpa using hblt) fun ι tt w hs hbl => ?_
  have h := rv_operand hs (x := x) (by rw [ho]; simp [Op.operands]) hc
  rw [hx] at h
  refine ⟨_, .string _, ?_⟩
  generalize hy : (act tt).eval x = y at h
  cases h with
  | slice0 p q =>
    have hl : (loadCells q 0).run P w = .ok ([] : List Value).toArray w := by simp [loadCells, loadCellsFrom]
    have := run_bytesToString (cap := 0) hl rfl
    unfold execOp; rw [ho]
    simp [convert, run_underlying hs1 w, run_underlying hs2 w, run_underlying hs3 w, hy, this, bytesC, strN]
  | @slice _ _ _ _ cap' L hL _ _ =>
    have := hbl b (by simp)
    rw [show m.getD b .gone = .cells c sz rw_ by simp [List.getD_eq_getElem?_getD, hb]] at this
    obtain ⟨L', c', te, fz, hL', hh, hfit', _, _, hcells⟩ := this
    rw [hL] at hL'; cases hL'
    have hl := run_loadCells (P := P) w ⟨L.blk, L.off + off, none⟩ n (fun j => c'.getD (L.off + off + j) undef) (fun j hj => by rw [addr_add]; exact cell_of hh (by omega))
    have e2 : (List.range n).map (fun j => c'.getD (L.off + off + j) undef) = (c.drop off).take n := by
      apply List.ext_getElem
      · simp; omega
      · intro j h1 h2
        simp only [List.length_map, List.length_range] at h1
        have h3 := hcells (off + j) (by omega)
        obtain ⟨k, hk⟩ := allU8_get (i := j) hu (by simp; omega)
        have h4 : ((c.drop off).take n).getD j undef = c.getD (off + j) undef := by
          simp [List.getD_eq_getElem?_getD, h1]
        have h5 : ((c.drop off).take n)[j] = .int .u8 k := by
          rw [← hk, List.getD_eq_getElem?_getD, List.getElem?_eq_getElem h2]; rfl
        rw [h4] at hk
        rw [hk] at h3
        rw [h5, List.getElem_map, List.getElem_range, Nat.add_assoc]
        exact h3.int_inv
    rw [e2] at hl
    have := run_bytesToString (cap := cap') hl hu
    unfold execOp; rw [ho]
    simp [convert, run_underlying hs1 w, run_underlying hs2 w, run_underlying hs3 w, hy, this]
end

section
variable {P : Program} {f : FuncId} {n0 : Nat} {ρ : Type} {E : ρ → Value} {s : VS} {T : Option ρ}
end

end

end Go.Dt
