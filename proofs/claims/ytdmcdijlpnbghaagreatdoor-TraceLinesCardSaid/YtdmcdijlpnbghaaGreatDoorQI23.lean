/- Several texts in one: Dt61, Dt62. -/
import Derived.Test.YtdmcdijlpnbghaaGreatDoorQI18
namespace Go.Dt

section
open Go

/-- What stands at the place j, behind a writing at the place i. -/
def selI (i j : Nat) (x a : Int) : Int := bif i == j then x else a
def selC (k : IntKind) (x : Int) (i : Nat) : Nat → List Int → List Value
  | _, [] => []
  | j, a :: l => .int k (selI i j x a) :: selC k x i (j + 1) l
theorem selC_past (k : IntKind) (x : Int) (i : Nat) : ∀ (j : Nat) (l : List Int), i < j → selC k x i j l = l.map (Value.int k)
  | _, [], _ => rfl
  | j, a :: l, h => by
    have : (i == j) = false := by rw [beq_eq_false_iff_ne]; omega
    rw [selC, selI, this, selC_past k x i (j + 1) l (by omega)]
    rfl
theorem selC_at (k : IntKind) (x : Int) : ∀ (l : List Int) (i j : Nat), i < l.length → splice (l.map (Value.int k)) i [.int k x] = selC k x (j + i) j l
  | [], i, j, h => absurd h (Nat.not_lt_zero _)
  | a :: l, 0, j, h => by
    have : (j + 0 == j) = true := by simp
    rw [selC, selI, this, selC_past k x _ (j + 1) l (by omega)]
    simp [splice]
  | a :: l, i + 1, j, h => by
    have e : (j + (i + 1) == j) = false := by rw [beq_eq_false_iff_ne]; omega
    have ih := selC_at k x l i (j + 1) (by simpa using h)
    rw [selC, selI, e, show j + (i + 1) = j + 1 + i by omega, ← ih]
    simp [splice]
theorem lit_set (k : IntKind) (x : Int) (i off : Nat) (l : List Int) (ho : off = i * 1 + 0) (hi : i < l.length) : splice (l.map (Value.int k)) off [.int k x] = selC k x i 0 l := by
  have := selC_at k x l i 0 hi
  rw [Nat.zero_add] at this
  rw [show off = i by omega, this]
theorem lit_fit (k : IntKind) (i off : Nat) (l : List Int) (ho : off = i * 1 + 0) (hi : i < l.length) : off + 1 ≤ (l.map (Value.int k)).length := by
  rw [List.length_map]
  omega

end

section
open Go.RowKit Go.Instr
set_option linter.unusedVariables false
set_option linter.unusedSimpArgs false

section
variable {P : Program} {o : Oper} {a : List Value} {m : List Blk}
theorem OpOk.sliceFrpB {t e : TypeId} {x : Operand} {lo hi : Option Operand} {n size l h : Nat} {c : List Value} {kl kh : IntKind} (ho : o.op = .slice t x lo hi none) (hc : okConst x = true)
    (hx : evalC a x = frp c 0) (hu : P.underlying t = some (.array n e)) (hz : szC P e = some size) (hlen : c.length = n * size)
    (hlo : (lo = none ∧ l = 0) ∨ ∃ y, lo = some y ∧ okConst y = true ∧ evalC a y = .int kl l) (hhi : (hi = none ∧ h = n) ∨ ∃ y, hi = some y ∧ okConst y = true ∧ evalC a y = .int kh h) (hlh : l ≤ h) (hhc : h ≤ n) :
    OpOk P o a m (frz (h - l) ((c.drop (l * size)).take ((h - l) * size))) m ⟨[], []⟩ := by
  refine OpOk.quiet fun ι tt w hs => ?_
  have hrx := rv_operand hs (x := x) (by rw [ho]; simp [Op.operands]) hc
  rw [hx] at hrx
  have bounds : (sliceBounds false n n (lo.map (act tt).eval) (hi.map (act tt).eval) none).run P w = .ok (l, h, n) w := by
    have hhv : hi.map (act tt).eval = hi.map (fun _ => Value.int kh h) := by
      rcases hhi with ⟨rfl, _⟩ | ⟨y, rfl, hy1, hy2⟩
      · rfl
      · have := rv_operand hs (x := y) (by rw [ho]; simp [Op.operands]) hy1
        rw [hy2] at this
        simp [this.int_inv]
    have hlv : lo.map (act tt).eval = lo.map (fun _ => Value.int kl l) := by
      rcases hlo with ⟨rfl, _⟩ | ⟨y, rfl, hy1, hy2⟩
      · rfl
      · have := rv_operand hs (x := y) (by rw [ho]; simp [Op.operands]) hy1
        rw [hy2] at this
        simp [this.int_inv]
    rw [hhv, hlv]
    rcases hhi with ⟨rfl, rfl⟩ | ⟨y, rfl, _, _⟩ <;> rcases hlo with ⟨rfl, rfl⟩ | ⟨z, rfl, _, _⟩ <;>
      simp [sliceBounds, sliceBound, asIntOf, *]
  have hsub : ∀ l h : Nat, l ≤ h → h ≤ n → ((c.drop (l * size)).take ((h - l) * size)).length = (h - l) * size := fun l h h1 h2 => by
    have e1 : (h - l) * size + l * size = h * size := by rw [← Nat.add_mul]; congr 1; omega
    have e2 : h * size ≤ n * size := Nat.mul_le_mul_right _ h2
    simp only [List.length_take, List.length_drop]
    omega
  generalize hy : (act tt).eval x = y at hrx
  cases hrx with
  | iface _ ht => exact absurd ht (by decide)
  | @frp _ _ r ro cr hr hp hfit hcc =>
    have e1 : (h - l) * size + l * size = h * size := by rw [← Nat.add_mul]; congr 1; omega
    have e2 : h * size ≤ n * size := Nat.mul_le_mul_right _ hhc
    have hpsub : pures ((c.drop (l * size)).take ((h - l) * size)) = true := by
      have key : ∀ (c : List Value) (i j : Nat), pures c = true → pures ((c.drop i).take j) = true := by
        intro c
        induction c with
        | nil => intro i j _; simp [pures]
        | cons v c ih =>
          intro i j hp
          simp only [pures, Bool.and_eq_true] at hp
          cases i with
          | zero =>
            cases j with
            | zero => simp [pures]
            | succ j => have := ih 0 j hp.2; simp only [List.drop_zero] at this; simp [pures, hp.1, this]
          | succ i => simpa using ih i j hp.2
      exact key c _ _ hp
    by_cases hcl : n = l
    · have hll : h - l = 0 := by omega
      refine ⟨.slice (some ⟨r, ro + 0, none⟩) 0 0, ?_, ?_⟩
      · rw [hll]; simpa using RV.frzE ⟨r, ro + 0, none⟩ 0
      · unfold execOp; rw [ho]
        have : h = l := by omega
        subst this
        simp [Instr.sliceAt, run_underlying hu w, hy, sureAddr, bounds, run_szC hz w]
        simp [hcl]
    · refine ⟨.slice (some ⟨r, ro + l * size, none⟩) (h - l) (n - l), .frz hr (by omega) hpsub (by rw [hsub l h hlh hhc]; omega) (fun i hi => ?_), ?_⟩
      · rw [hsub l h hlh hhc] at hi
        have := hcc (l * size + i) (by omega)
        rw [Nat.add_assoc]
        simpa [List.getD_eq_getElem?_getD, List.getElem?_take, hi, List.getElem?_drop] using this
      · unfold execOp; rw [ho]
        simp [Instr.sliceAt, run_underlying hu w, hy, sureAddr, bounds, run_szC hz w, hcl, addr_add]

theorem OpOk.bytesFrz {src dst e : TypeId} {x : Operand} {n : Nat} {c : List Value} (ho : o.op = .convert src dst x) (hc : okConst x = true) (hx : evalC a x = frz n c)
    (hs1 : P.underlying src = some (.slice e)) (hs2 : P.underlying dst = some .string) (hs3 : P.underlying e = some (.int .u8)) (hn : c.length = n) (hu : allU8 c = true) :
    OpOk P o a m (.string (strN (bytesC c) .empty)) m ⟨[], []⟩ := by
  refine OpOk.readsF (by simp) fun ι tt w hs _ hfro => ?_
  have h := rv_operand hs (x := x) (by rw [ho]; simp [Op.operands]) hc
  rw [hx] at h
  refine ⟨.string _, .string _, ?_⟩
  generalize hy : (act tt).eval x = y at h
  cases h with
  | iface _ ht => exact absurd ht (by decide)
  | frzN =>
    unfold execOp; rw [ho]
    simp [convert, run_underlying hs1 w, run_underlying hs2 w, run_underlying hs3 w, hy, Conv.bytesToString, bytesC, strN]
  | frzE p cap =>
    have hl : (loadCells p 0).run P w = .ok ([] : List Value).toArray w := by simp [loadCells, loadCellsFrom]
    have := run_bytesToString (cap := cap) hl rfl
    unfold execOp; rw [ho]
    simp [convert, run_underlying hs1 w, run_underlying hs2 w, run_underlying hs3 w, hy, this, bytesC, strN]
  | @frz _ _ r off cap cr hr hcap hp hfit hcc =>
    obtain ⟨t, fz, hh⟩ := hfro r cr hr
    have hl := run_loadCells (P := P) w ⟨r, off, none⟩ n (fun j => cr.getD (off + j) undef) (fun j hj => by rw [addr_add]; exact cell_of (L := ⟨r, off, 0, 0, true⟩) hh (by omega))
    have e2 : (List.range n).map (fun j => cr.getD (off + j) undef) = c := by
      apply List.ext_getElem
      · simp; omega
      · intro j h1 h2
        simp only [List.length_map, List.length_range] at h1
        obtain ⟨k, hk⟩ := allU8_get (i := j) hu h2
        have h3 := hcc j h2
        rw [hk] at h3
        have h5 : c[j] = .int .u8 k := by
          rw [← hk, List.getD_eq_getElem?_getD, List.getElem?_eq_getElem h2]; rfl
        rw [h5, List.getElem_map, List.getElem_range]
        exact h3.int_inv
    rw [e2] at hl
    have := run_bytesToString (cap := cap) hl hu
    unfold execOp; rw [ho]
    simp [convert, run_underlying hs1 w, run_underlying hs2 w, run_underlying hs3 w, hy, this]
end

/-- The bounds of a cut. -/
def fspBAt (P : Program) (s : VS) : Option (Nat × List Value × Nat × Option Int × Option Int) := match opAt s with
  | some o => match o.op with
    | .slice t x lo hi none => bif okConst x then (match asFrp (evalC s.slots x), P.underlying t with
      | some (c, 0), some (.array n e) => (match szC P e with
        | some sz => (match (match lo with
            | none => some none
            | some y => bif okConst y then (match evalC s.slots y with | .int _ i => some (some i) | _ => none) else none), (match hi with
            | none => some none
            | some y => bif okConst y then (match evalC s.slots y with | .int _ i => some (some i) | _ => none) else none) with
          | some l, some h => some (n, c, sz, l, h)
          | _, _ => none)
        | none => none)
      | _, _ => none) else none
    | _ => none
  | none => none

def bstrF (P : Program) (s : VS) : Option (Nat × List Value) := match opAt s with
  | some o => match o.op with
    | .convert src dst x => bif okConst x then (match asFrz (evalC s.slots x), P.underlying src, P.underlying dst with
      | some (n, c), some (.slice e), some .string => (match P.underlying e with
        | some (.int .u8) => some (n, c)
        | _ => none)
      | _, _, _ => none) else none
    | _ => none
  | none => none
section
variable {P : Program} {f : Fr} {n0 : Nat} {ρ : Type} {E : ρ → VQ} {s : VS} {T : Option ρ}
theorem L.slPB (hm : P.follows .mixedOrders = true) {α : Type} [F : Flat α] (n' : Nat) (xs : List α) (l h : Option Int) (hs : fspBAt P (vadv P n' s) = some (xs.length, rows xs, F.sz, l, h))
    (hk : LiftsF P f n0 E (afterOne (vadv P n' s) (lst ((xs.drop (l.getD 0).toNat).take ((h.getD xs.length).toNat - (l.getD 0).toNat)))) T) :
    LiftsF P f n0 E s (bif cutOk xs.length (l.getD 0) (h.getD xs.length) then T else Option.none) := fun r hr => by
  cases hi : cutOk xs.length (l.getD 0) (h.getD xs.length) with
  | false => rw [hi] at hr; cases hr
  | true =>
    rw [hi] at hr
    simp only [cutOk, Bool.and_eq_true, decide_eq_true_eq] at hi
    refine RunsE.adv hm n' ?_
    have h2 := hk r hr
    unfold fspBAt at hs
    unfold afterOne at h2
    split at hs
    · rename_i o ho
      simp only [ho, fv_eq] at h2
      split at hs
      · rename_i t x lo hi' hop
        cases hc : okConst x with
        | false => rw [hc] at hs; cases hs
        | true =>
          rw [hc, cond_true] at hs
          split at hs
          · rename_i c1 n1 e hx hu
            split at hs
            · rename_i sz1 hz
              split at hs
              · rename_i l1 h1 hl hh
                have hs := Option.some.inj hs
                simp only [Prod.mk.injEq] at hs
                obtain ⟨rfl, rfl, rfl, rfl, rfl⟩ := hs
                have hlo : ∃ kl, (lo = Option.none ∧ (l1.getD 0).toNat = 0) ∨ ∃ y, lo = some y ∧ okConst y = true ∧ evalC (vadv P n' s).slots y = .int kl ((l1.getD 0).toNat : Nat) := by
                  cases lo with
                  | none => cases hl; exact ⟨.i64, .inl ⟨rfl, rfl⟩⟩
                  | some y =>
                    simp only at hl
                    cases hcy : okConst y with
                    | false => rw [hcy] at hl; cases hl
                    | true =>
                      rw [hcy, cond_true] at hl
                      split at hl
                      · rename_i kk i hy
                        cases hl
                        refine ⟨kk, .inr ⟨y, rfl, hcy, ?_⟩⟩
                        rw [hy]
                        have : 0 ≤ i := hi.1.1
                        congr 1
                        simp only [Option.getD_some]
                        omega
                      · cases hl
                have hhi : ∃ kh, (hi' = Option.none ∧ (h1.getD xs.length).toNat = xs.length) ∨ ∃ y, hi' = some y ∧ okConst y = true ∧ evalC (vadv P n' s).slots y = .int kh ((h1.getD xs.length).toNat : Nat) := by
                  cases hi' with
                  | none => cases hh; exact ⟨.i64, .inl ⟨rfl, rfl⟩⟩
                  | some y =>
                    simp only at hh
                    cases hcy : okConst y with
                    | false => rw [hcy] at hh; cases hh
                    | true =>
                      rw [hcy, cond_true] at hh
                      split at hh
                      · rename_i kk i hy
                        cases hh
                        refine ⟨kk, .inr ⟨y, rfl, hcy, ?_⟩⟩
                        rw [hy]
                        have := hi.1.1
                        have := hi.1.2
                        simp only [Option.getD_some] at *
                        congr 1
                        omega
                      · cases hh
                obtain ⟨kl, hlo⟩ := hlo
                obtain ⟨kh, hhi⟩ := hhi
                have hok := OpOk.sliceFrpB (m := (vadv P n' s).mem) hop hc (asFrp_ok hx) hu hz (rows_length xs) hlo hhi (by omega) (by omega)
                rw [rows_drop, rows_take] at hok
                have hlen : ((xs.drop (l1.getD 0).toNat).take ((h1.getD xs.length).toNat - (l1.getD 0).toNat)).length = (h1.getD xs.length).toNat - (l1.getD 0).toNat := by
                  simp only [List.length_take, List.length_drop]; omega
                have e2 : lst ((xs.drop (l1.getD 0).toNat).take ((h1.getD xs.length).toNat - (l1.getD 0).toNat)) = frz ((h1.getD xs.length).toNat - (l1.getD 0).toNat) (rows ((xs.drop (l1.getD 0).toNat).take ((h1.getD xs.length).toNat - (l1.getD 0).toNat))) := by
                  unfold lst; rw [hlen]
                rw [← e2] at hok
                exact RunsE.op o ho hok h2
              · cases hs
            · cases hs
          · cases hs
      · cases hs
    · cases hs

theorem L.bytesF (hm : P.follows .mixedOrders = true) (n' : Nat) (xs : List U8) (hs : bstrF P (vadv P n' s) = some (xs.length, rows xs))
    (hk : LiftsF P f n0 E (afterOne (vadv P n' s) (.string (strU xs))) T) : LiftsF P f n0 E s T := fun r hr => by
  refine RunsE.adv hm n' ?_
  have h2 := hk r hr
  unfold bstrF at hs
  unfold afterOne at h2
  split at hs
  · rename_i o ho
    simp only [ho, fv_eq] at h2
    split at hs
    · rename_i src dst x hop
      cases hc : okConst x with
      | false => rw [hc] at hs; cases hs
      | true =>
        rw [hc, cond_true] at hs
        split at hs
        · rename_i n1 c1 e hx hs1 hs2
          split at hs
          · rename_i hs3
            simp only [Option.some.injEq, Prod.mk.injEq] at hs
            obtain ⟨rfl, rfl⟩ := hs
            have hlen : (rows xs).length = xs.length := by rw [rows_length]; exact Nat.mul_one _
            have hok := OpOk.bytesFrz (o := o) (a := (vadv P n' s).slots) (m := (vadv P n' s).mem) hop hc (asFrz_ok hx) hs1 hs2 hs3 hlen (rows_u8 xs).1
            rw [(rows_u8 xs).2] at hok
            exact RunsE.op o ho hok h2
          · cases hs
        · cases hs
    · cases hs
  · cases hs
end

end

end Go.Dt
