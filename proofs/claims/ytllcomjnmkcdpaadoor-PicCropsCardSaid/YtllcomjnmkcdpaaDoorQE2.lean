/- Several texts in one: Dt4, Dt5, Dt6. -/
import Derived.Test.YtllcomjnmkcdpaaDoorQE1
import Derived.Laws.CopyRow
import Derived.Laws.Cells
namespace Go.Dt

section


section
variable {P : Program}

theorem tch_self (rd : List Nat) (n : Nat) : tch rd n n = isIn rd := by
  funext b
  unfold tch isIn
  have : (decide (n ≤ b) && decide (b < n)) = false := by
    rw [Bool.and_eq_false_iff, decide_eq_false_iff_not, decide_eq_false_iff_not]; omega
  rw [this, Bool.or_false]

/-- An operation that yields a value, in the world that it got. -/
theorem wp_of_value {o : Oper} {t : Array Value} {w w' : World} {v' : Value} {next : Act → World → Prop} {Q : Exit → Act → World → Prop}
    (h : (execOp (act t).eval o).run P w = .ok (.value v') w') (hn : next ((act t).put o.dst v') w') : o.wp P (act t) w next Q := by
  unfold Oper.wp
  rw [h]
  exact hn

theorem wp_of_skip {o : Oper} {t : Array Value} {w w' : World} {next : Act → World → Prop} {Q : Exit → Act → World → Prop}
    (h : (execOp (act t).eval o).run P w = .ok .skip w') (hn : next ((act t).put o.dst undef) w') : o.wp P (act t) w next Q := by
  unfold Oper.wp
  rw [h]
  exact hn

def FroOk (ι : Map) (w : World) : Prop := ∀ r c, ι.fro r = some c → ∃ t fz, w.heap[r]? = some (.cells c t fz)

theorem OpOk.readsF {o : Oper} {a : List Value} {m : List Blk} {v : Value} {rd : List Nat} (hlt : ∀ b, b ∈ rd → b < m.length)
    (h : ∀ (ι : Map) (t : Array Value) (w : World), (∀ x, x ∈ slotsOf o → RV ι (a.getD x undef) (t.getD x undef)) → (∀ b, b ∈ rd → BlkOk ι w b (m.getD b .gone)) → FroOk ι w →
      ∃ v', RV ι v v' ∧ (execOp (act t).eval o).run P w = .ok (.value v') w) : OpOk P o a m v m ⟨rd, []⟩ where
  len := Nat.le_refl _
  sub := by simp
  rdlt := hlt
  same := fun _ _ _ => rfl
  run := fun ι t w hs _ hsim next Q hn => by
    obtain ⟨v', hv, hr⟩ := h ι t w hs (fun b hb => by
      have := hsim.blk b
      simpa [Cont.only, isIn, hb, at_] using this) hsim.fro
    rw [tch_self] at hn
    exact wp_of_value hr (hn v' w ι hv (Ext.refl _ _ _) hsim (fun _ h1 h2 => absurd h1 h2))

/-- Reads the blocks of 'rd' at most. -/
theorem OpOk.reads {o : Oper} {a : List Value} {m : List Blk} {v : Value} {rd : List Nat} (hlt : ∀ b, b ∈ rd → b < m.length)
    (h : ∀ (ι : Map) (t : Array Value) (w : World), (∀ x, x ∈ slotsOf o → RV ι (a.getD x undef) (t.getD x undef)) → (∀ b, b ∈ rd → BlkOk ι w b (m.getD b .gone)) →
      ∃ v', RV ι v v' ∧ (execOp (act t).eval o).run P w = .ok (.value v') w) : OpOk P o a m v m ⟨rd, []⟩ where
  len := Nat.le_refl _
  sub := by simp
  rdlt := hlt
  same := fun _ _ _ => rfl
  run := fun ι t w hs _ hsim next Q hn => by
    obtain ⟨v', hv, hr⟩ := h ι t w hs (fun b hb => by
      have := hsim.blk b
      simpa [Cont.only, isIn, hb, at_] using this)
    rw [tch_self] at hn
    exact wp_of_value hr (hn v' w ι hv (Ext.refl _ _ _) hsim (fun _ h1 h2 => absurd h1 h2))

/-- Looks at no memory. -/
theorem OpOk.quiet {o : Oper} {a : List Value} {m : List Blk} {v : Value}
    (h : ∀ (ι : Map) (t : Array Value) (w : World), (∀ x, x ∈ slotsOf o → RV ι (a.getD x undef) (t.getD x undef)) → ∃ v', RV ι v v' ∧ (execOp (act t).eval o).run P w = .ok (.value v') w) :
    OpOk P o a m v m ⟨[], []⟩ :=
  OpOk.reads (by simp) fun ι t w hs _ => h ι t w hs

def upd (ι : Map) (b : Nat) (L : Loc) : Map := ⟨fun x => if x = b then some L else ι x, ι.fro⟩
theorem upd_le {ι : Map} {b : Nat} {L : Loc} (h : ι b = none) : Le ι (upd ι b L) := ⟨fun x K hx => by
  unfold upd
  simp only
  split
  · rename_i e; rw [e, h] at hx; cases hx
  · exact hx, fun _ _ h => h⟩
theorem upd_self (ι : Map) (b : Nat) (L : Loc) : upd ι b L b = some L := by simp [upd]
theorem upd_ne {ι : Map} {b x : Nat} {L : Loc} (h : x ≠ b) : upd ι b L x = ι x := by simp [upd, h]

theorem getD_append_new (m : List Blk) (x : Blk) : (m ++ [x]).getD m.length .gone = x := by simp [List.getD_eq_getElem?_getD]
theorem getD_append_old (m : List Blk) (x : Blk) {b : Nat} (h : b < m.length) : (m ++ [x]).getD b .gone = m.getD b .gone := by
  simp [List.getD_eq_getElem?_getD, List.getElem?_append_left h]

/-- A new row of cells behind a memory: what the step does to it. -/
theorem new_row {ι : Map} {m : List Blk} {w : World} {c : List Value} {cr : Array Value} {e : TypeId} {sz : Nat} (hsim : Sim ι ((at_ m).only (isIn [])) w) (hι : ι m.length = none) (hs : c.length ≤ cr.size)
    (hc : ∀ i, i < c.length → RV ι (c.getD i undef) (cr.getD i undef)) :
    let ι' := upd ι m.length ⟨w.heap.size, 0, cr.size, sz, false⟩
    let C' : Cont := (at_ (m ++ [.cells c sz true])).only (tch [] m.length (m ++ [Blk.cells c sz true]).length)
    let w' : World := { w with heap := w.heap.push (.cells cr e) }
    Ext ι ((at_ m).only (isIn [])) w ι' C' w' ∧ Sim ι' C' w' ∧ (∀ b, ι b = none → ι' b ≠ none → m.length ≤ b ∧ b < (m ++ [Blk.cells c sz true]).length) := by
  intro ι' C' w'
  have hC : ∀ b, C' b = if b = m.length then .cells c sz true else .gone := fun b => by
    simp only [C', Cont.only, tch, at_, List.contains_nil, Bool.false_or, List.length_append, List.length_cons, List.length_nil, Bool.and_eq_true, decide_eq_true_eq]
    by_cases hb : b = m.length
    · subst hb
      simp [List.getD_eq_getElem?_getD]
    · rw [if_neg hb, if_neg (by omega)]
  have hw : w'.heap[w.heap.size]? = some (.cells cr e) := by simp [w']
  refine ⟨⟨upd_le hι, by simp [w'], rfl, rfl, rfl, fun k hk _ => ?_, fun k => ?_, fun k => ?_, fun _ _ h => .inl h⟩, ⟨fun b => ?_, fun b b2 L L2 hne ho hl => ?_, fun r c hr => ?_, fun b L r c ho hL hr => ?_⟩, fun b h1 h2 => ?_⟩
  · simp only [w', Array.getElem?_push]
    rw [if_neg (by omega)]
  · rintro ⟨b, L, ho, hL, hk⟩
    rw [hC] at ho
    split at ho
    · rename_i hb
      subst hb
      rw [show ι' m.length = _ from upd_self _ _ _] at hL; cases hL
      exact .inr (by rw [← hk]; exact Nat.le_refl _)
    · cases ho
  · rintro ⟨b, L, ho, hL, hk⟩
    rw [hC] at ho
    split at ho
    · rename_i hb
      subst hb
      rw [show ι' m.length = _ from upd_self _ _ _] at hL; cases hL
      exact .inr (by rw [← hk]; exact Nat.le_refl _)
    · cases ho
  · rw [hC]
    split
    · rename_i hb
      subst hb
      exact ⟨_, cr, e, (0, 0), upd_self _ _ _, hw, by simpa using hs, fun _ => ⟨rfl, by simp, rfl, rfl⟩, by simp, fun i hi => by simpa using (hc i hi).mono (upd_le hι)⟩
    · trivial
  · rw [hC] at ho hl
    split at ho
    · split at hl
      · rename_i h1 h2; exact absurd (h1.trans h2.symm) hne
      · cases hl
    · cases ho
  · obtain ⟨t, fz, h⟩ := hsim.fro r c hr
    have hlt := (Array.getElem?_eq_some_iff.1 h).1
    refine ⟨t, fz, ?_⟩
    show (w.heap.push _)[r]? = _
    rw [Array.getElem?_push, if_neg (by omega)]; exact h
  · rw [hC] at ho
    split at ho
    · rename_i hb
      subst hb
      rw [show ι' m.length = _ from upd_self _ _ _] at hL; cases hL
      obtain ⟨t, fz, h⟩ := hsim.fro r c hr
      have hlt := (Array.getElem?_eq_some_iff.1 h).1
      simp only
      omega
    · cases ho
  · by_cases hb : b = m.length
    · subst hb; simp
    · rw [show ι' b = ι b from upd_ne hb] at h2; exact absurd h1 h2

/-- Makes a new row of cells, and yields something that may hang on where it lies. -/
theorem OpOk.makes {o : Oper} {a : List Value} {m : List Blk} {v : Value} {c : List Value} {sz : Nat}
    (h : ∀ (ι : Map) (t : Array Value) (w : World), (∀ x, x ∈ slotsOf o → RV ι (a.getD x undef) (t.getD x undef)) →
      ∃ v' cr e, c.length ≤ cr.size ∧ (∀ i, i < c.length → RV ι (c.getD i undef) (cr.getD i undef)) ∧
        (∀ ι', Le ι ι' → ι' m.length = some ⟨w.heap.size, 0, cr.size, sz, false⟩ → RV ι' v v') ∧
        (execOp (act t).eval o).run P w = .ok (.value v') { w with heap := w.heap.push (.cells cr e) }) :
    OpOk P o a m v (m ++ [.cells c sz true]) ⟨[], []⟩ where
  len := by simp
  sub := by simp
  rdlt := by simp
  same := fun b hb _ => getD_append_old _ _ hb
  run := fun ι t w hs hdom hsim next Q hn => by
    obtain ⟨v', cr, e, h1, h2, h3, hr⟩ := h ι t w hs
    have hι : ι m.length = none := hdom m.length (Nat.le_refl _) (by simp)
    obtain ⟨k1, k2, k3⟩ := new_row (w := w) (e := e) (sz := sz) hsim hι h1 h2
    exact wp_of_value hr (hn v' _ _ (h3 _ (upd_le hι) (upd_self _ _ _)) k1 k2 k3)

/-- Writes a block that it owns: the same real block, other cells. -/
theorem put_cells {ι : Map} {m : List Blk} {w : World} {b : Nat} {c c2 : List Value} {sz : Nat} {L : Loc} {c' c2' : Array Value} {e : TypeId}
    (hsim : Sim ι ((at_ m).only (isIn [b])) w) (hb : m.getD b .gone = .cells c sz true) (hblt : b < m.length) (hL : ι b = some L) (hh : w.heap[L.blk]? = some (.cells c' e (0, 0))) (hroom : c'.size = L.off + L.room) (hsz : L.sz = sz) (hro : L.ro = false)
    (hsize : c2'.size = c'.size) (hfit : L.off + c2.length ≤ c2'.size) (hc : ∀ i, i < c2.length → RV ι (c2.getD i undef) (c2'.getD (L.off + i) undef)) :
    let C : Cont := (at_ m).only (isIn [b])
    let C' : Cont := (at_ (m.set b (.cells c2 sz true))).only (tch [b] m.length (m.set b (.cells c2 sz true)).length)
    let w' : World := { w with heap := w.heap.setIfInBounds L.blk (.cells c2' e (0, 0)) }
    Ext ι C w ι C' w' ∧ Sim ι C' w' := by
  intro C C' w'
  have hC : ∀ x, C x = if x = b then .cells c sz true else .gone := fun x => by
    simp only [C, Cont.only, isIn, at_]
    by_cases hx : x = b
    · subst hx; simp only [List.contains_cons, beq_self_eq_true, List.contains_nil, Bool.or_false, if_true]; exact hb
    · simp [hx]
  have hC' : ∀ x, C' x = if x = b then .cells c2 sz true else .gone := fun x => by
    simp only [C', List.length_set, tch_self, Cont.only, isIn, at_]
    by_cases hx : x = b
    · subst hx; simp [List.getD_eq_getElem?_getD, hblt]
    · simp [hx]
  have hlt : L.blk < w.heap.size := (Array.getElem?_eq_some_iff.1 hh).1
  refine ⟨⟨Le.refl _, by simp [w'], rfl, rfl, rfl, fun k hk hn => ?_, fun k => ?_, fun k => ?_, fun _ _ h => .inl h⟩, ⟨fun x => ?_, fun x x2 K K2 hne ho hl => ?_, fun r c hr => ?_, fun x K r c ho hK hr => ?_⟩⟩
  · have hne : L.blk ≠ k := fun e => hn ⟨b, L, by rw [hC]; simp [Blk.own], hL, e⟩
    simp only [w']
    exact Array.getElem?_setIfInBounds_ne hne
  · rintro ⟨x, K, ho, hK, hk⟩
    rw [hC'] at ho
    split at ho
    · rename_i hx; exact .inl ⟨x, K, by rw [hC, if_pos hx]; rfl, hK, hk⟩
    · cases ho
  · rintro ⟨x, K, ho, hK, hk⟩
    rw [hC'] at ho
    split at ho
    · rename_i hx; exact .inl ⟨x, K, by rw [hC, if_pos hx]; rfl, hK, hk⟩
    · cases ho
  · rw [hC']
    split
    · rename_i hx
      subst hx
      exact ⟨L, c2', e, (0, 0), hL, by simp [w', hlt], hfit, fun _ => ⟨rfl, by rw [hsize]; exact hroom, hsz, hro⟩, by simp, hc⟩
    · trivial
  · rw [hC'] at ho hl
    split at ho
    · split at hl
      · rename_i h1 h2; exact absurd (h1.trans h2.symm) hne
      · cases hl
    · cases ho
  · obtain ⟨t, fz, h⟩ := hsim.fro r c hr
    have hne : L.blk ≠ r := hsim.apart b L r c (by rw [show ((at_ m).only (isIn [b])) b = _ from (hC b)]; simp [Blk.own]) hL hr
    exact ⟨t, fz, by simp only [w']; rw [Array.getElem?_setIfInBounds_ne hne]; exact h⟩
  · rw [hC'] at ho
    split at ho
    · rename_i hx; subst hx
      exact hsim.apart x K r c (by rw [show ((at_ m).only (isIn [x])) x = _ from (hC x)]; simp [Blk.own]) hK hr
    · cases ho

theorem OpOk.writes {o : Oper} {a : List Value} {m : List Blk} {b : Nat} {c c2 : List Value} {sz : Nat} {v : Value} (hb : m.getD b .gone = .cells c sz true) (hblt : b < m.length)
    (h : ∀ (ι : Map) (t : Array Value) (w : World) (L : Loc) (c' : Array Value) (e : TypeId), (∀ x, x ∈ slotsOf o → RV ι (a.getD x undef) (t.getD x undef)) → ι b = some L →
      w.heap[L.blk]? = some (.cells c' e (0, 0)) → c'.size = L.off + L.room → L.sz = sz → L.off + c.length ≤ c'.size → (∀ i, i < c.length → RV ι (c.getD i undef) (c'.getD (L.off + i) undef)) →
      ∃ c2' : Array Value, c2'.size = c'.size ∧ L.off + c2.length ≤ c'.size ∧ (∀ i, i < c2.length → RV ι (c2.getD i undef) (c2'.getD (L.off + i) undef)) ∧
        ∃ r v', (execOp (act t).eval o).run P w = .ok r { w with heap := w.heap.setIfInBounds L.blk (.cells c2' e (0, 0)) } ∧ RV ι v v' ∧ (r = .value v' ∨ (r = .skip ∧ v' = undef))) :
    OpOk P o a m v (m.set b (.cells c2 sz true)) ⟨[b], [b]⟩ where
  len := by simp
  sub := by simp
  rdlt := by simpa using hblt
  same := fun x _ hn => by
    have hne : b ≠ x := fun e => hn (by simp [e])
    simp [List.getD_eq_getElem?_getD, List.getElem?_set_ne hne]
  run := fun ι t w hs _ hsim next Q hn => by
    have hB := hsim.blk b
    have hCb : (at_ m).only (isIn [b]) b = .cells c sz true := by simp only [Cont.only, isIn, at_, List.contains_cons, beq_self_eq_true, Bool.true_or, if_true]; exact hb
    rw [hCb] at hB
    obtain ⟨L, c', e, fz, hL, hh, hfit, hrw, _, hcells⟩ := hB
    obtain ⟨rfl, hroom, hsz, hro⟩ := hrw rfl
    obtain ⟨c2', h1, h2, h3, r, v', hr, hv, hrv⟩ := h ι t w L c' e hs hL hh hroom hsz hfit hcells
    obtain ⟨k1, k2⟩ := put_cells hsim hb hblt hL hh hroom hsz hro h1 (by omega) h3
    rcases hrv with rfl | ⟨rfl, rfl⟩
    · exact wp_of_value hr (hn v' _ _ hv k1 k2 (fun _ h1 h2 => absurd h1 h2))
    · exact wp_of_skip hr (hn undef _ _ hv k1 k2 (fun _ h1 h2 => absurd h1 h2))

end

end

section
open Go.Instr

/-! ### Values without addresses -/
mutual
def plain : Value → Bool
  | .bool _ | .int _ _ | .float _ _ | .string _ | .nilFunc | .nilIface => true
  | .pointer none | .slice none _ _ | .map none => true
  | .iface t v => Nat.blt t frzT && plain v
  | .agg ⟨l⟩ => plains l
  | .tuple ⟨l⟩ => !l.isEmpty && plains l
  | _ => false
def plains : List Value → Bool
  | [] => true
  | v :: l => plain v && plains l
end

theorem plains_get : ∀ {l : List Value} {i : Nat}, plains l = true → i < l.length → plain (l.getD i undef) = true
  | v :: l, 0, h, _ => by simp only [plains, Bool.and_eq_true] at h; simpa [List.getD_eq_getElem?_getD] using h.1
  | v :: l, i + 1, h, hi => by
    simp only [plains, Bool.and_eq_true] at h
    simpa [List.getD_eq_getElem?_getD] using plains_get (i := i) h.2 (by simpa using hi)

mutual
theorem RV.refl (ι : Map) : ∀ v : Value, plain v = true → RV ι v v
  | .bool b, _ => .bool b
  | .int k n, _ => .int k n
  | .float k n, _ => .float k n
  | .string s, _ => .string s
  | .nilFunc, _ => .nilFunc
  | .nilIface, _ => .nilIface
  | .pointer none, _ => .nilp
  | .slice none l c, _ => .nils l c
  | .map none, _ => .nilm
  | .iface t v, h => .iface t (by simp only [plain, Bool.and_eq_true] at h; exact Nat.lt_of_succ_le (Nat.le_of_ble_eq_true h.1)) (RV.refl ι v (by simp only [plain, Bool.and_eq_true] at h; exact h.2))
  | .agg ⟨l⟩, h => .agg rfl (by simpa using RV.refls ι l (by simpa [plain] using h))
  | .tuple ⟨l⟩, h => .tuple rfl (by simpa using RV.refls ι l (by simp only [plain, Bool.and_eq_true] at h; exact h.2))
  | .complex _ _ _, h => by simp [plain] at h
  | .pointer (some _), h => by simp [plain] at h
  | .slice (some _) _ _, h => by simp [plain] at h
  | .map (some _), h => by simp [plain] at h
  | .chan _, h => by simp [plain] at h
  | .func _ _ _, h => by simp [plain] at h
theorem RV.refls (ι : Map) : ∀ l : List Value, plains l = true → ∀ i : Nat, RV ι (l[i]?.getD undef) (l[i]?.getD undef)
  | [], _, i => by simpa using RV.any undef
  | v :: l, h, 0 => by simp only [plains, Bool.and_eq_true] at h; simpa using RV.refl ι v h.1
  | v :: l, h, i + 1 => by simp only [plains, Bool.and_eq_true] at h; simpa using RV.refls ι l h.2 i
end

theorem arr_ext {cs cs' : Array Value} (hs : cs.size = cs'.size) (h : ∀ i : Nat, i < cs.size → cs.getD i undef = cs'.getD i undef) : cs = cs' := by
  apply Array.ext hs
  intro i h1 h2
  have := h i h1
  simpa [h1, h2] using this

theorem RV.eq_of_plain {ι : Map} {v v' : Value} (h : RV ι v v') (hp : plain v = true) : v = v' := by
  induction h with
  | any v => simp [plain, undef] at hp
  | skip => simp [plain] at hp
  | agg hs h ih =>
    rename_i cs cs'
    have : cs = cs' := arr_ext hs fun i hi => ih i (by
      obtain ⟨l⟩ := cs
      simp only [plain] at hp
      have := plains_get (i := i) hp (by simpa using hi)
      simpa [List.getD_eq_getElem?_getD] using this)
    rw [this]
  | tuple hs h ih =>
    rename_i cs cs'
    have : cs = cs' := arr_ext hs fun i hi => ih i (by
      obtain ⟨l⟩ := cs
      simp only [plain, Bool.and_eq_true] at hp
      have := plains_get (i := i) hp.2 (by simpa using hi)
      simpa [List.getD_eq_getElem?_getD] using this)
    rw [this]
  | iface t ht h ih => rw [ih (by simp only [plain, Bool.and_eq_true] at hp; exact hp.2)]
  | frz => exact absurd ((Bool.and_eq_true _ _).mp hp).1 (by decide)
  | frzN => exact absurd ((Bool.and_eq_true _ _).mp hp).1 (by decide)
  | frzE => exact absurd ((Bool.and_eq_true _ _).mp hp).1 (by decide)
  | empN => exact absurd ((Bool.and_eq_true _ _).mp hp).1 (by decide)
  | empE => exact absurd ((Bool.and_eq_true _ _).mp hp).1 (by decide)
  | anyB => exact absurd ((Bool.and_eq_true _ _).mp hp).1 (by decide)
  | frp => exact absurd ((Bool.and_eq_true _ _).mp hp).1 (by decide)
  | ptr h => simp [plain] at hp
  | slice h hc hr => simp [plain] at hp
  | slice0 x y => simp [plain] at hp
  | map h => simp [plain] at hp
  | func fn hx hy h h' => simp [plain] at hp
  | yld h => simp [plain] at hp
  | _ => rfl

theorem pures_get : ∀ {l : List Value} {i : Nat}, pures l = true → i < l.length → pureV (l.getD i undef) = true
  | v :: l, 0, h, _ => by simp only [pures, Bool.and_eq_true] at h; simpa [List.getD_eq_getElem?_getD] using h.1
  | v :: l, i + 1, h, hi => by
    simp only [pures, Bool.and_eq_true] at h
    simpa [List.getD_eq_getElem?_getD] using pures_get (i := i) h.2 (by simpa using hi)

mutual
theorem pure_of_plain : ∀ v : Value, plain v = true → pureV v = true
  | .bool _, _ => rfl
  | .int _ _, _ => rfl
  | .float _ _, _ => rfl
  | .string _, _ => rfl
  | .nilFunc, _ => rfl
  | .nilIface, _ => rfl
  | .pointer none, _ => rfl
  | .slice none _ _, _ => rfl
  | .map none, _ => rfl
  | .iface t v, h => by
    simp only [plain, Bool.and_eq_true] at h
    simp only [pureV, pure_of_plain v h.2, h.1, cond_true]
  | .agg ⟨l⟩, h => by simpa [pureV] using pures_of_plains l (by simpa [plain] using h)
  | .tuple ⟨l⟩, h => by simp only [plain, Bool.and_eq_true] at h; simp only [pureV, h.1, pures_of_plains l h.2, Bool.and_self]
  | .complex _ _ _, h => by simp [plain] at h
  | .pointer (some _), h => by simp [plain] at h
  | .slice (some _) _ _, h => by simp [plain] at h
  | .map (some _), h => by simp [plain] at h
  | .chan _, h => by simp [plain] at h
  | .func _ _ _, h => by simp [plain] at h
theorem pures_of_plains : ∀ l : List Value, plains l = true → pures l = true
  | [], _ => rfl
  | v :: l, h => by simp only [plains, Bool.and_eq_true] at h; simp only [pures, pure_of_plain v h.1, pures_of_plains l h.2, Bool.and_self]
end

theorem RV.pure_move {ι ι2 : Map} (hf : ∀ r c, ι.fro r = some c → ι2.fro r = some c) {v x : Value} (h : RV ι v x) (hp : pureV v = true) : RV ι2 v x := by
  induction h with
  | any v => exact .any v
  | skip => exact .skip
  | bool b => exact .bool b
  | int k n => exact .int k n
  | float k n => exact .float k n
  | string s => exact .string s
  | nilp => exact .nilp
  | ptr h => simp [pureV] at hp
  | nils l c => exact .nils l c
  | slice h hc hr => simp [pureV] at hp
  | slice0 x y => exact .slice0 x y
  | nilm => exact .nilm
  | map h => simp [pureV] at hp
  | func fn hx hy _ _ i1 i2 =>
    rename_i xs xs' ys ys' _ _
    obtain ⟨l⟩ := xs
    obtain ⟨k⟩ := ys
    simp only [pureV, Bool.and_eq_true] at hp
    refine .func fn hx hy (fun i => ?_) (fun i => ?_)
    · by_cases hi : i < l.length
      · exact i1 i (by have := pures_get (i := i) hp.1 hi; simpa [List.getD_eq_getElem?_getD] using this)
      · have e : (⟨l⟩ : Array Value).getD i undef = undef := by simp [Array.getD_eq_getD_getElem?, List.getElem?_eq_none (Nat.le_of_not_lt hi)]
        rw [e]; exact .any _
    · by_cases hi : i < k.length
      · exact i2 i (by have := pures_get (i := i) hp.2 hi; simpa [List.getD_eq_getElem?_getD] using this)
      · have e : (⟨k⟩ : Array Value).getD i undef = undef := by simp [Array.getD_eq_getD_getElem?, List.getElem?_eq_none (Nat.le_of_not_lt hi)]
        rw [e]; exact .any _
  | nilFunc => exact .nilFunc
  | yld h => cases hp
  | iface t ht _ ih =>
    simp only [pureV, Nat.blt, Nat.ble_eq_true_of_le (Nat.succ_le_of_lt ht), cond_true] at hp
    exact .iface t ht (ih hp)
  | frz h hn hp' hfit _ ih => exact .frz (hf _ _ h) hn hp' hfit fun i hi => ih i hi (pures_get hp' hi)
  | frzN => exact .frzN
  | frzE x cap => exact .frzE x cap
  | empN => exact .empN
  | empE x => exact .empE x
  | anyB b => exact .anyB b
  | frp h hp' hfit _ ih => exact .frp (hf _ _ h) hp' hfit fun i hi => ih i hi (pures_get hp' hi)
  | nilIface => exact .nilIface
  | agg hs _ ih =>
    rename_i cs cs' _
    obtain ⟨l⟩ := cs
    have hp : pures l = true := by simpa [pureV] using hp
    refine .agg hs fun i => ?_
    by_cases hi : i < l.length
    · exact ih i (by have := pures_get (i := i) hp hi; simpa [List.getD_eq_getElem?_getD] using this)
    · have e : (⟨l⟩ : Array Value).getD i undef = undef := by simp [Array.getD_eq_getD_getElem?, List.getElem?_eq_none (Nat.le_of_not_lt hi)]
      rw [e]; exact .any _
  | tuple hs _ ih =>
    rename_i cs cs' _
    obtain ⟨l⟩ := cs
    have hp : pures l = true := by simp only [pureV, Bool.and_eq_true] at hp; exact hp.2
    refine .tuple hs fun i => ?_
    by_cases hi : i < l.length
    · exact ih i (by have := pures_get (i := i) hp hi; simpa [List.getD_eq_getElem?_getD] using this)
    · have e : (⟨l⟩ : Array Value).getD i undef = undef := by simp [Array.getD_eq_getD_getElem?, List.getElem?_eq_none (Nat.le_of_not_lt hi)]
      rw [e]; exact .any _

/-! ### Operands -/
def evalC (a : List Value) : Operand → Value
  | .tmp t => a.getD t undef
  | .const v => v
  | .global _ => undef
  | .func f => .func (.func f) #[] #[]

def okConst : Operand → Bool
  | .const v => plain v
  | _ => true

theorem mem_slots {o : Oper} {t : Nat} (h : Operand.tmp t ∈ o.op.operands) : t ∈ slotsOf o := by
  unfold slotsOf
  rw [List.mem_filterMap]
  exact ⟨.tmp t, by simpa using h, rfl⟩

theorem rv_operand {ι : Map} {a : List Value} {t : Array Value} {o : Oper} (hs : ∀ x, x ∈ slotsOf o → RV ι (a.getD x undef) (t.getD x undef)) {x : Operand} (hx : x ∈ o.op.operands) (hc : okConst x = true) :
    RV ι (evalC a x) ((act t).eval x) := by
  cases x with
  | tmp n => exact hs n (mem_slots hx)
  | const v => exact RV.refl ι v hc
  | global g => exact .any _
  | func f => exact .func _ rfl rfl (fun i => by simpa using RV.any undef) (fun i => by simpa using RV.any undef)

/-! ### Operations that look at nothing but plain values -/
def pureEval (P : Program) {α : Type} : Sem α → Option α
  | .pure a => some a
  | .program k => pureEval P (k P)
  | _ => none

theorem run_of_pureEval {P : Program} {α : Type} {s : Sem α} {x : α} (h : pureEval P s = some x) (w : World) : s.run P w = .ok x w := by
  induction s with
  | pure a => simp only [pureEval] at h; cases h; rfl
  | program k ih => simp only [pureEval] at h; exact ih P h
  | _ => simp [pureEval] at h

def notSelect (o : Oper) : Bool := match o.op with | .select .. => false | _ => true
def plainOperand (a : List Value) : Operand → Bool
  | .tmp t => plain (a.getD t undef)
  | .const _ => true
  | .global _ => false
  | .func _ => true

theorem OpOk.plainOp {P : Program} {o : Oper} {a : List Value} {m : List Blk} {v : Value} (hops : o.op.operands.toList.all (plainOperand a) = true) (hn : notSelect o = true) (hv : plain v = true)
    (h : pureEval P (execOp (evalC a) o) = some (.value v)) : OpOk P o a m v m ⟨[], []⟩ :=
  OpOk.quiet fun ι t w hs => by
    refine ⟨v, RV.refl ι v hv, ?_⟩
    have hcongr : execOp (act t).eval o = execOp (evalC a) o := by
      refine execOp_congr o (fun cs b hsel => by simp [notSelect, hsel] at hn) fun x hx => ?_
      have hp := List.all_eq_true.1 hops x (by simpa using hx)
      cases x with
      | tmp n => exact ((hs n (mem_slots hx)).eq_of_plain (by simpa [plainOperand] using hp)).symm
      | const v => rfl
      | global g => simp [plainOperand] at hp
      | func f => rfl
    rw [hcongr]
    exact run_of_pureEval h w

/-! ### Values that are handed on -/
section
variable {P : Program} {o : Oper} {a : List Value} {m : List Blk}

theorem OpOk.move {x : Operand} (ho : o.op = .move x ∨ o.op = .assign x) (hc : okConst x = true) : OpOk P o a m (evalC a x) m ⟨[], []⟩ :=
  OpOk.quiet fun ι t w hs => by
    have hx : x ∈ o.op.operands := by rcases ho with ho | ho <;> rw [ho] <;> simp [Op.operands]
    refine ⟨_, rv_operand hs hx hc, ?_⟩
    rcases ho with ho | ho <;> · unfold execOp; rw [ho]; rfl

theorem OpOk.extract {x : Operand} {i : Nat} {vs : Array Value} {v : Value} (ho : o.op = .extract x i) (hx : evalC a x = .tuple vs) (hc : okConst x = true) (hv : vs[i]? = some v) : OpOk P o a m v m ⟨[], []⟩ :=
  OpOk.quiet fun ι t w hs => by
    have h := rv_operand hs (x := x) (by rw [ho]; simp [Op.operands]) hc
    rw [hx] at h
    have hlt : i < vs.size := (Array.getElem?_eq_some_iff.1 hv).1
    generalize hy : (act t).eval x = y at h
    cases h with
    | any => simp at hlt
    | tuple hsz hh =>
      rename_i vs'
      refine ⟨vs'[i]'(by omega), ?_, ?_⟩
      · have := hh i
        have h1 : vs.getD i undef = v := by simp [Array.getD_eq_getD_getElem?, hv]
        have h2 : vs'.getD i undef = vs'[i]'(by omega) := by simp [show i < vs'.size by omega]
        rwa [h1, h2] at this
      · unfold execOp; rw [ho]
        simp only [hy, Instr.extract]
        simp [show i < vs'.size by omega]

def isAggC (P : Program) (t : TypeId) : Option Bool :=
  match P.underlying t with
  | some (.struct _) | some (.array _ _) => some true
  | some _ => some false
  | none => none

theorem run_isAgg {t : TypeId} {b : Bool} (h : isAggC P t = some b) (w : World) : (isAgg t).run P w = .ok b w := by
  unfold isAggC at h
  unfold isAgg
  cases hu : P.underlying t with
  | none => simp [hu] at h
  | some d => cases d <;> simp_all [run_underlying hu w]

def szC (P : Program) (t : TypeId) : Option Nat := (P.info? t).map (·.size)

theorem run_info {t : TypeId} {i : TypeInfo} (h : P.info? t = some i) (w : World) : (typeInfo t).run P w = .ok i w := by
  unfold typeInfo program
  rw [Sem.run_bind]
  show Result.andThen (.ok P w) _ = _
  simp [h]

theorem run_szC {t : TypeId} {n : Nat} (h : szC P t = some n) (w : World) : (sizeOf t).run P w = .ok n w := by
  unfold szC at h
  cases hi : P.info? t with
  | none => simp [hi] at h
  | some i =>
    simp only [hi, Option.map_some, Option.some.injEq] at h
    subst h
    simp [sizeOf, run_info hi]

theorem getD_extract {cs : Array Value} {off n i : Nat} (h : i < n) : (cs.extract off (off + n)).getD i undef = cs.getD (off + i) undef := by
  simp only [Array.getD_eq_getD_getElem?, Array.getElem?_extract]
  by_cases hb : off + i < cs.size
  · rw [if_pos (by omega)]
  · rw [if_neg (by omega)]
    simp [Array.getElem?_eq_none (Nat.le_of_not_lt hb)]

/-- A part of an aggregate: a struct's field, an array's element. -/
def partC (P : Program) (t : TypeId) (cs : Array Value) (off : Nat) : Option Value :=
  match isAggC P t with
  | some true => (szC P t).map fun n => .agg (cs.extract off (off + n))
  | some false => cs[off]?
  | none => none

theorem run_part {ι : Map} {t : TypeId} {cs cs' : Array Value} {off : Nat} {v : Value} (h : partC P t cs off = some v) (hs : cs.size = cs'.size) (hr : ∀ i : Nat, RV ι (cs.getD i undef) (cs'.getD i undef)) (w : World) :
    ∃ v', RV ι v v' ∧ (part t cs' off).run P w = .ok v' w := by
  unfold partC at h
  cases hagg : isAggC P t with
  | none => simp [hagg] at h
  | some b =>
    have hra := run_isAgg hagg w
    cases b with
    | true =>
      simp only [hagg] at h
      cases hz : szC P t with
      | none => simp [hz] at h
      | some n =>
        simp only [hz, Option.map_some, Option.some.injEq] at h
        subst h
        refine ⟨.agg (cs'.extract off (off + n)), .agg (by simp [hs]) (fun i => ?_), ?_⟩
        · by_cases hi : i < n
          · rw [getD_extract hi, getD_extract hi]; exact hr _
          · have : (cs.extract off (off + n)).getD i undef = undef := by
              have h2 : ¬ i < (cs.extract off (off + n)).size := by simp; omega
              simp only [Array.getD, h2, dite_false]
            rw [this]; exact .any _
        · unfold part
          simp [hra, run_szC hz w]
    | false =>
      simp only [hagg] at h
      have hlt : off < cs.size := (Array.getElem?_eq_some_iff.1 h).1
      have hlt' : off < cs'.size := by omega
      refine ⟨cs'[off], ?_, ?_⟩
      · have := hr off
        simp only [Array.getD_eq_getD_getElem?, h] at this
        simpa [hlt'] using this
      · unfold part
        simp [hra, hlt']

theorem RV.agg_inv {ι : Map} {cs : Array Value} {v : Value} (h : RV ι (.agg cs) v) : ∃ cs', v = .agg cs' ∧ cs.size = cs'.size ∧ ∀ i : Nat, RV ι (cs.getD i undef) (cs'.getD i undef) := by
  cases h with
  | agg hs hh => exact ⟨_, rfl, hs, hh⟩

theorem OpOk.field {t : TypeId} {x : Operand} {f : Nat} {fs : Array Field} {fd : Field} {cs : Array Value} {v : Value} (ho : o.op = .field t x f) (hc : okConst x = true) (hx : evalC a x = .agg cs)
    (hu : P.underlying t = some (.struct fs)) (hf : fs[f]? = some fd) (hv : partC P fd.type cs fd.offset = some v) : OpOk P o a m v m ⟨[], []⟩ :=
  OpOk.quiet fun ι tt w hs => by
    have h := rv_operand hs (x := x) (by rw [ho]; simp [Op.operands]) hc
    rw [hx] at h
    obtain ⟨cs', he, hsz, hh⟩ := h.agg_inv
    obtain ⟨v', hv', hr⟩ := run_part hv hsz hh w
    refine ⟨v', hv', ?_⟩
    unfold execOp; rw [ho]
    simp [Instr.field, he, run_underlying hu w, hf, asAgg, hr]

end

end

section
open Go.Instr

section
variable {P : Program} {o : Oper} {a : List Value} {m : List Blk}

theorem RV.int_inv {ι : Map} {k : IntKind} {n : Int} {v : Value} (h : RV ι (.int k n) v) : v = .int k n := by cases h; rfl
theorem RV.ptr_inv {ι : Map} {b off : Nat} {v : Value} (h : RV ι (.pointer (some ⟨b, off, none⟩)) v) : ∃ L, ι b = some L ∧ v = .pointer (some ⟨L.blk, L.off + off, none⟩) := by
  cases h with
  | ptr h => exact ⟨_, h, rfl⟩

/-- What a choice yields. -/
def pickC (c x y : Value) : Option Value :=
  match x, y, c with
  | .bool p, .bool q, .bool b => some (.bool (bif b then p else q))
  | .int k p, .int k' q, .bool b => if k = k' then some (.int k (bif b then p else q)) else none
  | x, _, .bool true => some x
  | _, y, .bool false => some y
  | _, _, _ => none

theorem pick_rv {ι : Map} {c x y v c' x' y' : Value} (h : pickC c x y = some v) (hc : RV ι c c') (hx : RV ι x x') (hy : RV ι y y') : ∃ b, c' = .bool b ∧ RV ι v (if b then x' else y') := by
  unfold pickC at h
  split at h
  · cases h
    have e1 := hc.bool_inv; have e2 := hx.bool_inv; have e3 := hy.bool_inv
    subst e1 e2 e3
    rename_i b
    exact ⟨b, rfl, by cases b <;> exact .bool _⟩
  · rename_i k p k' q b
    split at h
    · rename_i hk; subst hk
      cases h
      have e1 := hc.bool_inv; have e2 := hx.int_inv; have e3 := hy.int_inv
      subst e1 e2 e3
      exact ⟨b, rfl, by cases b <;> exact .int _ _⟩
    · cases h
  · cases h
    have e1 := hc.bool_inv; subst e1
    exact ⟨true, rfl, hx⟩
  · cases h
    have e1 := hc.bool_inv; subst e1
    exact ⟨false, rfl, hy⟩
  · cases h

theorem OpOk.pick {c x y : Operand} {v : Value} (ho : o.op = .pick c x y) (h1 : okConst c = true) (h2 : okConst x = true) (h3 : okConst y = true)
    (hv : pickC (evalC a c) (evalC a x) (evalC a y) = some v) : OpOk P o a m v m ⟨[], []⟩ :=
  OpOk.quiet fun ι t w hs => by
    obtain ⟨b, hb, hrv⟩ := pick_rv hv (rv_operand hs (x := c) (by rw [ho]; simp [Op.operands]) h1) (rv_operand hs (x := x) (by rw [ho]; simp [Op.operands]) h2) (rv_operand hs (x := y) (by rw [ho]; simp [Op.operands]) h3)
    refine ⟨_, hrv, ?_⟩
    unfold execOp; rw [ho]
    cases b <;> simp [asBool, hb]

theorem OpOk.nilCheck {x : Operand} {b off : Nat} (ho : o.op = .nilCheck x) (hx : evalC a x = .pointer (some ⟨b, off, none⟩)) (hc : okConst x = true) : OpOk P o a m (.pointer (some ⟨b, off, none⟩)) m ⟨[], []⟩ :=
  OpOk.quiet fun ι t w hs => by
    have h := rv_operand hs (x := x) (by rw [ho]; simp [Op.operands]) hc
    rw [hx] at h
    obtain ⟨L, hL, he⟩ := h.ptr_inv
    refine ⟨_, .ptr hL, ?_⟩
    unfold execOp; rw [ho]
    simp [he]

theorem OpOk.makeInterface {t : TypeId} {x : Operand} (ho : o.op = .makeInterface t x) (hc : okConst x = true) (ht : Nat.blt t frzT = true) (hu : (match P.underlying t with | some (.interface _) => false | some _ => true | none => false) = true) :
    OpOk P o a m (.iface t (evalC a x)) m ⟨[], []⟩ :=
  OpOk.quiet fun ι tt w hs => by
    have h := rv_operand hs (x := x) (by rw [ho]; simp [Op.operands]) hc
    refine ⟨_, .iface t (Nat.lt_of_succ_le (Nat.le_of_ble_eq_true ht)) h, ?_⟩
    unfold execOp; rw [ho]
    cases hd : P.underlying t with
    | none => simp [hd] at hu
    | some d => cases d <;> simp_all [Instr.makeInterface, run_underlying hd w]

theorem RV.of_map {ι : Map} {f f' : Operand → Value} {xs : Array Operand} (h : ∀ x, x ∈ xs → RV ι (f x) (f' x)) (i : Nat) : RV ι ((xs.map f).getD i undef) ((xs.map f').getD i undef) := by
  by_cases hi : i < xs.size
  · simpa [hi] using h xs[i] (by simp)
  · have : (xs.map f).getD i undef = undef := by
      have h2 : ¬ i < (xs.map f).size := by simpa using hi
      simp only [Array.getD, h2, dite_false]
    rw [this]; exact .any _

theorem OpOk.makeFunc {fn : Fn} {xs ys : Array Operand} (ho : o.op = .makeFunc fn xs ys) (hc : (xs ++ ys).all okConst = true) : OpOk P o a m (.func fn (xs.map (evalC a)) (ys.map (evalC a))) m ⟨[], []⟩ :=
  OpOk.quiet fun ι t w hs => by
    have hall : ∀ x, x ∈ xs ++ ys → RV ι (evalC a x) ((act t).eval x) := fun x hx =>
      rv_operand hs (x := x) (by rw [ho]; simpa [Op.operands] using hx) (by simpa using Array.all_eq_true_iff_forall_mem.1 hc x hx)
    refine ⟨.func fn (xs.map (act t).eval) (ys.map (act t).eval), .func fn (by simp) (by simp) (RV.of_map fun x hx => hall x (by simp [hx])) (RV.of_map fun x hx => hall x (by simp [hx])), ?_⟩
    unfold execOp; rw [ho]
    simp [Instr.makeFunc]

/-! ### Addresses -/
theorem addr_add (b off n : Nat) : (⟨b, off, none⟩ : Addr).add n = ⟨b, off + n, none⟩ := by
  unfold Addr.add
  split <;> simp_all

theorem OpOk.fieldAddr {t : TypeId} {x : Operand} {f : Nat} {fs : Array Field} {fd : Field} {b off n : Nat} (ho : o.op = .fieldAddr t x f) (hc : okConst x = true) (hx : evalC a x = .pointer (some ⟨b, off, none⟩))
    (hu : P.underlying t = some (.struct fs)) (hf : fs[f]? = some fd) (hz : szC P fd.type = some (n + 1)) : OpOk P o a m (.pointer (some ⟨b, off + fd.offset, none⟩)) m ⟨[], []⟩ :=
  OpOk.quiet fun ι tt w hs => by
    have h := rv_operand hs (x := x) (by rw [ho]; simp [Op.operands]) hc
    rw [hx] at h
    obtain ⟨L, hL, he⟩ := h.ptr_inv
    refine ⟨.pointer (some ⟨L.blk, L.off + (off + fd.offset), none⟩), .ptr hL, ?_⟩
    unfold execOp; rw [ho]
    simp [Instr.fieldAt, run_underlying hu w, hf, he, sureAddr, fieldPlace, run_szC hz, addr_add, Nat.add_assoc]

/-- An element's address: of an array at an address. -/
theorem OpOk.indexArr {t e : TypeId} {x ix : Operand} {len n : Nat} {k : IntKind} {i : Int} {b off : Nat} (ho : o.op = .indexAddr t x ix) (hc : okConst x = true) (hc2 : okConst ix = true) (hx : evalC a x = .pointer (some ⟨b, off, none⟩))
    (hi : evalC a ix = .int k i) (hu : P.underlying t = some (.array len e)) (hz : szC P e = some n) (h0 : 0 ≤ i) (h1 : i < len) : OpOk P o a m (.pointer (some ⟨b, off + i.toNat * n, none⟩)) m ⟨[], []⟩ :=
  OpOk.quiet fun ι tt w hs => by
    have h := rv_operand hs (x := x) (by rw [ho]; simp [Op.operands]) hc
    rw [hx] at h
    obtain ⟨L, hL, he⟩ := h.ptr_inv
    have h2 := rv_operand hs (x := ix) (by rw [ho]; simp [Op.operands]) hc2
    rw [hi] at h2
    have he2 := h2.int_inv
    refine ⟨.pointer (some ⟨L.blk, L.off + (off + i.toNat * n), none⟩), .ptr hL, ?_⟩
    unfold execOp; rw [ho]
    simp [Instr.indexAt, run_underlying hu w, he, he2, sureAddr, asIntOf, run_szC hz, addr_add, Nat.add_assoc, h0, h1]

/-- Of a slice. -/
theorem OpOk.indexSl {t e : TypeId} {x ix : Operand} {len cap n : Nat} {k : IntKind} {i : Int} {b off : Nat} (ho : o.op = .indexAddr t x ix) (hc : okConst x = true) (hc2 : okConst ix = true) (hx : evalC a x = .slice (some ⟨b, off, none⟩) len cap)
    (hi : evalC a ix = .int k i) (hu : P.underlying t = some (.slice e)) (hz : szC P e = some n) (h0 : 0 ≤ i) (h1 : i < len) : OpOk P o a m (.pointer (some ⟨b, off + i.toNat * n, none⟩)) m ⟨[], []⟩ :=
  OpOk.quiet fun ι tt w hs => by
    have h := rv_operand hs (x := x) (by rw [ho]; simp [Op.operands]) hc
    rw [hx] at h
    have h2 := rv_operand hs (x := ix) (by rw [ho]; simp [Op.operands]) hc2
    rw [hi] at h2
    have he2 := h2.int_inv
    generalize hy : (act tt).eval x = y at h
    cases h with
    | slice0 => omega
    | slice hL hcc hr =>
      rename_i cap' L
      refine ⟨.pointer (some ⟨L.blk, L.off + (off + i.toNat * n), none⟩), .ptr hL, ?_⟩
      unfold execOp; rw [ho]
      simp [Instr.indexAt, run_underlying hu w, hy, he2, asIntOf, run_szC hz, addr_add, Nat.add_assoc, h0, h1]

/-! ### Loads and stores -/
theorem cell_of {w : World} {L : Loc} {c' : Array Value} {e : TypeId} {fz : Nat × Nat} (hh : w.heap[L.blk]? = some (.cells c' e fz)) {i : Nat} (hi : i < c'.size) : w.cell? ⟨L.blk, i, none⟩ = some (c'.getD i undef) := by
  simp [World.cell?, hh, hi]

theorem OpOk.load1 {t : TypeId} {x : Operand} {b off : Nat} {c : List Value} {sz : Nat} {rw_ : Bool} {v : Value} (ho : o.op = .load t x) (hc : okConst x = true) (hx : evalC a x = .pointer (some ⟨b, off, none⟩)) (hb : m[b]? = some (.cells c sz rw_))
    (ht : isAggC P t = some false) (hv : c[off]? = some v) : OpOk P o a m v m ⟨[b], []⟩ := by
  have hblt : b < m.length := (List.getElem?_eq_some_iff.1 hb).1
  refine OpOk.reads (by simpa using hblt) fun ι tt w hs hbl => ?_
  have h := rv_operand hs (x := x) (by rw [ho]; simp [Op.operands]) hc
  rw [hx] at h
  obtain ⟨L, hL, he⟩ := h.ptr_inv
  have := hbl b (by simp)
  rw [show m.getD b .gone = .cells c sz rw_ by simp [List.getD_eq_getElem?_getD, hb]] at this
  obtain ⟨L', c', e, fz, hL', hh, hfit, _, _, hcells⟩ := this
  rw [hL] at hL'; cases hL'
  have hlt : off < c.length := (List.getElem?_eq_some_iff.1 hv).1
  have hrv := hcells off hlt
  rw [show c.getD off undef = v by simp [List.getD_eq_getElem?_getD, hv]] at hrv
  refine ⟨_, hrv, ?_⟩
  unfold execOp; rw [ho]
  have hcell := cell_of (L := L) hh (i := L.off + off) (by omega)
  simp [loadAt, he, sureAddr, loadVar, run_isAgg ht w, hcell]

theorem toArr_range (n : Nat) (f : Nat → Value) (i : Nat) : ((List.range n).map f).toArray.getD i undef = if i < n then f i else undef := by
  by_cases h : i < n
  · simp [h]
  · simp [h]

theorem OpOk.loadN {t : TypeId} {x : Operand} {b off n : Nat} {c : List Value} {sz : Nat} {rw_ : Bool} (ho : o.op = .load t x) (hc : okConst x = true) (hx : evalC a x = .pointer (some ⟨b, off, none⟩)) (hb : m[b]? = some (.cells c sz rw_))
    (ht : isAggC P t = some true) (hn : szC P t = some n) (hfit : off + n ≤ c.length) : OpOk P o a m (.agg ((c.drop off).take n).toArray) m ⟨[b], []⟩ := by
  have hblt : b < m.length := (List.getElem?_eq_some_iff.1 hb).1
  refine OpOk.reads (by simpa using hblt) fun ι tt w hs hbl => ?_
  have h := rv_operand hs (x := x) (by rw [ho]; simp [Op.operands]) hc
  rw [hx] at h
  obtain ⟨L, hL, he⟩ := h.ptr_inv
  have := hbl b (by simp)
  rw [show m.getD b .gone = .cells c sz rw_ by simp [List.getD_eq_getElem?_getD, hb]] at this
  obtain ⟨L', c', e, fz, hL', hh, hfit', _, _, hcells⟩ := this
  rw [hL] at hL'; cases hL'
  refine ⟨.agg ((List.range n).map fun j => c'.getD (L.off + off + j) undef).toArray, .agg (by simp; omega) (fun i => ?_), ?_⟩
  · rw [toArr_range]
    by_cases hi : i < n
    · rw [if_pos hi]
      have h1 : ((c.drop off).take n).toArray.getD i undef = c.getD (off + i) undef := by
        simp [List.getD_eq_getElem?_getD, hi]
      rw [h1, Nat.add_assoc]
      exact hcells (off + i) (by omega)
    · rw [if_neg hi]
      have h1 : ((c.drop off).take n).toArray.getD i undef = undef := by
        simp [List.getElem?_take, hi]
      rw [h1]; exact .any _
  · unfold execOp; rw [ho]
    have hl := run_loadCells (P := P) w ⟨L.blk, L.off + off, none⟩ n (fun j => c'.getD (L.off + off + j) undef) (fun j hj => by rw [addr_add]; exact cell_of hh (by omega))
    simp [loadAt, he, sureAddr, loadVar, run_isAgg ht w, run_szC hn, hl]

/-- One cell, neither an aggregate nor unknown. -/
def one : Value → Bool
  | .agg _ | .tuple _ | .chan _ => false
  | _ => true

theorem RV.one {ι : Map} {v v' : Value} (h : RV ι v v') (ho : one v = true) : v'.oneCell' = true := by
  cases h <;> simp_all [Dt.one, undef, Value.oneCell']

theorem setRow_eq {w : World} {g : Nat} {c c2 : Array Value} {e : TypeId} {fz : Nat × Nat} (hh : w.heap[g]? = some (.cells c e fz)) : w.setRow g c2 = { w with heap := w.heap.setIfInBounds g (.cells c2 e fz) } := by
  unfold World.setRow
  congr 1
  apply Array.ext_getElem?
  intro i
  have hlt : g < w.heap.size := (Array.getElem?_eq_some_iff.1 hh).1
  rw [Array.getElem?_modify, Array.getElem?_setIfInBounds]
  by_cases hi : g = i
  · subst hi
    rw [if_pos rfl, if_pos rfl, hh, if_pos hlt]
    rfl
  · simp [hi]

theorem cells_of_one {v : Value} (h : one v = true) : v.cells = #[v] := by cases v <;> simp_all [one, Value.cells]

/-- A store of a list of cells into a row. -/
def splice (c : List Value) (off : Nat) (vs : List Value) : List Value := c.take off ++ vs ++ c.drop (off + vs.length)

theorem splice_length {c vs : List Value} {off : Nat} (h : off + vs.length ≤ c.length) : (splice c off vs).length = c.length := by
  simp [splice]; omega

theorem splice_get {c vs : List Value} {off : Nat} (h : off + vs.length ≤ c.length) (i : Nat) (d : Value) : (splice c off vs).getD i d = if off ≤ i ∧ i < off + vs.length then vs.getD (i - off) d else c.getD i d := by
  unfold splice
  simp only [List.getD_eq_getElem?_getD]
  have hl : (c.take off).length = off := by simp; omega
  by_cases h1 : i < off
  · rw [if_neg (by omega), List.append_assoc, List.getElem?_append_left (by omega), List.getElem?_take_of_lt h1]
  · by_cases h2 : i < off + vs.length
    · rw [if_pos ⟨by omega, h2⟩, List.append_assoc, List.getElem?_append_right (by omega), hl, List.getElem?_append_left (by omega)]
    · rw [if_neg (by omega), List.getElem?_append_right (by simp; omega)]
      simp only [List.length_append, hl, List.getElem?_drop]
      congr 2
      omega

theorem run_storeCells {w : World} {g off : Nat} {c : Array Value} {e : TypeId} {vs : List Value} (hh : w.heap[g]? = some (.cells c e (0, 0))) (hfit : off + vs.length ≤ c.size) (h1 : ∀ v, v ∈ vs → v.oneCell' = true) :
    (storeCells ⟨g, off, none⟩ vs).run P w = .ok () { w with heap := w.heap.setIfInBounds g (.cells (splice c.toList off vs).toArray e (0, 0)) } := by
  have := run_storeCells_at P g off e vs 0 c w hh (by simpa using hfit) h1
  rw [this, setRow_eq hh]
  simp [splice]

theorem OpOk.store {t : TypeId} {x y : Operand} {b off n : Nat} {c : List Value} {sz : Nat} {v : Value} (ho : o.op = .store t x y) (hc : okConst x = true) (hc2 : okConst y = true) (hx : evalC a x = .pointer (some ⟨b, off, none⟩))
    (hb : m[b]? = some (.cells c sz true)) (hy : evalC a y = v) (hn : szC P t = some n) (hvn : v.cells.size = n) (hone : v.cells.toList.all one = true) (hfit : off + n ≤ c.length) :
    OpOk P o a m undef (m.set b (.cells (splice c off v.cells.toList) sz true)) ⟨[b], [b]⟩ := by
  have hblt : b < m.length := (List.getElem?_eq_some_iff.1 hb).1
  refine OpOk.writes (c := c) (by simp [List.getD_eq_getElem?_getD, hb]) hblt fun ι tt w L c' e hs hL hh hroom hsz hfit' hcells => ?_
  have h := rv_operand hs (x := x) (by rw [ho]; simp [Op.operands]) hc
  rw [hx] at h
  obtain ⟨L', hL', he⟩ := h.ptr_inv
  rw [hL] at hL'; cases hL'
  have h2 := rv_operand hs (x := y) (by rw [ho]; simp [Op.operands]) hc2
  rw [hy] at h2
  -- the cells of the real value
  have hcv : ∃ v', (act tt).eval y = v' ∧ v'.cells.size = n ∧ (∀ i, i < n → RV ι (v.cells.getD i undef) (v'.cells.getD i undef)) ∧ ∀ u, u ∈ v'.cells.toList → u.oneCell' = true := by
    have ones : ∀ i, i < n → one (v.cells.getD i undef) = true := fun i hi => by
      have := List.all_eq_true.1 hone (v.cells.getD i undef) (by
        have hlt : i < v.cells.size := by omega
        simp [hlt])
      exact this
    refine ⟨_, rfl, ?_⟩
    generalize (act tt).eval y = v' at h2
    have key : v'.cells.size = n ∧ ∀ i, i < n → RV ι (v.cells.getD i undef) (v'.cells.getD i undef) := by
      cases hv1 : one v with
      | true =>
        have hv1' := h2.one hv1
        have : v'.cells = #[v'] := by cases v' <;> simp_all [Value.oneCell', Value.cells]
        rw [cells_of_one hv1] at hvn ⊢
        rw [this]
        refine ⟨by simpa using hvn, fun i hi => ?_⟩
        have : i = 0 := by simp at hvn; omega
        subst this
        simpa using h2
      | false =>
        cases v with
        | agg cs =>
          obtain ⟨cs', rfl, hsz', hh'⟩ := h2.agg_inv
          exact ⟨by simpa [Value.cells, ← hsz'] using hvn, fun i _ => hh' i⟩
        | tuple cs =>
          have := ones 0 (by rw [← hvn]; simp [Value.cells])
          simp [Value.cells, one] at this
        | chan r =>
          have := ones 0 (by rw [← hvn]; simp [Value.cells])
          simp [Value.cells, one] at this
        | _ => simp [one] at hv1
    refine ⟨key.1, key.2, fun u hu' => ?_⟩
    obtain ⟨i, hi, hiu⟩ := List.getElem_of_mem hu'
    have hi' : i < n := by rw [← key.1]; simpa using hi
    have := (key.2 i hi').one (ones i hi')
    have he2 : v'.cells.getD i undef = u := by
      have : i < v'.cells.size := by simpa using hi
      simp only [Array.getD, this, dite_true]
      simpa using hiu
    rwa [he2] at this
  obtain ⟨v', hv', hn', hrv', hones⟩ := hcv
  have hlen : v'.cells.toList.length = n := by simpa using hn'
  have hlen0 : v.cells.toList.length = n := by simpa using hvn
  refine ⟨(splice c'.toList (L.off + off) v'.cells.toList).toArray, ?_, ?_, fun i hi => ?_, .skip, undef, ?_, .any _, .inr ⟨rfl, rfl⟩⟩
  · have := splice_length (c := c'.toList) (vs := v'.cells.toList) (off := L.off + off) (by rw [hlen]; simp; omega)
    simpa using this
  · rw [splice_length (by rw [hlen0]; exact hfit)]; exact hfit'
  · rw [splice_length (by rw [hlen0]; exact hfit)] at hi
    have e1 := splice_get (c := c) (vs := v.cells.toList) (off := off) (by rw [hlen0]; exact hfit) i undef
    have e2 := splice_get (c := c'.toList) (vs := v'.cells.toList) (off := L.off + off) (by rw [hlen]; simp; omega) (L.off + i) undef
    have e3 : (splice c'.toList (L.off + off) v'.cells.toList).toArray.getD (L.off + i) undef = (splice c'.toList (L.off + off) v'.cells.toList).getD (L.off + i) undef := by
      simp [List.getD_eq_getElem?_getD]
    rw [e1, e3, e2, hlen, hlen0]
    by_cases hin : off ≤ i ∧ i < off + n
    · rw [if_pos hin, if_pos (by omega)]
      have := hrv' (i - off) (by omega)
      have e4 : L.off + i - (L.off + off) = i - off := by omega
      rw [e4]
      simpa [List.getD_eq_getElem?_getD] using this
    · rw [if_neg hin, if_neg (by omega)]
      have := hcells i hi
      simpa [List.getD_eq_getElem?_getD] using this
  · unfold execOp; rw [ho]
    have hst := run_storeCells (P := P) (w := w) (g := L.blk) (off := L.off + off) (vs := v'.cells.toList) hh (by rw [hlen]; omega) hones
    simp only [Instr.storeAt, he, sureAddr, hv', storeVar]
    simp [run_szC hn, hn', hst]

end

end

end Go.Dt
