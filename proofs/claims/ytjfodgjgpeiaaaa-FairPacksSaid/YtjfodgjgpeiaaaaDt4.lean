/- Operations over canonical memories: the common shapes (no memory; a block read; a new block; a block written). -/
import Derived.Test.YtjfodgjgpeiaaaaDt3
namespace Go.Dt

section
variable {P : Program}

theorem tch_self (rd : List Nat) (n : Nat) : tch rd n n = isIn rd := by
  funext b
  unfold tch isIn
  have : (decide (n ≤ b) && decide (b < n)) = false := by
    rw [Bool.and_eq_false_iff, decide_eq_false_iff_not, decide_eq_false_iff_not]; omega
  rw [this, Bool.or_false]

/-- An operation that yields a value, in the world that it got. -/
theorem wp_of_value {o : Oper} {t : Array Value} {w w' : World} {v' : Value} {next : Act → World → Prop} {Q : Exit → Act → World → Prop}
    (h : (execOp (act t).eval o).run P w = .ok (.value v') w') (hn : next ((act t).put o.dst v') w') : o.wp P (act t) w next Q := by
  unfold Oper.wp
  rw [h]
  exact hn

theorem wp_of_skip {o : Oper} {t : Array Value} {w w' : World} {next : Act → World → Prop} {Q : Exit → Act → World → Prop}
    (h : (execOp (act t).eval o).run P w = .ok .skip w') (hn : next ((act t).put o.dst undef) w') : o.wp P (act t) w next Q := by
  unfold Oper.wp
  rw [h]
  exact hn

def FroOk (ι : Map) (w : World) : Prop := ∀ r c, ι.fro r = some c → ∃ t fz, w.heap[r]? = some (.cells c t fz)

theorem OpOk.readsF {o : Oper} {a : List Value} {m : List Blk} {v : Value} {rd : List Nat} (hlt : ∀ b, b ∈ rd → b < m.length)
    (h : ∀ (ι : Map) (t : Array Value) (w : World), (∀ x, x ∈ slotsOf o → RV ι (a.getD x undef) (t.getD x undef)) → (∀ b, b ∈ rd → BlkOk ι w b (m.getD b .gone)) → FroOk ι w →
      ∃ v', RV ι v v' ∧ (execOp (act t).eval o).run P w = .ok (.value v') w) : OpOk P o a m v m ⟨rd, []⟩ where
  len := Nat.le_refl _
  sub := by simp
  rdlt := hlt
  same := fun _ _ _ => rfl
  run := fun ι t w hs _ hsim next Q hn => by
    obtain ⟨v', hv, hr⟩ := h ι t w hs (fun b hb => by
      have := hsim.blk b
      simpa [Cont.only, isIn, hb, at_] using this) hsim.fro
    rw [tch_self] at hn
    exact wp_of_value hr (hn v' w ι hv (Ext.refl _ _ _) hsim (fun _ h1 h2 => absurd h1 h2))

/-- Reads the blocks of 'rd' at most. -/
theorem OpOk.reads {o : Oper} {a : List Value} {m : List Blk} {v : Value} {rd : List Nat} (hlt : ∀ b, b ∈ rd → b < m.length)
    (h : ∀ (ι : Map) (t : Array Value) (w : World), (∀ x, x ∈ slotsOf o → RV ι (a.getD x undef) (t.getD x undef)) → (∀ b, b ∈ rd → BlkOk ι w b (m.getD b .gone)) →
      ∃ v', RV ι v v' ∧ (execOp (act t).eval o).run P w = .ok (.value v') w) : OpOk P o a m v m ⟨rd, []⟩ where
  len := Nat.le_refl _
  sub := by simp
  rdlt := hlt
  same := fun _ _ _ => rfl
  run := fun ι t w hs _ hsim next Q hn => by
    obtain ⟨v', hv, hr⟩ := h ι t w hs (fun b hb => by
      have := hsim.blk b
      simpa [Cont.only, isIn, hb, at_] using this)
    rw [tch_self] at hn
    exact wp_of_value hr (hn v' w ι hv (Ext.refl _ _ _) hsim (fun _ h1 h2 => absurd h1 h2))

/-- Looks at no memory. -/
theorem OpOk.quiet {o : Oper} {a : List Value} {m : List Blk} {v : Value}
    (h : ∀ (ι : Map) (t : Array Value) (w : World), (∀ x, x ∈ slotsOf o → RV ι (a.getD x undef) (t.getD x undef)) → ∃ v', RV ι v v' ∧ (execOp (act t).eval o).run P w = .ok (.value v') w) :
    OpOk P o a m v m ⟨[], []⟩ :=
  OpOk.reads (by simp) fun ι t w hs _ => h ι t w hs

/-- The cells of a canonical row and those of a real one. -/
def RowOk (ι : Map) (c : List Value) (c' : List Value) : Prop := c.length = c'.length ∧ ∀ i, i < c.length → RV ι (c.getD i undef) (c'.getD i undef)

def upd (ι : Map) (b : Nat) (L : Loc) : Map := ⟨fun x => if x = b then some L else ι x, ι.fro⟩
theorem upd_le {ι : Map} {b : Nat} {L : Loc} (h : ι b = none) : Le ι (upd ι b L) := ⟨fun x K hx => by
  unfold upd
  simp only
  split
  · rename_i e; rw [e, h] at hx; cases hx
  · exact hx, fun _ _ h => h⟩
theorem upd_self (ι : Map) (b : Nat) (L : Loc) : upd ι b L b = some L := by simp [upd]
theorem upd_ne {ι : Map} {b x : Nat} {L : Loc} (h : x ≠ b) : upd ι b L x = ι x := by simp [upd, h]

theorem getD_append_new (m : List Blk) (x : Blk) : (m ++ [x]).getD m.length .gone = x := by simp [List.getD_eq_getElem?_getD]
theorem getD_append_old (m : List Blk) (x : Blk) {b : Nat} (h : b < m.length) : (m ++ [x]).getD b .gone = m.getD b .gone := by
  simp [List.getD_eq_getElem?_getD, List.getElem?_append_left h]

/-- A new row of cells behind a memory: what the step does to it. -/
theorem new_row {ι : Map} {m : List Blk} {w : World} {c : List Value} {cr : Array Value} {e : TypeId} {sz : Nat} (hsim : Sim ι ((at_ m).only (isIn [])) w) (hι : ι m.length = none) (hs : c.length ≤ cr.size)
    (hc : ∀ i, i < c.length → RV ι (c.getD i undef) (cr.getD i undef)) :
    let ι' := upd ι m.length ⟨w.heap.size, 0, cr.size, sz, false⟩
    let C' : Cont := (at_ (m ++ [.cells c sz true])).only (tch [] m.length (m ++ [Blk.cells c sz true]).length)
    let w' : World := { w with heap := w.heap.push (.cells cr e) }
    Ext ι ((at_ m).only (isIn [])) w ι' C' w' ∧ Sim ι' C' w' ∧ (∀ b, ι b = none → ι' b ≠ none → m.length ≤ b ∧ b < (m ++ [Blk.cells c sz true]).length) := by
  intro ι' C' w'
  have hC : ∀ b, C' b = if b = m.length then .cells c sz true else .gone := fun b => by
    simp only [C', Cont.only, tch, at_, List.contains_nil, Bool.false_or, List.length_append, List.length_cons, List.length_nil, Bool.and_eq_true, decide_eq_true_eq]
    by_cases hb : b = m.length
    · subst hb
      simp [List.getD_eq_getElem?_getD]
    · rw [if_neg hb, if_neg (by omega)]
  have hw : w'.heap[w.heap.size]? = some (.cells cr e) := by simp [w']
  refine ⟨⟨upd_le hι, by simp [w'], rfl, rfl, rfl, fun k hk _ => ?_, fun k => ?_, fun k => ?_, fun _ _ h => .inl h⟩, ⟨fun b => ?_, fun b b2 L L2 hne ho hl => ?_, fun r c hr => ?_, fun b L r c ho hL hr => ?_⟩, fun b h1 h2 => ?_⟩
  · simp only [w', Array.getElem?_push]
    rw [if_neg (by omega)]
  · rintro ⟨b, L, ho, hL, hk⟩
    rw [hC] at ho
    split at ho
    · rename_i hb
      subst hb
      rw [show ι' m.length = _ from upd_self _ _ _] at hL; cases hL
      exact .inr (by rw [← hk]; exact Nat.le_refl _)
    · cases ho
  · rintro ⟨b, L, ho, hL, hk⟩
    rw [hC] at ho
    split at ho
    · rename_i hb
      subst hb
      rw [show ι' m.length = _ from upd_self _ _ _] at hL; cases hL
      exact .inr (by rw [← hk]; exact Nat.le_refl _)
    · cases ho
  · rw [hC]
    split
    · rename_i hb
      subst hb
      exact ⟨_, cr, e, (0, 0), upd_self _ _ _, hw, by simpa using hs, fun _ => ⟨rfl, by simp, rfl, rfl⟩, by simp, fun i hi => by simpa using (hc i hi).mono (upd_le hι)⟩
    · trivial
  · rw [hC] at ho hl
    split at ho
    · split at hl
      · rename_i h1 h2; exact absurd (h1.trans h2.symm) hne
      · cases hl
    · cases ho
  · obtain ⟨t, fz, h⟩ := hsim.fro r c hr
    have hlt := (Array.getElem?_eq_some_iff.1 h).1
    refine ⟨t, fz, ?_⟩
    show (w.heap.push _)[r]? = _
    rw [Array.getElem?_push, if_neg (by omega)]; exact h
  · rw [hC] at ho
    split at ho
    · rename_i hb
      subst hb
      rw [show ι' m.length = _ from upd_self _ _ _] at hL; cases hL
      obtain ⟨t, fz, h⟩ := hsim.fro r c hr
      have hlt := (Array.getElem?_eq_some_iff.1 h).1
      simp only
      omega
    · cases ho
  · by_cases hb : b = m.length
    · subst hb; simp
    · rw [show ι' b = ι b from upd_ne hb] at h2; exact absurd h1 h2

/-- Makes a new row of cells, and yields something that may hang on where it lies. -/
theorem OpOk.makes {o : Oper} {a : List Value} {m : List Blk} {v : Value} {c : List Value} {sz : Nat}
    (h : ∀ (ι : Map) (t : Array Value) (w : World), (∀ x, x ∈ slotsOf o → RV ι (a.getD x undef) (t.getD x undef)) →
      ∃ v' cr e, c.length ≤ cr.size ∧ (∀ i, i < c.length → RV ι (c.getD i undef) (cr.getD i undef)) ∧
        (∀ ι', Le ι ι' → ι' m.length = some ⟨w.heap.size, 0, cr.size, sz, false⟩ → RV ι' v v') ∧
        (execOp (act t).eval o).run P w = .ok (.value v') { w with heap := w.heap.push (.cells cr e) }) :
    OpOk P o a m v (m ++ [.cells c sz true]) ⟨[], []⟩ where
  len := by simp
  sub := by simp
  rdlt := by simp
  same := fun b hb _ => getD_append_old _ _ hb
  run := fun ι t w hs hdom hsim next Q hn => by
    obtain ⟨v', cr, e, h1, h2, h3, hr⟩ := h ι t w hs
    have hι : ι m.length = none := hdom m.length (Nat.le_refl _) (by simp)
    obtain ⟨k1, k2, k3⟩ := new_row (w := w) (e := e) (sz := sz) hsim hι h1 h2
    exact wp_of_value hr (hn v' _ _ (h3 _ (upd_le hι) (upd_self _ _ _)) k1 k2 k3)

/-- Writes a block that it owns: the same real block, other cells. -/
theorem put_cells {ι : Map} {m : List Blk} {w : World} {b : Nat} {c c2 : List Value} {sz : Nat} {L : Loc} {c' c2' : Array Value} {e : TypeId}
    (hsim : Sim ι ((at_ m).only (isIn [b])) w) (hb : m.getD b .gone = .cells c sz true) (hblt : b < m.length) (hL : ι b = some L) (hh : w.heap[L.blk]? = some (.cells c' e (0, 0))) (hroom : c'.size = L.off + L.room) (hsz : L.sz = sz) (hro : L.ro = false)
    (hsize : c2'.size = c'.size) (hfit : L.off + c2.length ≤ c2'.size) (hc : ∀ i, i < c2.length → RV ι (c2.getD i undef) (c2'.getD (L.off + i) undef)) :
    let C : Cont := (at_ m).only (isIn [b])
    let C' : Cont := (at_ (m.set b (.cells c2 sz true))).only (tch [b] m.length (m.set b (.cells c2 sz true)).length)
    let w' : World := { w with heap := w.heap.setIfInBounds L.blk (.cells c2' e (0, 0)) }
    Ext ι C w ι C' w' ∧ Sim ι C' w' := by
  intro C C' w'
  have hC : ∀ x, C x = if x = b then .cells c sz true else .gone := fun x => by
    simp only [C, Cont.only, isIn, at_]
    by_cases hx : x = b
    · subst hx; simp only [List.contains_cons, beq_self_eq_true, List.contains_nil, Bool.or_false, if_true]; exact hb
    · simp [hx]
  have hC' : ∀ x, C' x = if x = b then .cells c2 sz true else .gone := fun x => by
    simp only [C', List.length_set, tch_self, Cont.only, isIn, at_]
    by_cases hx : x = b
    · subst hx; simp [List.getD_eq_getElem?_getD, hblt]
    · simp [hx]
  have hlt : L.blk < w.heap.size := (Array.getElem?_eq_some_iff.1 hh).1
  refine ⟨⟨Le.refl _, by simp [w'], rfl, rfl, rfl, fun k hk hn => ?_, fun k => ?_, fun k => ?_, fun _ _ h => .inl h⟩, ⟨fun x => ?_, fun x x2 K K2 hne ho hl => ?_, fun r c hr => ?_, fun x K r c ho hK hr => ?_⟩⟩
  · have hne : L.blk ≠ k := fun e => hn ⟨b, L, by rw [hC]; simp [Blk.own], hL, e⟩
    simp only [w']
    exact Array.getElem?_setIfInBounds_ne hne
  · rintro ⟨x, K, ho, hK, hk⟩
    rw [hC'] at ho
    split at ho
    · rename_i hx; exact .inl ⟨x, K, by rw [hC, if_pos hx]; rfl, hK, hk⟩
    · cases ho
  · rintro ⟨x, K, ho, hK, hk⟩
    rw [hC'] at ho
    split at ho
    · rename_i hx; exact .inl ⟨x, K, by rw [hC, if_pos hx]; rfl, hK, hk⟩
    · cases ho
  · rw [hC']
    split
    · rename_i hx
      subst hx
      exact ⟨L, c2', e, (0, 0), hL, by simp [w', hlt], hfit, fun _ => ⟨rfl, by rw [hsize]; exact hroom, hsz, hro⟩, by simp, hc⟩
    · trivial
  · rw [hC'] at ho hl
    split at ho
    · split at hl
      · rename_i h1 h2; exact absurd (h1.trans h2.symm) hne
      · cases hl
    · cases ho
  · obtain ⟨t, fz, h⟩ := hsim.fro r c hr
    have hne : L.blk ≠ r := hsim.apart b L r c (by rw [show ((at_ m).only (isIn [b])) b = _ from (hC b)]; simp [Blk.own]) hL hr
    exact ⟨t, fz, by simp only [w']; rw [Array.getElem?_setIfInBounds_ne hne]; exact h⟩
  · rw [hC'] at ho
    split at ho
    · rename_i hx; subst hx
      exact hsim.apart x K r c (by rw [show ((at_ m).only (isIn [x])) x = _ from (hC x)]; simp [Blk.own]) hK hr
    · cases ho

theorem OpOk.writes {o : Oper} {a : List Value} {m : List Blk} {b : Nat} {c c2 : List Value} {sz : Nat} {v : Value} (hb : m.getD b .gone = .cells c sz true) (hblt : b < m.length)
    (h : ∀ (ι : Map) (t : Array Value) (w : World) (L : Loc) (c' : Array Value) (e : TypeId), (∀ x, x ∈ slotsOf o → RV ι (a.getD x undef) (t.getD x undef)) → ι b = some L →
      w.heap[L.blk]? = some (.cells c' e (0, 0)) → c'.size = L.off + L.room → L.sz = sz → L.off + c.length ≤ c'.size → (∀ i, i < c.length → RV ι (c.getD i undef) (c'.getD (L.off + i) undef)) →
      ∃ c2' : Array Value, c2'.size = c'.size ∧ L.off + c2.length ≤ c'.size ∧ (∀ i, i < c2.length → RV ι (c2.getD i undef) (c2'.getD (L.off + i) undef)) ∧
        ∃ r v', (execOp (act t).eval o).run P w = .ok r { w with heap := w.heap.setIfInBounds L.blk (.cells c2' e (0, 0)) } ∧ RV ι v v' ∧ (r = .value v' ∨ (r = .skip ∧ v' = undef))) :
    OpOk P o a m v (m.set b (.cells c2 sz true)) ⟨[b], [b]⟩ where
  len := by simp
  sub := by simp
  rdlt := by simpa using hblt
  same := fun x _ hn => by
    have hne : b ≠ x := fun e => hn (by simp [e])
    simp [List.getD_eq_getElem?_getD, List.getElem?_set_ne hne]
  run := fun ι t w hs _ hsim next Q hn => by
    have hB := hsim.blk b
    have hCb : (at_ m).only (isIn [b]) b = .cells c sz true := by simp only [Cont.only, isIn, at_, List.contains_cons, beq_self_eq_true, Bool.true_or, if_true]; exact hb
    rw [hCb] at hB
    obtain ⟨L, c', e, fz, hL, hh, hfit, hrw, _, hcells⟩ := hB
    obtain ⟨rfl, hroom, hsz, hro⟩ := hrw rfl
    obtain ⟨c2', h1, h2, h3, r, v', hr, hv, hrv⟩ := h ι t w L c' e hs hL hh hroom hsz hfit hcells
    obtain ⟨k1, k2⟩ := put_cells hsim hb hblt hL hh hroom hsz hro h1 (by omega) h3
    rcases hrv with rfl | ⟨rfl, rfl⟩
    · exact wp_of_value hr (hn v' _ _ hv k1 k2 (fun _ h1 h2 => absurd h1 h2))
    · exact wp_of_skip hr (hn undef _ _ hv k1 k2 (fun _ h1 h2 => absurd h1 h2))

end
end Go.Dt
