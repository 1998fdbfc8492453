/- Arguments of flat types (numbers, bools, structs and arrays of these): opened into their cells; all arguments, read again behind a call. -/
import Derived.Test.YtefiememffgohaaQP8
import Derived.Deep.Slices
namespace Go.Dt
set_option linter.unusedVariables false
open Go.RowKit Go.WideShapes Go.ChangeShapes Go.ChangeAt

/-- A cell's kind. -/
inductive Sc where
  | int (k : IntKind)
  | bool

def ScOk : Sc → Value → Prop
  | .int k, v => ∃ n, v = .int k n ∧ (Lit.int k n).wf = true
  | .bool, v => ∃ b, v = .bool b

def FlatOk : List Sc → List Value → Prop
  | [], [] => True
  | s :: ss, v :: vs => ScOk s v ∧ FlatOk ss vs
  | _, _ => False

theorem FlatOk.length : ∀ {ss : List Sc} {vs : List Value}, FlatOk ss vs → ss.length = vs.length
  | [], [], _ => rfl
  | s :: ss, v :: vs, h => by simp [FlatOk.length h.2]
  | [], _ :: _, h => h.elim
  | _ :: _, [], h => h.elim
theorem flat_int {k : IntKind} {ss : List Sc} {vs : List Value} (h : FlatOk (.int k :: ss) vs) : ∃ n vs', vs = .int k n :: vs' ∧ (Lit.int k n).wf = true ∧ FlatOk ss vs' := by
  cases vs with
  | nil => exact h.elim
  | cons v vs =>
    obtain ⟨⟨n, rfl, hw⟩, h⟩ := h
    exact ⟨n, vs, rfl, hw, h⟩
theorem flat_bool {ss : List Sc} {vs : List Value} (h : FlatOk (.bool :: ss) vs) : ∃ b vs', vs = .bool b :: vs' ∧ FlatOk ss vs' := by
  cases vs with
  | nil => exact h.elim
  | cons v vs =>
    obtain ⟨⟨n, rfl⟩, h⟩ := h
    exact ⟨n, vs, rfl, h⟩
theorem flat_nil {vs : List Value} (h : FlatOk [] vs) : vs = [] := by
  cases vs with
  | nil => rfl
  | cons v vs => exact h.elim
theorem FlatOk.append : ∀ {ss ss2 : List Sc} {vs vs2 : List Value}, FlatOk ss vs → FlatOk ss2 vs2 → FlatOk (ss ++ ss2) (vs ++ vs2)
  | [], _, [], _, _, h2 => h2
  | s :: ss, _, v :: vs, _, h, h2 => ⟨h.1, FlatOk.append h.2 h2⟩
  | [], _, _ :: _, _, h, _ => h.elim
  | _ :: _, _, [], _, h, _ => h.elim

def flatFs (P : Program) (g : TypeId → Option (List Sc)) : Nat → List Field → Option (List Sc)
  | _, [] => some []
  | off, f :: fs => match g f.type with
    | some l => bif Nat.beq f.offset off && Nat.beq (P.cellsOf f.type) l.length then (match flatFs P g (off + l.length) fs with
      | some r => some (l ++ r)
      | none => none) else none
    | none => none

/-- The kinds of a flat type's cells. -/
def flat (P : Program) : Nat → TypeId → Option (List Sc)
  | 0, _ => none
  | n + 1, t => match P.underlying t with
    | some .bool => some [.bool]
    | some (.int k) => some [.int k]
    | some (.struct fs) => (match flatFs P (flat P n) 0 fs.toList with
      | some l => bif Nat.beq (P.cellsOf t) l.length then some l else none
      | none => none)
    | some (.array m e) => (match flat P n e with
      | some l => bif Nat.beq (P.cellsOf e) l.length && Nat.beq (P.cellsOf t) (m * l.length) then some (List.replicate m l).flatten else none
      | none => none)
    | _ => none

section
variable {H : Type} {enc : TypeId × Value → H} {P : Program} {w : World} {base : Nat} {spare : Nat → Bool} {held : Bool}

theorem flatFs_ok {g : TypeId → Option (List Sc)} {cs : List Value} (hg : ∀ t l (c : List Value), g t = some l → c.length ≤ P.cellsOf t → (∃ n x, DataW.trod enc P w base spare held n t c = some x) → FlatOk l c) :
    ∀ (fs : List Field) (off : Nat) (ss : List Sc), flatFs P g off fs = some ss → off + ss.length = cs.length → (∀ f, f ∈ fs → ∃ n x, DataW.trod enc P w base spare held n f.type ((cs.drop f.offset).take (P.cellsOf f.type)) = some x) → FlatOk ss (cs.drop off)
  | [], off, ss, h, hl, _ => by
    cases h
    simp at hl
    rw [hl, List.drop_length]
    trivial
  | f :: fs, off, ss, h, hl, hx => by
    simp only [flatFs] at h
    split at h
    · rename_i l hgl
      cases hc : (Nat.beq f.offset off && Nat.beq (P.cellsOf f.type) l.length) with
      | false => simp [hc] at h
      | true =>
        simp only [hc, cond_true] at h
        split at h
        · rename_i r hr
          cases h
          rw [Bool.and_eq_true] at hc
          have e1 := Nat.eq_of_beq_eq_true hc.1
          have e2 := Nat.eq_of_beq_eq_true hc.2
          have h1 := hg f.type l _ hgl (by rw [List.length_take]; exact Nat.min_le_left _ _) (hx f (by simp))
          rw [e1, e2] at h1
          have h2 := flatFs_ok hg fs (off + l.length) r hr (by simp at hl; omega) (fun f' hf' => hx f' (by simp [hf']))
          have e : cs.drop off = (cs.drop off).take l.length ++ cs.drop (off + l.length) := by
            rw [← List.drop_drop, List.take_append_drop]
          rw [e]
          exact h1.append h2
        · cases h
    · cases h

theorem flatArr_ok {l : List Sc} {k : Nat} (hk : k = l.length) : ∀ (m : Nat) (cs : List Value), cs.length = m * k → (∀ i, i < m → FlatOk l ((cs.drop (i * k)).take k)) → FlatOk (List.replicate m l).flatten cs
  | 0, cs, hl, _ => by
    simp at hl
    subst hl
    trivial
  | m + 1, cs, hl, h => by
    have h0 := h 0 (by omega)
    simp at h0
    have hr := flatArr_ok hk m (cs.drop k) (by rw [List.length_drop, hl, Nat.add_mul]; omega) (fun i hi => by
      have := h (i + 1) (by omega)
      rw [List.drop_drop, show k + i * k = (i + 1) * k by rw [Nat.add_mul]; omega]
      exact this)
    rw [List.replicate_succ, List.flatten_cons, ← List.take_append_drop k cs]
    exact h0.append hr

theorem flat_trod : ∀ (n : Nat) (t : TypeId) (ss : List Sc) (cs : List Value), flat P n t = some ss → (∃ m x, DataW.trod enc P w base spare held m t cs = some x) → FlatOk ss cs
  | 0, _, _, _, h, _ => by cases h
  | n + 1, t, ss, cs, h, ⟨m, x, hx⟩ => by
    simp only [flat] at h
    split at h
    · rename_i ht
      cases h
      obtain ⟨b, rfl, _⟩ := DataW.trod_bool ht hx
      exact ⟨⟨b, rfl⟩, trivial⟩
    · rename_i k ht
      cases h
      obtain ⟨b, rfl, _, hw⟩ := DataW.trod_int ht hx
      exact ⟨⟨b, rfl, hw⟩, trivial⟩
    · rename_i fs ht
      split at h
      · rename_i l hl
        cases hc : Nat.beq (P.cellsOf t) l.length with
        | false => simp [hc] at h
        | true =>
          simp only [hc, cond_true, Option.some.injEq] at h
          subst h
          obtain ⟨xs, m', _, _, hlen, hxs, hall⟩ := DataW.trod_struct ht hx
          have e := Nat.eq_of_beq_eq_true hc
          have := flatFs_ok (cs := cs) (enc := enc) (w := w) (base := base) (spare := spare) (held := held) (fun t' l' c hl' _ hx' => flat_trod n t' l' c hl' hx') fs.toList 0 l hl (by omega) (fun f hf => by
            obtain ⟨i, hi⟩ := List.getElem?_of_mem hf
            have hi' : fs[i]? = some f := by simpa using hi
            have hlt : i < fs.size := (Array.getElem?_eq_some_iff.1 hi').1
            have := hall i f hi'
            rw [List.getElem?_eq_getElem (by omega)] at this
            exact ⟨_, _, this⟩)
          simpa using this
      · cases h
    · rename_i k e ht
      split at h
      · rename_i l hl
        cases hc : (Nat.beq (P.cellsOf e) l.length && Nat.beq (P.cellsOf t) (k * l.length)) with
        | false => simp [hc] at h
        | true =>
          simp only [hc, cond_true, Option.some.injEq] at h
          subst h
          rw [Bool.and_eq_true] at hc
          obtain ⟨xs, m', _, _, hlen, hxs, hall⟩ := DataW.trod_array ht hx
          have e1 := Nat.eq_of_beq_eq_true hc.1
          have e2 := Nat.eq_of_beq_eq_true hc.2
          refine flatArr_ok e1 k cs (by rw [hlen, e2, e1]) (fun i hi => ?_)
          have := hall i hi
          rw [List.getElem?_eq_getElem (by omega)] at this
          exact flat_trod n e l _ hl ⟨_, _, this⟩
      · cases h
    · cases h

/-- An argument of a struct's or array's type, opened. -/
theorem flat_open {r : Reach} {b0 : Nat} {t : TypeId} {v : Value} {d : DataW H} {ps : List MemPlace} {n : Nat} {ss : List Sc} (hf : flat P n t = some ss) (hs : (match P.underlying t with | some (.struct _) | some (.array _ _) => true | _ => false) = true)
    (hval : Value.okWide P w r b0 t v) (hd : DataW.Trod enc P w base spare held t v d ps) : ∃ cs : List Value, v = .agg cs.toArray ∧ FlatOk ss cs := by
  obtain ⟨m, hm⟩ := hd
  unfold Value.okWide at hval
  split at hval
  · obtain ⟨cs, rfl, _⟩ := hval
    exact ⟨cs.toList, by simp, flat_trod n t ss _ hf ⟨m, _, hm⟩⟩
  · obtain ⟨cs, rfl, _⟩ := hval
    exact ⟨cs.toList, by simp, flat_trod n t ss _ hf ⟨m, _, hm⟩⟩
  · rename_i h1 h2
    exfalso
    split at hs
    · rename_i fs e; exact h1 _ e
    · rename_i k e he; exact h2 _ _ he
    · cases hs

/-- All arguments, read again where nothing that was there has turned. -/
theorem trodAll_stays (hl : laidOutB P = true) {W W' : World} (hb : Below W.heap.size W W') {z : Nat → Bool} : ∀ {ts : List TypeId} {vs : List Value} {ds : List (DataW H)} {ps : List MemPlace},
    ts.all (fun t => P.readableRec t && Nat.blt t P.types.size) = true → DataW.TrodAll enc P W 0 (fun _ => true) true ts vs ds ps → (∀ p ∈ ps, p.block < W.heap.size) → (∀ p ∈ ps, z p.block = true) → DataW.TrodAll enc P W' 0 z true ts vs ds ps
  | [], _, _, _, _, h, _, _ => by
    obtain ⟨rfl, rfl, rfl⟩ := trodAll_nil h
    exact trodAll_mk0
  | t :: ts, vs, ds, ps, ht, h, hlt, hz => by
    obtain ⟨v, vs', d, ds', p, q, rfl, rfl, rfl, h1, h2⟩ := trodAll_cons h
    simp only [List.all_cons, Bool.and_eq_true] at ht
    refine trodAll_cons_mk (WideElems.Trod_stays hl ht.1.1 (Nat.le_of_ble_eq_true ht.1.2) h1 (fun x hx => hb.same (hlt x (by simp [hx]))) (fun x hx => hz x (by simp [hx]))) ?_
    exact trodAll_stays hl hb ht.2 h2 (fun x hx => hlt x (by simp [hx])) (fun x hx => hz x (by simp [hx]))

end
end Go.Dt
