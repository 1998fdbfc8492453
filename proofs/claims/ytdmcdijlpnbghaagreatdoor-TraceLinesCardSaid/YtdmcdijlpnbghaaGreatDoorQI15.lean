/- Several texts in one: Dt36, Dt37, Dt38. -/
import Derived.Test.YtdmcdijlpnbghaaGreatDoorQI14
import Derived.Test.YtdmcdijlpnbghaaGreatDoorQI11
import Derived.Test.YtdmcdijlpnbghaaGreatDoorQI12
namespace Go.Dt

section
open Go.RowKit Go.WideShapes Go.ChangeShapes Go.ChangeAt
set_option linter.unusedVariables false
set_option linter.unusedSimpArgs false

/-- A cell's kind. -/
inductive Ce where
  | int (k : IntKind)
  | bool
  | str
  | sl (l : List Ce)

mutual
def CeOk : Ce → Value → Prop
  | .int k, v => ∃ n, v = .int k n ∧ (Lit.int k n).wf = true
  | .bool, v => ∃ b, v = .bool b
  | .str, v => ∃ s : ByteArray, v = .string s ∧ s.size ≤ maxLen
  | .sl l, v => ∃ rs : List (List Value), v = frz rs.length rs.flatten ∧ rs.length ≤ maxLen ∧ ∀ r, r ∈ rs → CesOk l r
def CesOk : List Ce → List Value → Prop
  | [], [] => True
  | s :: ss, v :: vs => CeOk s v ∧ CesOk ss vs
  | _, _ => False
end

theorem CesOk.length : ∀ {ss : List Ce} {vs : List Value}, CesOk ss vs → vs.length = ss.length
  | [], [], _ => rfl
  | s :: ss, v :: vs, h => by
    unfold CesOk at h
    simp [CesOk.length h.2]
  | [], _ :: _, h => by unfold CesOk at h; exact h.elim
  | _ :: _, [], h => by unfold CesOk at h; exact h.elim
theorem CesOk.append : ∀ {ss ss2 : List Ce} {vs vs2 : List Value}, CesOk ss vs → CesOk ss2 vs2 → CesOk (ss ++ ss2) (vs ++ vs2)
  | [], _, [], _, _, h2 => h2
  | s :: ss, _, v :: vs, _, h, h2 => by
    unfold CesOk at h
    rw [List.cons_append, List.cons_append]
    unfold CesOk
    exact ⟨h.1, CesOk.append h.2 h2⟩
  | [], _, _ :: _, _, h, _ => by unfold CesOk at h; exact h.elim
  | _ :: _, _, [], _, h, _ => by unfold CesOk at h; exact h.elim
theorem CesOk.split : ∀ {ss ss2 : List Ce} {vs : List Value}, CesOk (ss ++ ss2) vs → ∃ a b, vs = a ++ b ∧ CesOk ss a ∧ CesOk ss2 b
  | [], _, vs, h => ⟨[], vs, rfl, by unfold CesOk; trivial, h⟩
  | s :: ss, ss2, [], h => by rw [List.cons_append] at h; unfold CesOk at h; exact h.elim
  | s :: ss, ss2, v :: vs, h => by
    rw [List.cons_append] at h
    unfold CesOk at h
    obtain ⟨a, b, rfl, h1, h2⟩ := CesOk.split h.2
    exact ⟨v :: a, b, rfl, by unfold CesOk; exact ⟨h.1, h1⟩, h2⟩
theorem ces_nil {vs : List Value} (h : CesOk [] vs) : vs = [] := by
  cases vs with
  | nil => rfl
  | cons v vs => unfold CesOk at h; exact h.elim
theorem ces_cons {s : Ce} {ss : List Ce} {vs : List Value} (h : CesOk (s :: ss) vs) : ∃ v vs', vs = v :: vs' ∧ CeOk s v ∧ CesOk ss vs' := by
  cases vs with
  | nil => unfold CesOk at h; exact h.elim
  | cons v vs => unfold CesOk at h; exact ⟨v, vs, rfl, h.1, h.2⟩

/-! ### Out of a heap -/
section
variable {H : Type} {enc : TypeId × Value → H} {P : Program} {w : World} {base : Nat} {spare : Nat → Bool} {held : Bool}

abbrev fm (w : World) : Map := ⟨fun _ => none, froH w⟩

/-- Cells that are of these kinds, and of which a canonical form is known. -/
def Opens (w : World) (ss : List Ce) (cs : List Value) : Prop :=
  ∃ can : List Value, CesOk ss can ∧ pures can = true ∧ can.length = cs.length ∧ ∀ i, i < can.length → RV (fm w) (can.getD i undef) (cs.getD i undef)

theorem Opens.nil : Opens w [] [] := ⟨[], by unfold CesOk; trivial, rfl, rfl, fun i h => by cases h⟩
theorem Opens.append {ss ss2 : List Ce} {cs cs2 : List Value} : Opens w ss cs → Opens w ss2 cs2 → Opens w (ss ++ ss2) (cs ++ cs2)
  | ⟨a, h1, h2, h3, h4⟩, ⟨b, k1, k2, k3, k4⟩ => ⟨a ++ b, h1.append k1, pures_append h2 k2, by simp [h3, k3], fun i hi => by
    simp only [List.getD_eq_getElem?_getD] at *
    rcases Nat.lt_or_ge i a.length with h | h
    · rw [List.getElem?_append_left h, List.getElem?_append_left (by omega)]
      exact h4 i h
    · rw [List.getElem?_append_right h, List.getElem?_append_right (by omega), ← h3]
      exact k4 (i - a.length) (by rw [List.length_append] at hi; omega)⟩
theorem Opens.one {s : Ce} {v u : Value} (h : CeOk s u) (hp : pureV u = true) (hr : RV (fm w) u v) : Opens w [s] [v] :=
  ⟨[u], by unfold CesOk; exact ⟨h, by unfold CesOk; trivial⟩, by simp [pures, hp], rfl, fun i hi => by
    have : i = 0 := by simpa using hi
    subst this
    exact hr⟩

def cesFs (P : Program) (g : TypeId → Option (List Ce)) : Nat → List Field → Option (List Ce)
  | _, [] => some []
  | off, f :: fs => match g f.type with
    | some l => bif Nat.beq f.offset off && Nat.beq (P.cellsOf f.type) l.length then (match cesFs P g (off + l.length) fs with
      | some r => some (l ++ r)
      | none => none) else none
    | none => none

/-- The kinds of a type's cells. -/
def ces (P : Program) : Nat → TypeId → Option (List Ce)
  | 0, _ => none
  | n + 1, t => match P.underlying t with
    | some .bool => some [.bool]
    | some (.int k) => some [.int k]
    | some .string => some [.str]
    | some (.slice e) => (match ces P n e with
      | some l => bif Nat.beq (P.cellsOf e) l.length && Nat.blt 0 l.length then some [.sl l] else none
      | none => none)
    | some (.struct fs) => (match cesFs P (ces P n) 0 fs.toList with
      | some l => bif Nat.beq (P.cellsOf t) l.length then some l else none
      | none => none)
    | some (.array m e) => (match ces P n e with
      | some l => bif Nat.beq (P.cellsOf e) l.length && Nat.beq (P.cellsOf t) (m * l.length) then some (List.replicate m l).flatten else none
      | none => none)
    | _ => none

theorem cesFs_ok {g : TypeId → Option (List Ce)} {cs : List Value} (hg : ∀ t l (c : List Value), g t = some l → (∃ n x, DataW.trod enc P w base spare held n t c = some x) → Opens w l c) :
    ∀ (fs : List Field) (off : Nat) (ss : List Ce), cesFs P g off fs = some ss → off + ss.length = cs.length → (∀ f, f ∈ fs → ∃ n x, DataW.trod enc P w base spare held n f.type ((cs.drop f.offset).take (P.cellsOf f.type)) = some x) → Opens w ss (cs.drop off)
  | [], off, ss, h, hl, _ => by
    cases h
    simp at hl
    rw [hl, List.drop_length]
    exact .nil
  | f :: fs, off, ss, h, hl, hx => by
    simp only [cesFs] at h
    split at h
    · rename_i l hgl
      cases hc : (Nat.beq f.offset off && Nat.beq (P.cellsOf f.type) l.length) with
      | false => simp [hc] at h
      | true =>
        simp only [hc, cond_true] at h
        split at h
        · rename_i r hr
          cases h
          rw [Bool.and_eq_true] at hc
          have e1 := Nat.eq_of_beq_eq_true hc.1
          have e2 := Nat.eq_of_beq_eq_true hc.2
          have h1 := hg f.type l _ hgl (hx f (by simp))
          rw [e1, e2] at h1
          have h2 := cesFs_ok hg fs (off + l.length) r hr (by simp at hl; omega) (fun f' hf' => hx f' (by simp [hf']))
          have e : cs.drop off = (cs.drop off).take l.length ++ cs.drop (off + l.length) := by
            rw [← List.drop_drop, List.take_append_drop]
          rw [e]
          exact h1.append h2
        · cases h
    · cases h

theorem cesArr_ok {l : List Ce} {k : Nat} : ∀ (m : Nat) (cs : List Value), cs.length = m * k → (∀ i, i < m → Opens w l ((cs.drop (i * k)).take k)) → Opens w (List.replicate m l).flatten cs
  | 0, cs, hl, _ => by
    simp at hl
    subst hl
    exact .nil
  | m + 1, cs, hl, h => by
    have h0 := h 0 (by omega)
    simp at h0
    have hr := cesArr_ok (k := k) m (cs.drop k) (by rw [List.length_drop, hl, Nat.add_mul]; omega) (fun i hi => by
      have := h (i + 1) (by omega)
      rw [List.drop_drop, show k + i * k = (i + 1) * k by rw [Nat.add_mul]; omega]
      exact this)
    rw [List.replicate_succ, List.flatten_cons, ← List.take_append_drop k cs]
    exact h0.append hr

theorem flat_rv {R : Value → Value → Prop} {k : Nat} : ∀ (rs : List (List Value)) (g : Nat → Value), (∀ r, r ∈ rs → r.length = k) → (∀ q, q < rs.length → ∀ j, j < k → R ((rs.getD q []).getD j undef) (g (q * k + j))) →
    ∀ i, i < rs.flatten.length → R (rs.flatten.getD i undef) (g i)
  | [], g, _, _, i, h => by cases h
  | r :: rs, g, hl, h, i, hi => by
    have h0 := hl r (by simp)
    rw [List.flatten_cons, List.getD_eq_getElem?_getD]
    rw [List.flatten_cons, List.length_append] at hi
    rcases Nat.lt_or_ge i r.length with hlt | hge
    · rw [List.getElem?_append_left hlt]
      have := h 0 (by simp) i (by omega)
      rw [Nat.zero_mul, Nat.zero_add] at this
      simpa [List.getD_eq_getElem?_getD] using this
    · rw [List.getElem?_append_right hge]
      have := flat_rv rs (fun i => g (k + i)) (fun r hr => hl r (by simp [hr])) (fun q hq j hj => by
        have := h (q + 1) (by simpa using hq) j hj
        rw [show (q + 1) * k + j = k + (q * k + j) by rw [Nat.add_mul]; omega] at this
        simpa using this) (i - r.length) (by omega)
      rw [show k + (i - r.length) = i by omega] at this
      rw [← List.getD_eq_getElem?_getD]
      exact this

theorem choose_lists {n : Nat} {p : Nat → List Value → Prop} (h : ∀ i, i < n → ∃ l, p i l) : ∃ rs : List (List Value), rs.length = n ∧ ∀ i, i < n → p i (rs.getD i []) := by
  induction n with
  | zero => exact ⟨[], rfl, fun i hi => by cases hi⟩
  | succ n ih =>
    obtain ⟨rs, hl, hr⟩ := ih fun i hi => h i (by omega)
    obtain ⟨l, hp⟩ := h n (by omega)
    refine ⟨rs ++ [l], by simp [hl], fun i hi => ?_⟩
    rw [List.getD_eq_getElem?_getD]
    rcases Nat.lt_or_ge i n with hlt | hge
    · rw [List.getElem?_append_left (by omega), ← List.getD_eq_getElem?_getD]
      exact hr i hlt
    · have : i = n := by omega
      subst this
      rw [List.getElem?_append_right (by omega), hl, Nat.sub_self]
      exact hp

theorem flatten_len {k : Nat} : ∀ (rs : List (List Value)), (∀ r, r ∈ rs → r.length = k) → rs.flatten.length = rs.length * k
  | [], _ => by simp
  | r :: rs, h => by
    rw [List.flatten_cons, List.length_append, h r (by simp), flatten_len rs (fun r hr => h r (by simp [hr])), List.length_cons, Nat.add_mul]; omega
theorem flatten_pure : ∀ (rs : List (List Value)), (∀ r, r ∈ rs → pures r = true) → pures rs.flatten = true
  | [], _ => rfl
  | r :: rs, h => by
    rw [List.flatten_cons]
    exact pures_append (h r (by simp)) (flatten_pure rs fun r hr => h r (by simp [hr]))

theorem ces_trod : ∀ (n : Nat) (t : TypeId) (ss : List Ce) (cs : List Value), ces P n t = some ss → (∃ m x, DataW.trod enc P w base spare held m t cs = some x) → Opens w ss cs
  | 0, _, _, _, h, _ => by cases h
  | n + 1, t, ss, cs, h, ⟨m, x, hx⟩ => by
    simp only [ces] at h
    split at h
    · rename_i ht
      cases h
      obtain ⟨b, rfl, _⟩ := DataW.trod_bool ht hx
      exact .one (u := .bool b) (by unfold CeOk; exact ⟨b, rfl⟩) rfl (.bool b)
    · rename_i k ht
      cases h
      obtain ⟨b, rfl, _, hw⟩ := DataW.trod_int ht hx
      exact .one (u := .int k b) (by unfold CeOk; exact ⟨b, rfl, hw⟩) rfl (.int k b)
    · rename_i ht
      cases h
      obtain ⟨s, rfl, _, hs⟩ := DataW.trod_string ht hx
      exact .one (u := .string s) (by unfold CeOk; exact ⟨s, rfl, hs⟩) rfl (.string s)
    · rename_i e ht
      split at h
      · rename_i l hl
        cases hc : (Nat.beq (P.cellsOf e) l.length && Nat.blt 0 l.length) with
        | false => simp [hc] at h
        | true =>
          simp only [hc, cond_true, Option.some.injEq] at h
          subst h
          rw [Bool.and_eq_true] at hc
          have e1 := Nat.eq_of_beq_eq_true hc.1
          have hpos : 0 < l.length := Nat.le_of_ble_eq_true hc.2
          rcases Go.Deep.open_slice ht hx with ⟨rfl, _⟩ | ⟨a, len, cap, q, n', D, Pl, rfl, _, hlc, hcm, hm, _, hcell⟩
          · exact .one (u := frz 0 []) (by unfold CeOk; exact ⟨[], rfl, Nat.zero_le _, fun r hr => by cases hr⟩) rfl .frzN
          · have hlq : len ≤ q := by rw [hm]; split <;> omega
            rw [e1] at hcell
            have one : ∀ i, i < len → ∃ can : List Value, CesOk l can ∧ pures can = true ∧ ∀ j, j < l.length → ∃ u, w.cell? ((a.add (i * l.length)).add j) = some u ∧ RV (fm w) (can.getD j undef) u := fun i hi => by
              obtain ⟨cs', h2, h3⟩ := hcell i (by omega)
              obtain ⟨_, h4, h5⟩ := World.cells?_some h2
              obtain ⟨can, k1, k2, k3, k4⟩ := ces_trod n e l cs' hl ⟨_, _, h3⟩
              refine ⟨can, k1, k2, fun j hj => ?_⟩
              have h6 := h5 j hj
              rw [List.getElem?_eq_getElem (by omega)] at h6
              have := k4 j (by rw [k3]; omega)
              rw [List.getD_eq_getElem?_getD (l := cs'), List.getElem?_eq_getElem (by omega)] at this
              exact ⟨_, h6, this⟩
            obtain ⟨rs, hrl, hrs⟩ := choose_lists one
            have hmem : ∀ r, r ∈ rs → CesOk l r ∧ pures r = true := fun r hr => by
              obtain ⟨i, hi, rfl⟩ := List.getElem_of_mem hr
              have := hrs i (by omega)
              rw [List.getD_eq_getElem?_getD, List.getElem?_eq_getElem hi] at this
              exact ⟨this.1, this.2.1⟩
            have hlen : ∀ r, r ∈ rs → r.length = l.length := fun r hr => (hmem r hr).1.length
            have hce : CeOk (.sl l) (frz rs.length rs.flatten) := by unfold CeOk; exact ⟨rs, rfl, by omega, fun r hr => (hmem r hr).1⟩
            rcases Nat.eq_zero_or_pos len with hz | hp
            · have : rs = [] := List.eq_nil_of_length_eq_zero (by omega)
              subst this
              subst hz
              exact .one hce rfl (.frzE a cap)
            · obtain ⟨_, _, h5⟩ := hrs 0 hp
              obtain ⟨u0, h6, _⟩ := h5 0 hpos
              have h6' : w.cell? a = some u0 := by simpa [Addr.add] using h6
              unfold World.cell? at h6'
              split at h6'
              · rename_i c' tt fz hh
                cases hsp : a.spot with
                | some q => simp [hsp] at h6'
                | none =>
                  have hcellat : ∀ i, i < len → ∀ j, j < l.length → a.off + (i * l.length + j) < c'.size ∧ RV (fm w) ((rs.getD i []).getD j undef) (c'.getD (a.off + (i * l.length + j)) undef) := fun i hi j hj => by
                    obtain ⟨u, h7, h8⟩ := (hrs i hi).2.2 j hj
                    rw [Go.Deep.add_add] at h7
                    obtain ⟨q1, q2, q3⟩ := add_parts hsp (i * l.length + j)
                    unfold World.cell? at h7
                    rw [q1, hh, q2, q3] at h7
                    simp only [] at h7
                    have h9 : c'[a.off + (i * l.length + j)]? = some u := by simpa using h7
                    refine ⟨(Array.getElem?_eq_some_iff.1 h9).1, ?_⟩
                    rw [Array.getD_eq_getD_getElem?, h9]
                    exact h8
                  have hfl := flatten_len rs hlen
                  refine .one hce rfl ?_
                  have ea : a = ⟨a.block, a.off, none⟩ := by cases a; simp_all
                  rw [ea, hrl]
                  refine .frz (r := a.block) (o := a.off) (cr := c') (by show froH w a.block = _; unfold froH; rw [hh]) hlc (flatten_pure _ fun r hr => (hmem r hr).2) ?_ (fun i hi => ?_)
                  · have hk := (hcellat (len - 1) (by omega) (l.length - 1) (by omega)).1
                    have e4 : len * l.length = (len - 1) * l.length + l.length := by
                      have : len = len - 1 + 1 := by omega
                      rw [this, Nat.add_mul, Nat.one_mul, Nat.add_sub_cancel]
                    rw [hfl, hrl]
                    omega
                  · exact flat_rv (R := RV (fm w)) rs (fun i => c'.getD (a.off + i) undef) hlen (fun q hq j hj => (hcellat q (by omega) j hj).2) i hi
              · cases h6'
      · cases h
    · rename_i fs ht
      split at h
      · rename_i l hl
        cases hc : Nat.beq (P.cellsOf t) l.length with
        | false => simp [hc] at h
        | true =>
          simp only [hc, cond_true, Option.some.injEq] at h
          subst h
          obtain ⟨xs, m', _, _, hlen, hxs, hall⟩ := DataW.trod_struct ht hx
          have e := Nat.eq_of_beq_eq_true hc
          have := cesFs_ok (cs := cs) (enc := enc) (w := w) (base := base) (spare := spare) (held := held) (fun t' l' c hl' hx' => ces_trod n t' l' c hl' hx') fs.toList 0 l hl (by omega) (fun f hf => by
            obtain ⟨i, hi⟩ := List.getElem?_of_mem hf
            have hi' : fs[i]? = some f := by simpa using hi
            have hlt : i < fs.size := (Array.getElem?_eq_some_iff.1 hi').1
            have := hall i f hi'
            rw [List.getElem?_eq_getElem (by omega)] at this
            exact ⟨_, _, this⟩)
          simpa using this
      · cases h
    · rename_i k e ht
      split at h
      · rename_i l hl
        cases hc : (Nat.beq (P.cellsOf e) l.length && Nat.beq (P.cellsOf t) (k * l.length)) with
        | false => simp [hc] at h
        | true =>
          simp only [hc, cond_true, Option.some.injEq] at h
          subst h
          rw [Bool.and_eq_true] at hc
          obtain ⟨xs, m', _, _, hlen, hxs, hall⟩ := DataW.trod_array ht hx
          have e1 := Nat.eq_of_beq_eq_true hc.1
          have e2 := Nat.eq_of_beq_eq_true hc.2
          refine cesArr_ok (k := P.cellsOf e) k cs (by rw [hlen, e2, e1]) (fun i hi => ?_)
          have := hall i hi
          rw [List.getElem?_eq_getElem (by omega)] at this
          exact ces_trod n e l _ hl ⟨_, _, this⟩
      · cases h
    · cases h
end

/-! ### Typed -/
/-- Of elements that can be read out of cells of known kinds; and what is known of their numbers. -/
class Ope (α : Type) [F : Flat α] where
  ss : List Ce
  ok : α → Prop
  op : ∀ can, CesOk ss can → ∃ x : α, can = F.cells x ∧ ok x

theorem op_field {α : Type} [F : Flat α] [O : Ope α] {r : List Ce} {can : List Value} (h : CesOk (O.ss ++ r) can) : ∃ (x : α) (b : List Value), can = F.cells x ++ b ∧ O.ok x ∧ CesOk r b := by
  obtain ⟨a, b, rfl, h1, h2⟩ := h.split
  obtain ⟨x, rfl, hx⟩ := O.op a h1
  exact ⟨x, b, rfl, hx, h2⟩
theorem op_int {k : IntKind} {r : List Ce} {can : List Value} (h : CesOk (.int k :: r) can) : ∃ (x : Int) (b : List Value), can = .int k x :: b ∧ (Lit.int k x).wf = true ∧ CesOk r b := by
  obtain ⟨v, b, rfl, h1, h2⟩ := ces_cons h
  unfold CeOk at h1
  obtain ⟨n, rfl, hn⟩ := h1
  exact ⟨n, b, rfl, hn, h2⟩
instance opInt : Ope Int := ⟨[.int .i64], fun x => (Lit.int .i64 x).wf = true, fun can h => by
  obtain ⟨x, b, rfl, h1, h2⟩ := op_int h
  obtain rfl := ces_nil h2
  exact ⟨x, rfl, h1⟩⟩
instance opU8 : Ope U8 := ⟨[.int .u8], fun x => (Lit.int .u8 x.n).wf = true, fun can h => by
  obtain ⟨x, b, rfl, h1, h2⟩ := op_int h
  obtain rfl := ces_nil h2
  exact ⟨⟨x⟩, rfl, h1⟩⟩
instance opBool : Ope Bool := ⟨[.bool], fun _ => True, fun can h => by
  obtain ⟨v, b, rfl, h1, h2⟩ := ces_cons h
  obtain rfl := ces_nil h2
  unfold CeOk at h1
  obtain ⟨x, rfl⟩ := h1
  exact ⟨x, rfl, trivial⟩⟩
instance opStr : Ope ByteArray := ⟨[.str], fun s => s.size ≤ maxLen, fun can h => by
  obtain ⟨v, b, rfl, h1, h2⟩ := ces_cons h
  obtain rfl := ces_nil h2
  unfold CeOk at h1
  obtain ⟨x, rfl, hx⟩ := h1
  exact ⟨x, rfl, hx⟩⟩
theorem op_rows {α : Type} [F : Flat α] [O : Ope α] : ∀ (rs : List (List Value)), (∀ r, r ∈ rs → CesOk O.ss r) → ∃ xs : List α, rs.flatten = rows xs ∧ rs.length = xs.length ∧ ∀ x, x ∈ xs → O.ok x
  | [], _ => ⟨[], rfl, rfl, fun x h => by cases h⟩
  | r :: rs, h => by
    obtain ⟨x, h1, h2⟩ := O.op r (h r (by simp))
    obtain ⟨xs, h3, h4, h5⟩ := op_rows rs fun r hr => h r (by simp [hr])
    refine ⟨x :: xs, by rw [List.flatten_cons, h1, h3]; rfl, by simp [h4], fun y hy => ?_⟩
    rcases List.mem_cons.1 hy with rfl | hy
    · exact h2
    · exact h5 y hy
instance opList {α : Type} [F : Flat α] [O : Ope α] : Ope (List α) := ⟨[.sl O.ss], fun xs => xs.length ≤ maxLen ∧ ∀ x, x ∈ xs → O.ok x, fun can h => by
  obtain ⟨v, b, rfl, h1, h2⟩ := ces_cons h
  obtain rfl := ces_nil h2
  unfold CeOk at h1
  obtain ⟨rs, rfl, hl, hr⟩ := h1
  obtain ⟨xs, h3, h4, h5⟩ := op_rows rs hr
  exact ⟨xs, by rw [h3, h4]; rfl, by omega, h5⟩⟩

section
variable {H : Type} {enc : TypeId × Value → H} {P : Program} {w : World} {base : Nat} {spare : Nat → Bool} {held : Bool}
/-- A slice as an argument. -/
theorem arg_list {α : Type} [F : Flat α] [O : Ope α] {r : Reach} {b0 n : Nat} {t e : TypeId} {v : Value} {d : DataW H} {ps : List MemPlace} (ht : P.underlying t = some (.slice e)) (hf : ces P n t = some (Ope.ss (List α)))
    (hval : Value.okWide P w r b0 t v) (hd : DataW.Trod enc P w base spare held t v d ps) : ∃ xs : List α, RV (fm w) (lst xs) v ∧ xs.length ≤ maxLen ∧ ∀ x, x ∈ xs → O.ok x := by
  obtain ⟨fuel, hx⟩ := hd
  obtain ⟨a0, l0, c0, rfl⟩ := slice_value ht hval
  have hcells : (Value.slice a0 l0 c0).cells.toList = [.slice a0 l0 c0] := rfl
  rw [hcells] at hx
  obtain ⟨can, h1, h2, h3, h4⟩ := ces_trod n t _ _ hf ⟨_, _, hx⟩
  obtain ⟨xs, rfl, hk⟩ := Ope.op can h1
  exact ⟨xs, h4 0 (by show 0 < 1; omega), hk⟩
theorem list_rv {ι : Map} {l : List Value} {a : Array Value} (h : ∀ i, i < l.length → RV ι (l.getD i undef) (a.getD i undef)) : ∀ i, RV ι (l.getD i undef) (a.getD i undef) := fun i => by
  rcases Nat.lt_or_ge i l.length with hl | hl
  · exact h i hl
  · rw [List.getD_eq_getElem?_getD, List.getElem?_eq_none hl]
    exact .any _
end

/-- A contract, of which it is known that there is an answer. -/
theorem Con.calls {P : Program} {f : FuncId} {args : List Value} {v : Value} (h : Con P f args v) (hv : plain v = true) (args' : Array Value) (w : World) (hsz : args'.size = args.length)
    (hargs : ∀ i, RV (fm w) (args.getD i undef) (args'.getD i undef)) (hg : GloOk (froH w) := by trivial) : Calls P f args' w fun e w' => e = .returned v ∧ Below w.heap.size w w' := h.eq.callsF hv args' w hsz hargs hg

end

section
open Go.RowKit
set_option linter.unusedVariables false
set_option linter.unusedSimpArgs false

section
variable {P : Program} {o : Oper} {a : List Value} {m : List Blk}
variable {f : Fr} {n0 : Nat} {ρ : Type} {E : ρ → VQ} {s : VS} {T : Option ρ}
/-- A truth value that is not known is taken to be both. -/
def anyS (d : Nat) (b : Bool) : VS → VS
  | .norm todo a m => fl (a.set d (.bool b)) fun a' => .norm todo a' m
  | s => s
theorem Runs.anyB {v : Value} {m' : List Blk} (d : Nat) (hs : slotV d s = Dt.anyB) (h : ∀ b, Runs P f n0 (anyS d b s) v m') : Runs P f n0 s v m' := by
  cases s with
  | reg => exact h true
  | norm todo a m =>
    have hs : a.getD d undef = Dt.anyB := hs
    intro D ds ι t w hr b cs hb hk hB hD hj
    have hv := hr.slots d
    rw [hs] at hv
    generalize hy : t.getD d undef = y at hv
    have key : ∀ b', y = .bool b' → Rel ι (a.set d (.bool b')) m t w := fun b' e => by
      refine ⟨by simpa using hr.size, fun x => ?_, hr.sim, hr.dom⟩
      by_cases hx : d = x
      · subst hx
        by_cases hda : d < a.length
        · rw [show (a.set d (.bool b')).getD d undef = .bool b' by simp [List.getD_eq_getElem?_getD, hda], hy, e]
          exact .bool b'
        · rw [List.set_eq_of_length_le (by omega)]
          exact hr.slots d
      · rw [show (a.set d (.bool b')).getD x undef = a.getD x undef by simp [List.getD_eq_getElem?_getD, List.getElem?_set_ne hx]]
        exact hr.slots x
    cases hv with
    | iface _ ht => exact absurd ht (by decide)
    | anyB b' =>
      have := h b'
      simp only [anyS, fl_eq] at this
      exact this D ds ι t w (key b' rfl) b cs hb hk hB hD hj

/-- Is it a function's frame? -/
def Fr.isFn : Fr → Bool
  | .rd _ => false
  | _ => true
theorem Fr.ofFn.isFn {fn : Func} (h : f.ofFn P fn) : f.isFn = true := by
  cases f <;> first | rfl | exact h.elim
theorem Runs.weaken {v u : Value} {m' : List Blk} (hf : f.isFn = true) (hw : ∀ (ι : Map) (x : Value), RV ι v x → RV ι u x) (h : Runs P f n0 s v m') : Runs P f n0 s u m' := by
  have key : ∀ {todo a m}, RunsN P f n0 todo a m v m' → RunsN P f n0 todo a m u m' := fun h D ds ι t w hr b cs hb hk hB hD hj => by
    obtain ⟨w', fr, ι', h1, h2, h5⟩ := h D ds ι t w hr b cs hb hk hB hD hj
    refine ⟨w', fr, ι', h1, ?_, h5⟩
    cases f with
    | rd _ => cases hf
    | fn0 g => obtain ⟨h2, v', h3, h4⟩ := h2; exact ⟨h2, v', h3, hw _ _ h4⟩
    | fn g => obtain ⟨h2, v', h3, h4⟩ := h2; exact ⟨h2, v', h3, hw _ _ h4⟩
  cases s with
  | norm todo a m => exact key h
  | reg => exact fun hreg hR => key (h hreg hR)

/-- A slice written out, of no elements. -/
theorem L.none (hm : P.follows .mixedOrders = true) (n' : Nat) (size : Nat) (hs : bnAt P (vadv P n' s) = some size) (h : LiftsF P f n0 E (afterAp (vadv P n' s) (.slice (some ⟨(vadv P n' s).mem.length, 0, Option.none⟩) 0 0) ((vadv P n' s).mem ++ [.cells [] size true]) ⟨[], []⟩) T) : LiftsF P f n0 E s T := fun r hr => R.none hm n' size hs (h r hr)

variable {α : Type} [F : Flat α]
end

end

section
open Go.RowKit
set_option linter.unusedVariables false
set_option linter.unusedSimpArgs false

section
variable {P : Program} {f : Fr} {n0 : Nat} {ρ : Type} {E : ρ → VQ} {s : VS} {T0 T1 : Option ρ}
variable {α : Type} [F : Flat α]
end

end

end Go.Dt
