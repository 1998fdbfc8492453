/- Arguments that are slices of flat elements: opened; from a contract over what is only read to the model's own calls. -/
import Derived.Test.YtjfodgjgpeiaaaaDt19
import Derived.Test.YtjfodgjgpeiaaaaDt22
namespace Go.Dt
open Go.RowKit Go.WideShapes Go.ChangeShapes Go.ChangeAt
set_option linter.unusedVariables false

/-- Rows of cells, one behind the other. -/
def RowsOk (ss : List Sc) : Nat → List Value → Prop
  | 0, c => c = []
  | n + 1, c => FlatOk ss (c.take ss.length) ∧ RowsOk ss n (c.drop ss.length)

theorem RowsOk.length {ss : List Sc} : ∀ {n : Nat} {c : List Value}, RowsOk ss n c → c.length = n * ss.length
  | 0, c, h => by
    have : c = [] := h
    simp [this]
  | n + 1, c, h => by
    have h1 := h.1.length
    have h2 := RowsOk.length h.2
    simp only [List.length_drop] at h2
    simp only [List.length_take] at h1
    rw [Nat.add_mul]
    omega

theorem rows_of {ss : List Sc} : ∀ (n : Nat) (c : List Value), c.length = n * ss.length → (∀ i, i < n → FlatOk ss ((c.drop (i * ss.length)).take ss.length)) → RowsOk ss n c
  | 0, c, hl, _ => by
    simp at hl
    exact hl
  | n + 1, c, hl, h => by
    refine ⟨by have := h 0 (by omega); simpa using this, rows_of n (c.drop ss.length) (by rw [List.length_drop, hl, Nat.add_mul]; omega) fun i hi => ?_⟩
    have := h (i + 1) (by omega)
    rw [List.drop_drop, show ss.length + i * ss.length = (i + 1) * ss.length by rw [Nat.add_mul]; omega]
    exact this

/-- Rows of numbers. -/
theorem rows_ints {k : IntKind} : ∀ {n : Nat} {c : List Value}, RowsOk [.int k] n c → ∃ xs : List Int, xs.length = n ∧ c = xs.map (Value.int k) ∧ ∀ x, x ∈ xs → (Lit.int k x).wf = true
  | 0, c, h => ⟨[], rfl, h, fun x hx => by cases hx⟩
  | n + 1, c, h => by
    obtain ⟨xs, h1, h2, h3⟩ := rows_ints h.2
    obtain ⟨x, vs, e, hw, hn⟩ := flat_int h.1
    have hn := flat_nil hn
    subst hn
    refine ⟨x :: xs, by simp [h1], ?_, fun y hy => ?_⟩
    · rw [← List.take_append_drop 1 c]
      have e2 : c.take 1 = [.int k x] := e
      have h4 : c.drop 1 = xs.map (Value.int k) := h2
      rw [e2, h4]
      rfl
    · rcases List.mem_cons.1 hy with rfl | hy
      · exact hw
      · exact h3 y hy

section
variable {H : Type} {enc : TypeId × Value → H} {P : Program} {w : World}

theorem slice_value {r : Reach} {b0 : Nat} {t e : TypeId} {v : Value} (ht : P.underlying t = some (.slice e)) (hval : Value.okWide P w r b0 t v) : ∃ a l c, v = .slice a l c := by
  unfold Value.okWide at hval
  rw [ht] at hval
  simp only [Cell.okWide, ht] at hval
  unfold Cell.ok at hval
  rw [ht] at hval
  split at hval <;> first | exact ⟨_, _, _, rfl⟩ | (exfalso; exact hval) | simp_all

theorem add_parts {a : Addr} (h : a.spot = none) (i : Nat) : (a.add i).block = a.block ∧ (a.add i).off = a.off + i ∧ (a.add i).spot = none := by
  unfold Addr.add
  split
  · rename_i hz
    subst hz
    exact ⟨rfl, rfl, h⟩
  · exact ⟨rfl, rfl, by first | rfl | exact h⟩

/-- A slice's argument, opened: nil, or so many rows; the cells lie in the heap. -/
theorem slice_open {r : Reach} {b0 n : Nat} {t e : TypeId} {v : Value} {d : DataW H} {ps : List MemPlace} {ss : List Sc} (ht : P.underlying t = some (.slice e)) (hf : flat P n e = some ss) (hk : P.cellsOf e = ss.length) (hpos : 0 < ss.length)
    (hval : Value.okWide P w r b0 t v) (hd : DataW.Trod enc P w 0 (fun _ => true) true t v d ps) :
    v = .slice none 0 0 ∨ ∃ (a : Addr) (len cap : Nat) (c : List Value), v = .slice (some a) len cap ∧ len ≤ cap ∧ cap ≤ maxLen ∧ RowsOk ss len c ∧
      (0 < cap → a.spot = none ∧ ∃ c' tt fz, w.heap[a.block]? = some (.cells c' tt fz) ∧ a.off + c.length ≤ c'.size ∧ ∀ i, i < c.length → c'.getD (a.off + i) undef = c.getD i undef) := by
  obtain ⟨fuel, hx⟩ := hd
  obtain ⟨a0, l0, c0, rfl⟩ := slice_value ht hval
  have hcells : (Value.slice a0 l0 c0).cells.toList = [.slice a0 l0 c0] := rfl
  rw [hcells] at hx
  rcases Go.Deep.open_slice ht hx with ⟨h1, _⟩ | ⟨a, len, cap, m, n', D, Pl, h1, _, hlc, hcm, hm, _, hcell⟩
  · left
    exact (List.cons.inj h1).1
  · right
    rw [(List.cons.inj h1).1]
    have hm' : m = cap := by simpa using hm
    subst hm'
    rw [hk] at hcell
    have one : ∀ i, i < m → ∃ cs' : List Value, cs'.length = ss.length ∧ FlatOk ss cs' ∧ ∀ j, j < ss.length → w.cell? ((a.add (i * ss.length)).add j) = cs'[j]? := fun i hi => by
      obtain ⟨cs', h2, h3⟩ := hcell i hi
      obtain ⟨_, h4, h5⟩ := World.cells?_some h2
      exact ⟨cs', h4, flat_trod n e ss cs' hf ⟨_, _, h3⟩, h5⟩
    rcases Nat.eq_zero_or_pos m with hz | hp
    · subst hz
      have : len = 0 := by omega
      subst this
      exact ⟨a, 0, 0, [], rfl, Nat.le_refl _, hcm, rfl, fun h => absurd h (Nat.lt_irrefl _)⟩
    · obtain ⟨cs0, h4, _, h5⟩ := one 0 hp
      have h6 := h5 0 hpos
      rw [List.getElem?_eq_getElem (by omega)] at h6
      simp only [Nat.zero_mul] at h6
      have h6' : w.cell? a = some cs0[0] := by simpa [Addr.add] using h6
      unfold World.cell? at h6'
      split at h6'
      · rename_i c' tt fz hh
        cases hsp : a.spot with
        | some q => simp [hsp] at h6'
        | none =>
          have hcellat : ∀ i, i < m → ∃ cs' : List Value, cs'.length = ss.length ∧ FlatOk ss cs' ∧ ∀ j, j < ss.length → c'[a.off + (i * ss.length + j)]? = cs'[j]? := fun i hi => by
            obtain ⟨cs', h7, h8, h9⟩ := one i hi
            refine ⟨cs', h7, h8, fun j hj => ?_⟩
            rw [← h9 j hj, Go.Deep.add_add]
            obtain ⟨e1, e2, e3⟩ := add_parts hsp (i * ss.length + j)
            unfold World.cell?
            rw [e1, hh, e2, e3]
            simp
          have hsize : a.off + len * ss.length ≤ c'.size := by
            rcases Nat.eq_zero_or_pos len with hl0 | hl0
            · subst hl0
              obtain ⟨cs', h7, _, h9⟩ := hcellat 0 hp
              have h10 := h9 0 hpos
              rw [List.getElem?_eq_getElem (by omega)] at h10
              have := (Array.getElem?_eq_some_iff.1 h10).1
              omega
            · obtain ⟨cs', h7, _, h9⟩ := hcellat (len - 1) (by omega)
              have h10 := h9 (ss.length - 1) (by omega)
              rw [List.getElem?_eq_getElem (by omega)] at h10
              have := (Array.getElem?_eq_some_iff.1 h10).1
              have e4 : len * ss.length = (len - 1) * ss.length + ss.length := by
                have : len = len - 1 + 1 := by omega
                rw [this, Nat.add_mul, Nat.one_mul, Nat.add_sub_cancel]
              omega
          have hlen : ((c'.toList.drop a.off).take (len * ss.length)).length = len * ss.length := by
            simp only [List.length_take, List.length_drop, Array.length_toList]
            omega
          refine ⟨a, len, m, (c'.toList.drop a.off).take (len * ss.length), rfl, hlc, hcm, rows_of _ _ hlen fun i hi => ?_, fun _ => ⟨hsp, c', tt, fz, hh, by rw [hlen]; exact hsize, fun i hi => ?_⟩⟩
          · obtain ⟨cs', h7, h8, h9⟩ := hcellat i (by omega)
            have e5 : (((c'.toList.drop a.off).take (len * ss.length)).drop (i * ss.length)).take ss.length = cs' := by
              have hle : (i + 1) * ss.length ≤ len * ss.length := Nat.mul_le_mul_right _ (by omega)
              rw [Nat.add_mul, Nat.one_mul] at hle
              refine List.ext_getElem? fun j => ?_
              rcases Nat.lt_or_ge j ss.length with hj | hj
              · have := h9 j hj
                rw [List.getElem?_take, if_pos hj, List.getElem?_drop, List.getElem?_take, if_pos (by omega), List.getElem?_drop, ← this]
                simp
              · rw [List.getElem?_eq_none (by simp only [List.length_take]; omega), List.getElem?_eq_none (by omega)]
            rw [e5]
            exact h8
          · rw [hlen] at hi
            simp only [List.getD_eq_getElem?_getD, List.getElem?_take, if_pos hi, List.getElem?_drop, Array.getD_eq_getD_getElem?, Array.getElem?_toList]
      · cases h6'

/-- A slice in canonical form: nil or not, its rows, and where they lie. -/
theorem slice_can {r : Reach} {b0 n : Nat} {t e : TypeId} {v : Value} {d : DataW H} {ps : List MemPlace} {ss : List Sc} (hw : ∃ (g : Nat) (c : Array Value) (tt : TypeId) (fz : Nat × Nat), w.heap[g]? = some (.cells c tt fz)) (ht : P.underlying t = some (.slice e)) (hf : flat P n e = some ss)
    (hk : P.cellsOf e = ss.length) (hpos : 0 < ss.length) (hval : Value.okWide P w r b0 t v) (hd : DataW.Trod enc P w 0 (fun _ => true) true t v d ps) :
    ∃ (nil : Bool) (len : Nat) (c : List Value) (L : Loc), (nil = true → len = 0) ∧ len ≤ maxLen ∧ RowsOk ss len c ∧
      ∀ (ι : Map) (j : Nat), ι j = some L → RV ι (bif nil then .slice none 0 0 else .slice (some ⟨j, 0, none⟩) len len) v ∧ BlkOk ι w j (.cells c 0 false) := by
  obtain ⟨g, cg, tg, fg, hg⟩ := hw
  rcases slice_open ht hf hk hpos hval hd with rfl | ⟨a, len, cap, c, rfl, h1, h2, h3, h4⟩
  · refine ⟨true, 0, [], ⟨g, 0, 0, 0, true⟩, fun _ => rfl, Nat.zero_le _, rfl, fun ι j hj => ⟨.nils _ _, ?_⟩⟩
    exact ⟨_, cg, tg, fg, hj, hg, by simp, by simp, by simp, fun i hi => by cases hi⟩
  · rcases Nat.eq_zero_or_pos cap with hz | hp
    · subst hz
      have : len = 0 := by omega
      subst this
      have hc : c = [] := h3
      subst hc
      refine ⟨false, 0, [], ⟨g, 0, 0, 0, true⟩, (fun h => by cases h), Nat.zero_le _, rfl, fun ι j hj => ⟨.slice0 _ _, ?_⟩⟩
      exact ⟨_, cg, tg, fg, hj, hg, by simp, by simp, by simp, fun i hi => by cases hi⟩
    · obtain ⟨hsp, c', tt, fz, hh, hfit, hc⟩ := h4 hp
      refine ⟨false, len, c, ⟨a.block, a.off, 0, 0, true⟩, (fun h => by cases h), by omega, h3, fun ι j hj => ⟨?_, ?_⟩⟩
      · have := RV.slice (ι := ι) (b := j) (o := 0) (l := len) hj h1 (by simp)
        have ea : a = ⟨a.block, a.off, none⟩ := by cases a; simp_all
        rw [ea]
        simpa using this
      · refine ⟨_, c', tt, fz, hj, hh, hfit, by simp, by simp, fun i hi => ?_⟩
        rw [hc i hi]
        have hpl : plains c = true := by
          have : ∀ (k : Nat) (x : List Value), RowsOk ss k x → plains x = true := by
            intro k
            induction k with
            | zero => intro x hx; have : x = [] := hx; subst this; rfl
            | succ k ih =>
              intro x hx
              have p1 : ∀ (s : List Sc) (y : List Value), FlatOk s y → plains y = true := by
                intro s
                induction s with
                | nil => intro y hy; rw [flat_nil hy]; rfl
                | cons q s ih2 =>
                  intro y hy
                  cases y with
                  | nil => rfl
                  | cons u y =>
                    obtain ⟨hu, hy⟩ := hy
                    have h5 := ih2 y hy
                    cases q with
                    | int k => obtain ⟨n, rfl, _⟩ := hu; simp [plains, plain, h5]
                    | bool => obtain ⟨n, rfl⟩ := hu; simp [plains, plain, h5]
              have p2 := p1 _ _ hx.1
              have p3 := ih _ hx.2
              have p4 : ∀ (y z : List Value), plains y = true → plains z = true → plains (y ++ z) = true := by
                intro y
                induction y with
                | nil => intro z _ hz; exact hz
                | cons u y ih3 =>
                  intro z hy hz
                  simp only [plains, Bool.and_eq_true, List.cons_append] at hy ⊢
                  exact ⟨hy.1, ih3 z hy.2 hz⟩
              have := p4 _ _ p2 p3
              rwa [List.take_append_drop] at this
          exact this _ _ h3
        exact RV.refl _ _ (plains_get hpl hi)

theorem FnEq.callsRO {f : FuncId} {args : List Value} {m m' : List Blk} {v : Value} (h : FnEq P f args m v m') (hv : plain v = true) (hro : m.all (fun x => !x.own) = true) (args' : Array Value) (w : World) (ι : Map) (hsz : args'.size = args.length)
    (hargs : ∀ i, RV ι (args.getD i undef) (args'.getD i undef)) (hblk : ∀ b, BlkOk ι w b (m.getD b .gone)) (hfro : ∀ r c, ι.fro r = some c → ∃ t fz, w.heap[r]? = some (.cells c t fz)) (hdom : ∀ b, ι b ≠ none → b < m.length) : Calls P f args' w fun e w' => e = .returned v ∧ Below w.heap.size w w' := by
  have own : ∀ b, (at_ m b).own = false := fun b => by
    simp only [at_, List.getD_eq_getElem?_getD]
    cases hb : m[b]? with
    | none => rfl
    | some x =>
      have := List.all_eq_true.1 hro x (List.mem_of_getElem? hb)
      simpa using this
  refine (h ι args' w hsz hargs ⟨hblk, fun b b2 L L2 _ ho => (by rw [own b] at ho; cases ho), hfro, fun b L r c ho => by rw [own b] at ho; cases ho⟩ hdom).mono fun e w' he => ?_
  obtain ⟨v', ι', rfl, hv', _, _, hext⟩ := he
  rw [← hv'.eq_of_plain hv]
  exact ⟨rfl, hext.os, hext.tape, hext.output, hext.size, fun k hk => hext.frame k hk fun ⟨b, L, ho, _⟩ => by rw [own b] at ho; cases ho⟩


/-! ### All that a heap holds, held for good -/
def froH (w : World) : Nat → Option (Array Value) := fun r => match w.heap[r]? with
  | some (.cells c _ _) => some c
  | _ => none
theorem froH_ok {w : World} {r : Nat} {c : Array Value} (h : froH w r = some c) : ∃ t fz, w.heap[r]? = some (.cells c t fz) := by
  unfold froH at h
  split at h
  · rename_i c' t fz hh; cases h; exact ⟨t, fz, hh⟩
  · cases h

/-- A contract over values that hang on no block: the model's own calls. -/
theorem FnEq.callsF {f : FuncId} {args : List Value} {v : Value} (h : FnEq P f args [] v []) (hv : plain v = true) (args' : Array Value) (w : World) (hsz : args'.size = args.length)
    (hargs : ∀ i, RV ⟨fun _ => none, froH w⟩ (args.getD i undef) (args'.getD i undef)) : Calls P f args' w fun e w' => e = .returned v ∧ Below w.heap.size w w' := by
  refine (h ⟨fun _ => none, froH w⟩ args' w hsz hargs (sim_nil fun r c hr => froH_ok hr) (fun b hb => absurd rfl hb)).mono fun e w' he => ?_
  obtain ⟨v', ι', rfl, hv', _, _, hext⟩ := he
  rw [← hv'.eq_of_plain hv]
  exact ⟨rfl, hext.os, hext.tape, hext.output, hext.size, fun k hk => hext.frame k hk fun ⟨b, L, ho, _⟩ => by simp [at_, Blk.own] at ho⟩

end
end Go.Dt
