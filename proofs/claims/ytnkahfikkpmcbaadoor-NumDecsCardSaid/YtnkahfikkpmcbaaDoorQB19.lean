/- A string's bytes. -/
import Derived.Test.YtnkahfikkpmcbaaDoorQB18
import Derived.Lib.ConvBytes
namespace Go.Dt
open Go.RowKit Go.Instr
set_option linter.unusedVariables false
set_option linter.unusedSimpArgs false

def bytesL (s : ByteArray) : List Value := s.data.toList.map fun b => Value.int .u8 b.toNat
theorem bytesL_len (s : ByteArray) : (bytesL s).length = s.size := by
  unfold bytesL
  rw [List.length_map]
  rfl
theorem bytesL_pure (s : ByteArray) : pures (bytesL s) = true := by
  unfold bytesL
  induction s.data.toList with
  | nil => rfl
  | cons b l ih => rw [List.map_cons, pures, ih]; rfl
section
variable {P : Program} {o : Oper} {a : List Value} {m : List Blk}
theorem OpOk.strBytes {src dst e : TypeId} {x : Operand} {s : ByteArray} (ho : o.op = .convert src dst x) (hc : okConst x = true) (hx : evalC a x = .string s)
    (hs1 : P.underlying src = some .string) (hd : P.underlying dst = some (.slice e)) (he : P.underlying e = some (.int .u8)) : OpOk P o a m (frz s.size (bytesL s)) m ⟨[], []⟩ where
  len := Nat.le_refl _
  sub := by simp
  rdlt := by simp
  same := fun _ _ _ => rfl
  run := fun ι t w hs hdom hsim next Q hn => by
    have h1 := rv_operand hs (x := x) (by rw [ho]; simp [Op.operands]) hc
    rw [hx] at h1
    have e1 := h1.str_inv
    have hrun : (execOp (act t).eval o).run P w = .ok (.value (.slice (some ⟨w.heap.size, 0, none⟩) s.size (grownCap w s.size 0 e))) (Lib.bytesWorld w e s) := by
      unfold execOp; rw [ho]
      simp [e1, Lib.run_convert_string_bytes w src dst e s hs1 hd he]
    have hlt : ∀ r c, ι.fro r = some c → r < w.heap.size := fun r c h => by
      obtain ⟨_, _, hh⟩ := hsim.fro r c h
      exact (Array.getElem?_eq_some_iff.1 hh).1
    let ι2 : Map := ⟨ι.loc, fun r => if r = w.heap.size then some (Lib.bytesCells w e s) else ι.fro r⟩
    have hself : ι2.fro w.heap.size = some (Lib.bytesCells w e s) := by show (if w.heap.size = w.heap.size then _ else _) = _; rw [if_pos rfl]
    have hle : Le ι ι2 := ⟨fun _ _ h => h, fun r c h => by
      show (if r = w.heap.size then some (Lib.bytesCells w e s) else ι.fro r) = some c
      rw [if_neg (by have := hlt r c h; omega)]; exact h⟩
    have hcase : ∀ r c, ι2.fro r = some c → (r = w.heap.size ∧ c = Lib.bytesCells w e s) ∨ ι.fro r = some c := fun r c h => by
      have h : (if r = w.heap.size then some (Lib.bytesCells w e s) else ι.fro r) = some c := h
      split at h
      · rename_i e; cases h; exact .inl ⟨e, rfl⟩
      · exact .inr h
    have hgone : ∀ b, ((at_ m).only (tch [] m.length m.length)) b = .gone := fun b => by
      rw [tch_self]; simp [Cont.only, isIn]
    refine wp_of_value hrun (hn _ _ ι2 ?_ ⟨hle, ?_, ?_, ?_, ?_, ?_, ?_, ?_, ?_⟩ ⟨?_, ?_, ?_, ?_⟩ (fun b h1 h2 => absurd h1 h2))
    · refine .frz hself (grownCap_ge w s.size 0 e) (bytesL_pure s) ?_ fun i hi => ?_
      · rw [bytesL_len]
        unfold Lib.bytesCells
        rw [Array.size_append, Array.size_map]
        have : s.data.size = s.size := rfl
        omega
      · rw [bytesL_len] at hi
        have hi2 : i < s.data.size := hi
        have q1 : (bytesL s).getD i undef = .int .u8 (s.data[i]'hi2).toNat := by
          simp [bytesL, List.getD_eq_getElem?_getD, Array.getElem?_eq_getElem hi2]
        have q2 : (Lib.bytesCells w e s).getD (0 + i) undef = .int .u8 (s.data[i]'hi2).toNat := by
          simp [Lib.bytesCells, Array.getD_eq_getD_getElem?, Array.getElem?_append, hi, Array.getElem?_eq_getElem hi2]
        rw [q1, q2]
        exact .int _ _
    · rw [Lib.bytesWorld_size]; omega
    · simp [Lib.bytesWorld, World.freeze, World.alloc, World.drew, -World.alloc_eq, -World.drew_eq]
    · simp [Lib.bytesWorld, World.freeze, World.alloc, World.drew, -World.alloc_eq, -World.drew_eq]
    · simp [Lib.bytesWorld, World.freeze, World.alloc, World.drew, -World.alloc_eq, -World.drew_eq]
    · exact fun k hk _ => Lib.bytesWorld_at_old w e s k hk
    · rintro k ⟨b, L, h1, _⟩
      rw [hgone] at h1; cases h1
    · rintro k ⟨b, L, h1, _⟩
      rw [hgone] at h1; cases h1
    · intro r c h
      rcases hcase r c h with ⟨rfl, _⟩ | h
      · exact .inr (.inr (Nat.le_refl _))
      · exact .inl h
    · intro b
      rw [hgone]; trivial
    · intro b b2 L L2 _ h1
      rw [hgone] at h1; cases h1
    · intro r c h
      rcases hcase r c h with ⟨rfl, rfl⟩ | h
      · exact ⟨_, _, Lib.bytesWorld_at_new w e s⟩
      · obtain ⟨t1, f1, hh⟩ := hsim.fro r c h
        exact ⟨t1, f1, by rw [Lib.bytesWorld_at_old w e s r (hlt r c h)]; exact hh⟩
    · intro b L r c h1
      rw [hgone] at h1; cases h1
end
/-- A string's bytes, as elements of a row. -/
def bytesU (s : ByteArray) : List U8 := s.data.toList.map fun b => ⟨b.toNat⟩
theorem rows_bytesU (s : ByteArray) : rows (bytesU s) = bytesL s := by
  unfold bytesU bytesL
  induction s.data.toList with
  | nil => rfl
  | cons b l ih =>
    rw [List.map_cons, List.map_cons, ← ih]
    rfl
def sbyAt (P : Program) (s : VS) : Option ByteArray := match opAt s with
  | some o => match o.op with
    | .convert src dst x => bif okConst x then (match evalC s.slots x, P.underlying src, P.underlying dst with
      | .string b, some .string, some (.slice e) => (match P.underlying e with
        | some (.int .u8) => some b
        | _ => none)
      | _, _, _ => none) else none
    | _ => none
  | none => none
section
variable {P : Program} {f : FuncId} {n0 : Nat} {ρ : Type} {E : ρ → Value} {s : VS} {T : Option ρ}
theorem L.strBytes (hm : P.follows .mixedOrders = true) (n' : Nat) (b : ByteArray) (hs : sbyAt P (vadv P n' s) = some b) (hk : Lifts P f n0 E (afterOne (vadv P n' s) (lst (bytesU b))) T) : Lifts P f n0 E s T := fun r hr => by
  refine RunsE.adv hm n' ?_
  have h2 := hk r hr
  unfold sbyAt at hs
  unfold afterOne at h2
  split at hs
  · rename_i o ho
    simp only [ho, fv_eq] at h2
    split at hs
    · rename_i src dst x hop
      cases hc : okConst x with
      | false => rw [hc] at hs; cases hs
      | true =>
        rw [hc, cond_true] at hs
        split at hs
        · rename_i b1 e hx hs1 hs2
          split at hs
          · rename_i hs3
            obtain rfl := Option.some.inj hs
            have hok := OpOk.strBytes (o := o) (a := (vadv P n' s).slots) (m := (vadv P n' s).mem) hop hc hx hs1 hs2 hs3
            have e2 : lst (bytesU b1) = frz b1.size (bytesL b1) := by
              unfold lst
              rw [rows_bytesU]
              congr 1
              unfold bytesU
              rw [List.length_map]
              rfl
            rw [← e2] at hok
            exact RunsE.op o ho hok h2
          · cases hs
        · cases hs
    · cases hs
  · cases hs
end
end Go.Dt
