/- Several texts in one: Dt37, Dt38, Dt39. -/
import Derived.Test.YtllcomjnmkcdpaaDoorQD15
namespace Go.Dt

section
open Go.RowKit
set_option linter.unusedVariables false
set_option linter.unusedSimpArgs false

section
variable {P : Program} {o : Oper} {a : List Value} {m : List Blk}
variable {f : FuncId} {n0 : Nat} {ρ : Type} {E : ρ → Value} {s : VS} {T : Option ρ}
/-- A truth value that is not known is taken to be both. -/
def anyS (d : Nat) (b : Bool) : VS → VS
  | .norm todo a m => fl (a.set d (.bool b)) fun a' => .norm todo a' m
  | s => s
theorem Runs.anyB {v : Value} {m' : List Blk} (d : Nat) (hs : slotV d s = Dt.anyB) (h : ∀ b, Runs P f n0 (anyS d b s) v m') : Runs P f n0 s v m' := by
  cases s with
  | reg => exact h true
  | norm todo a m =>
    have hs : a.getD d undef = Dt.anyB := hs
    intro ι t w hr b cs hb hk
    have hv := hr.slots d
    rw [hs] at hv
    generalize hy : t.getD d undef = y at hv
    have key : ∀ b', y = .bool b' → Rel ι (a.set d (.bool b')) m t w := fun b' e => by
      refine ⟨by simpa using hr.size, fun x => ?_, hr.sim, hr.dom⟩
      by_cases hx : d = x
      · subst hx
        by_cases hda : d < a.length
        · rw [show (a.set d (.bool b')).getD d undef = .bool b' by simp [List.getD_eq_getElem?_getD, hda], hy, e]
          exact .bool b'
        · rw [List.set_eq_of_length_le (by omega)]
          exact hr.slots d
      · rw [show (a.set d (.bool b')).getD x undef = a.getD x undef by simp [List.getD_eq_getElem?_getD, List.getElem?_set_ne hx]]
        exact hr.slots x
    cases hv with
    | iface _ ht => exact absurd ht (by decide)
    | anyB b' =>
      have := h b'
      simp only [anyS, fl_eq] at this
      exact this ι t w (key b' rfl) b cs hb hk

/-- A slice written out, of no elements. -/
theorem L.none (hm : P.follows .mixedOrders = true) (n' : Nat) (size : Nat) (hs : bnAt P (vadv P n' s) = some size) (h : Lifts P f n0 E (afterAp (vadv P n' s) (.slice (some ⟨(vadv P n' s).mem.length, 0, Option.none⟩) 0 0) ((vadv P n' s).mem ++ [.cells [] size true]) ⟨[], []⟩) T) : Lifts P f n0 E s T := fun r hr => R.none hm n' size hs (h r hr)

variable {α : Type} [F : Flat α]
end

end

section
open Go.RowKit
set_option linter.unusedVariables false
set_option linter.unusedSimpArgs false

section
variable {P : Program} {f : FuncId} {n0 : Nat} {ρ : Type} {E : ρ → Value} {s : VS} {T0 T1 : Option ρ}
variable {α : Type} [F : Flat α]
end

end

section
open Go.RowKit
set_option linter.unusedVariables false
set_option linter.unusedSimpArgs false

section
variable {P : Program}
variable {α : Type} [F : Flat α]
variable {f : FuncId} {n0 : Nat} {ρ : Type} {E : ρ → Value} {s : VS} {T : Option ρ}
end

end

end Go.Dt
