/- Several texts in one: Dt27, Dt28, Dt29. -/
import Derived.Test.YtllcomjnmkcdpaaDoorQE12
import Derived.Handed
namespace Go.Dt

section
open Go.RowKit Go.WideShapes Go.ChangeShapes Go.ChangeAt
set_option linter.unusedVariables false

section
variable {H : Type} {enc : TypeId × Value → H}

end

end

section
open Go.RowKit
set_option linter.unusedVariables false

section
variable {Φ : List Blk → Prop} {P : Program} {f : FuncId} {n0 : Nat}

end

end

section
open Go.RowKit
set_option linter.unusedVariables false

def boundI (a : List Value) : Option Operand → Option (Option Int)
  | none => some none
  | some y => bif okConst y then (match evalC a y with | .int _ n => some (some n) | _ => none) else none
def slAt (P : Program) (s : VS) : Option (Nat × Nat × Nat × Nat × Nat × Option Int × Option Int) := match opAt s with
  | some o => match o.op with
    | .slice t x lo hi none => bif okConst x then (match evalC s.slots x, P.underlying t with
      | .slice (some ⟨b, off, none⟩) len cap, some (.slice e) => (match szC P e, boundI s.slots lo, boundI s.slots hi, s.mem[b]? with
        | some size, some l, some h, some (.cells _ sz rw_) => bif !rw_ || Nat.beq sz size then some (b, off, len, cap, size, l, h) else none
        | _, _, _, _ => none)
      | _, _ => none) else none
    | _ => none
  | none => none

section
variable {Φ : List Blk → Prop} {P : Program} {f : FuncId} {n0 : Nat}

theorem boundI_ok {a : List Value} {x : Option Operand} {r : Option Int} {l d : Nat} (h : boundI a x = some r) (e : r.getD d = l) : (x = none ∧ l = d) ∨ ∃ (y : Operand) (k : IntKind), x = some y ∧ okConst y = true ∧ evalC a y = .int k l := by
  cases x with
  | none =>
    simp only [boundI, Option.some.injEq] at h
    subst h
    simp only [Option.getD_none] at e
    exact .inl ⟨rfl, by omega⟩
  | some y =>
    simp only [boundI] at h
    cases hc : okConst y with
    | false => simp [hc] at h
    | true =>
      rw [hc, cond_true] at h
      split at h
      · rename_i k n hy
        cases h
        simp only [Option.getD_some] at e
        subst e
        exact .inr ⟨y, k, rfl, hc, hy⟩
      · cases h

theorem slice_ok {s : VS} (b off len cap size l h : Nat) (lo hi : Option Int) (hs : slAt P s = some (b, off, len, cap, size, lo, hi)) (hl : lo.getD 0 = l) (hh : hi.getD len = h) (hlh : l ≤ h) (hhc : h ≤ cap) :
    ∃ o, opAt s = some o ∧ OpOk P o s.slots s.mem (.slice (some ⟨b, off + l * size, none⟩) (h - l) (cap - l)) s.mem ⟨[b], []⟩ := by
  unfold slAt at hs
  split at hs
  · rename_i o ho
    split at hs
    · rename_i t x lo' hi' hop
      cases hc : okConst x with
      | false => simp [hc] at hs
      | true =>
        rw [hc, cond_true] at hs
        split at hs
        · rename_i b' off' len' cap' e hx hu
          split at hs
          · rename_i size' l' h' c' sz rw_ hz hlo hhi hb
            cases hq : (!rw_ || Nat.beq sz size') with
            | false => simp [hq] at hs
            | true =>
              rw [hq, cond_true] at hs
              cases hs
              have hsz : rw_ = true → sz = size := fun hr => by
                subst hr
                simpa using hq
              have h1 := boundI_ok (l := l) (d := 0) hlo hl
              have h2 := boundI_ok (l := h) (d := len) hhi hh
              have h1' : (lo' = none ∧ l = 0) ∨ ∃ (k : IntKind) (y : Operand), lo' = some y ∧ okConst y = true ∧ evalC s.slots y = .int k l := h1.imp id fun ⟨y, k, h⟩ => ⟨k, y, h⟩
              have h2' : (hi' = none ∧ h = len) ∨ ∃ (k : IntKind) (y : Operand), hi' = some y ∧ okConst y = true ∧ evalC s.slots y = .int k h := h2.imp id fun ⟨y, k, h⟩ => ⟨k, y, h⟩
              refine ⟨o, ho, ?_⟩
              rcases h1' with g1 | ⟨k1, g1⟩
              · rcases h2' with g2 | ⟨k2, g2⟩
                · exact OpOk.sliceSl (kl := .i64) (kh := .i64) hop hc hx hb hu hz hsz (.inl g1) (.inl g2) hlh hhc
                · exact OpOk.sliceSl (kl := .i64) (kh := k2) hop hc hx hb hu hz hsz (.inl g1) (.inr g2) hlh hhc
              · rcases h2' with g2 | ⟨k2, g2⟩
                · exact OpOk.sliceSl (kl := k1) (kh := .i64) hop hc hx hb hu hz hsz (.inr g1) (.inl g2) hlh hhc
                · exact OpOk.sliceSl (kl := k1) (kh := k2) hop hc hx hb hu hz hsz (.inr g1) (.inr g2) hlh hhc
          · cases hs
        · cases hs
    · cases hs
  · cases hs

/-- A slice, cut at numbers that are not known. -/
theorem R.slice {s : VS} {v : Value} (hm : P.follows .mixedOrders = true) (n' : Nat) (b off len cap size : Nat) (lo hi : Option Int) (l h : Nat) (u : Value) (hs : slAt P (vadv P n' s) = some (b, off, len, cap, size, lo, hi)) (hl : lo.getD 0 = l) (hh : hi.getD len = h) (hlh : l ≤ h) (hhc : h ≤ cap)
    (hu : Value.slice (some ⟨b, off + l * size, none⟩) (h - l) (cap - l) = u) (hr : RunsE P f n0 (afterRd (vadv P n' s) b u) v) : RunsE P f n0 s v := by
  obtain ⟨o, ho, hok⟩ := slice_ok b off len cap size l h lo hi hs hl hh hlh hhc
  subst hu
  refine RunsE.adv hm n' (RunsE.op o ho hok ?_)
  unfold afterRd at hr
  simpa only [ho, fv_eq] using hr
theorem Q.slice {s : VS} {v : Value} (hm : P.follows .mixedOrders = true) (n' : Nat) (b off len cap size : Nat) (lo hi : Option Int) (l h : Nat) (u : Value) (hs : slAt P (vadv P n' s) = some (b, off, len, cap, size, lo, hi)) (hl : lo.getD 0 = l) (hh : hi.getD len = h) (hlh : l ≤ h) (hhc : h ≤ cap)
    (hu : Value.slice (some ⟨b, off + l * size, none⟩) (h - l) (cap - l) = u) (hr : RunsQ Φ P f n0 (afterRd (vadv P n' s) b u) v) : RunsQ Φ P f n0 s v := by
  obtain ⟨o, ho, hok⟩ := slice_ok b off len cap size l h lo hi hs hl hh hlh hhc
  subst hu
  refine RunsQ.adv hm n' (RunsQ.op o ho hok ?_)
  unfold afterRd at hr
  simpa only [ho, fv_eq] using hr
end

end

end Go.Dt
