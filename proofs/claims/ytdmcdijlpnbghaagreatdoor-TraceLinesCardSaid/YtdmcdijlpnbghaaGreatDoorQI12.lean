/- Several texts in one: Dt26, Dt27, Dt28. -/
import Derived.Test.YtdmcdijlpnbghaaGreatDoorQI11
import Derived.Handed
namespace Go.Dt

section
open Go.RowKit
set_option linter.unusedVariables false

def plainsAll : List (List Value) → Prop
  | [] => True
  | c :: l => plains c = true ∧ plainsAll l
/-- The cells of the blocks that are handed on as plain ones. -/
def viewsB : List Ent → List Blk → List (List Value)
  | [], _ => []
  | e :: E, m => bif e.plain then (match m[e.blk]? with
    | some (.cells c _ _) => c :: viewsB E m
    | _ => viewsB E m) else viewsB E m
def plB : List Nat → List Blk → List (List Value)
  | [], _ => []
  | i :: l, m => match m[i]? with
    | some (.cells c _ _) => c :: plB l m
    | _ => plB l m

theorem pl_ok : ∀ {l : List Nat} {m : List Blk}, plainsAll (plB l m) → ∀ i, i ∈ l → plainAt m i
  | [], _, _, _, h => by cases h
  | j :: l, m, hp, i, hi => by
    unfold plB at hp
    rcases List.mem_cons.1 hi with rfl | hi
    · intro c sz r hb
      rw [hb] at hp
      exact pures_of_plains _ hp.1
    · split at hp
      · exact pl_ok hp.2 i hi
      · exact pl_ok hp i hi

def puresAll : List (List Value) → Prop
  | [] => True
  | c :: l => pures c = true ∧ puresAll l
theorem views_okP : ∀ {E : List Ent} {m : List Blk} {cs : List (List Value)}, viewsB E m = cs → puresAll cs → ∀ e, e ∈ E → e.plain = true → plainAt m e.blk
  | [], _, _, _, _, _, h, _ => by cases h
  | e :: E, m, cs, hv, hp, e', he, hpl => by
    unfold viewsB at hv
    rcases List.mem_cons.1 he with rfl | he
    · rw [hpl, cond_true] at hv
      intro c sz r hb
      rw [hb] at hv
      subst hv
      exact hp.1
    · cases hq : e.plain with
      | false => rw [hq, cond_false] at hv; exact views_okP hv hp e' he hpl
      | true =>
        rw [hq, cond_true] at hv
        split at hv
        · subst hv; exact views_okP rfl hp.2 e' he hpl
        · exact views_okP hv hp e' he hpl
theorem pl_okP : ∀ {l : List Nat} {m : List Blk}, puresAll (plB l m) → ∀ i, i ∈ l → plainAt m i
  | [], _, _, _, h => by cases h
  | j :: l, m, hp, i, hi => by
    unfold plB at hp
    rcases List.mem_cons.1 hi with rfl | hi
    · intro c sz r hb
      rw [hb] at hp
      exact hp.1
    · split at hp
      · exact pl_okP hp.2 i hi
      · exact pl_okP hp i hi

section
variable {Φ : List Blk → Prop} {P : Program} {f : Fr} {n0 : Nat}

/-- A function's contract, of which what is behind its blocks is told only in part. -/
theorem ConM.val {g : FuncId} {args : List Value} {m m' : List Blk} {u u' : Value} (h : ConM P g args m u m') (hu : u = u') : ConM P g args m u' m' := hu ▸ h

/-- Of the memory at the end, so many blocks are kept. -/
def keepM (ks pl : List Nat) (m1 : List Blk) : List Blk := ks.map fun b => upB (keepAt ks) (pl.any (Nat.beq b)) (m1.getD b .gone)
theorem ConM.keep {f : FuncId} {fn : Func} {args : List Value} {m m1 m2 : List Blk} {v u : Value} (ks pl : List Nat) (hf : P.funcs[f]? = some fn) (hn : ((fn.name == "runtime.NumGoroutine") || fn.body.isNone) = false)
    (hpre : ((List.range m.length).all fun i => match ks[i]? with | some j => Nat.beq i j | none => false) = true) (hnd : ks.Nodup) (hpl : plainsAll (plB pl m1)) (hu : upV (keepAt ks) v = u) (hk : keepM ks pl m1 = m2)
    (h : RunsQ (fun x => x = m1) P (.fn0 f) m.length (entry fn args m) v) : ConM P f args m u m2 where
  eq := by
    obtain ⟨m', h, rfl⟩ := h
    have hb : fn.body.isSome = true := by
      rw [Bool.or_eq_false_iff] at hn
      cases hb : fn.body with
      | none => rw [hb] at hn; cases hn.2
      | some c => rfl
    refine FnEq.drop ks (FnEq.of_runs hf hb h) (fun i hi => ?_) hnd (by subst hk; simp [keepM]) (by subst hu; exact lift_up _ _) (fun j b hj => ?_)
    · have := List.all_eq_true.1 hpre i (by simpa using hi)
      split at this
      · rename_i j hj; rw [hj, Nat.eq_of_beq_eq_true this]
      · cases this
    · subst hk
      have e : (keepM ks pl m').getD j .gone = upB (keepAt ks) (pl.any (Nat.beq b)) (m'.getD b .gone) := by
        unfold keepM
        rw [List.getD_eq_getElem?_getD, List.getElem?_map, hj]; rfl
      rw [e]
      refine blift_up _ fun hp c sz r hc => ?_
      rw [List.any_eq_true] at hp
      obtain ⟨b', hm, he⟩ := hp
      have := Nat.eq_of_beq_eq_true he
      subst this
      refine pl_ok hpl b hm c sz r ?_
      rw [List.getD_eq_getElem?_getD] at hc
      cases hx : m'[b]? with
      | none => rw [hx] at hc; cases hc
      | some y => rw [hx] at hc; exact congrArg some hc
  fn := ⟨fn, hf, hn⟩

end

end

section
open Go.RowKit Go.WideShapes Go.ChangeShapes Go.ChangeAt
set_option linter.unusedVariables false

section
variable {H : Type} {enc : TypeId × Value → H}

end

end

section
open Go.RowKit
set_option linter.unusedVariables false

section
variable {Φ : List Blk → Prop} {P : Program} {f : Fr} {n0 : Nat}

end

end

end Go.Dt
