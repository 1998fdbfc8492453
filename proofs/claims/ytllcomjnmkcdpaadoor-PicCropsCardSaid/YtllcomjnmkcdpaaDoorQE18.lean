/- Several texts in one: Dt43, Dt44, Dt45. -/
import Derived.Test.YtllcomjnmkcdpaaDoorQE17
namespace Go.Dt

section
open Go.RowKit
set_option linter.unusedVariables false

/-- From the state s the function returns E r and leaves M r, where the mirror says r. -/
def LiftsM (P : Program) (f : FuncId) (n0 : Nat) {ρ : Type} (E : ρ → Value) (M : ρ → List Blk) (s : VS) (o : Option ρ) : Prop := ∀ r, o = some r → RunsQ (fun m => m = M r) P f n0 s (E r)

section
variable {P : Program} {f : FuncId} {n0 : Nat} {ρ : Type} {E : ρ → Value} {M : ρ → List Blk} {s : VS} {T T1 T2 : Option ρ}
theorem LM.no : LiftsM P f n0 E M s Option.none := fun r h => by cases h
theorem LM.ret (fn : Func) (hm : P.follows .mixedOrders = true) (hf : P.funcs[f]? = some fn) {r0 : ρ} (v : Value) (h : retOf P fn (go P s) = some v) (e : v = E r0) (hq : (go P s).mem = M r0) : LiftsM P f n0 E M s (some r0) := fun r hr => by
  cases hr
  subst e
  exact Q.fin hm hf h hq
theorem LM.br (hm : P.follows .mixedOrders = true) (n : Nat) (b : Bool) (hs : condOf (vadv P n s) = some b) (h1 : b = true → LiftsM P f n0 E M (goC (vadv P n s) true) T1) (h0 : b = false → LiftsM P f n0 E M (goC (vadv P n s) false) T2) :
    LiftsM P f n0 E M s (bif b then T1 else T2) := fun r hr => by
  refine Q.branch hm n b hs (fun h => ?_) (fun h => ?_)
  · subst h; exact h1 rfl r hr
  · subst h; exact h0 rfl r hr
theorem LM.gu (hm : P.follows .mixedOrders = true) (n : Nat) (b : Bool) (hs : guardB (vadv P n s) = some b) (h1 : b = true → LiftsM P f n0 E M (setG (vadv P n s) true) T1) (h0 : b = false → LiftsM P f n0 E M (setG (vadv P n s) false) T2) :
    LiftsM P f n0 E M s (bif b then T1 else T2) := fun r hr => by
  refine Q.guard hm n b hs (fun h => ?_) (fun h => ?_)
  · subst h; exact h1 rfl r hr
  · subst h; exact h0 rfl r hr
theorem LM.callO (hm : P.follows .mixedOrders = true) {U : Type} {G : Option U} {k : U → Option ρ} {g : FuncId} {args : List Value} (eu : U → Value) (c : ∀ u, G = some u → Con P g args (eu u)) (hs : callAt (go P s) = some (g, args))
    (h : ∀ u, G = some u → LiftsM P f n0 E M (afterCall (go P s) (eu u)) (k u)) : LiftsM P f n0 E M s (G.bind k) := fun r hr => by
  cases hG : G with
  | none => rw [hG] at hr; cases hr
  | some u =>
    rw [hG] at hr
    exact Q.call hm (c u hG) hs (h u hG r hr)
theorem LM.jump (hm : P.follows .mixedOrders = true) (n : Nat) (ks : List Nat) {st : VS} (e : keepS ks (vadv P n s) = st) (h : LiftsM P f n0 E M st T) : LiftsM P f n0 E M s T := fun r hr => Q.at hm n ks e (h r hr)
theorem LM.jumpG (hm : P.follows .mixedOrders = true) (n : Nat) (ks : List Nat) {st : VS} (Es : List Ent) (cs : List (List Value)) (e : gcS Es (keepS ks (vadv P n s)) = st)
    (hE : okE Es (keepS ks (vadv P n s)).mem (Es.map (downB Es (keepS ks (vadv P n s)).mem)) = true) (hv : viewsB Es (keepS ks (vadv P n s)).mem = cs) (hcs : puresAll cs) (hfirst : firstE Es (keepS ks (vadv P n s)).mem n0 = true) (hs : isNormS (keepS ks (vadv P n s)) = true)
    (h : LiftsM P f n0 E M st T) : LiftsM P f n0 E M s T := fun r hr =>
  RunsQ.adv hm n (RunsQ.forget ks (RunsQ.gc Es hE (views_okP hv hcs) hfirst hs (e ▸ h r hr)))
end
section
variable {P : Program} {f : FuncId} {n0 : Nat} {ρ : Type} {E : ρ → Value} {s : VS}
end

end

section
open Go.RowKit Go.Instr
set_option linter.unusedVariables false
set_option linter.unusedSimpArgs false

section
variable {P : Program} {o : Oper} {a : List Value} {m : List Blk}
end
section
variable {P : Program} {f : FuncId} {n0 : Nat} {ρ : Type} {E : ρ → Value} {s : VS} {T : Option ρ}
end

end

section
open Go.RowKit
set_option linter.unusedVariables false

section
variable {P : Program} {f : FuncId} {n0 : Nat} {ρ : Type} {E : ρ → Value} {s : VS}
end

end

end Go.Dt
