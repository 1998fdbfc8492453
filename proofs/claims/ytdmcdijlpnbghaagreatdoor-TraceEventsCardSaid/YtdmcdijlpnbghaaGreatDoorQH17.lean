/- Several texts in one: Dt45, Dt46, Dt60. -/
import Derived.Test.YtdmcdijlpnbghaaGreatDoorQH16
import Derived.Lib.ConvBytes
namespace Go.Dt

section
open Go.RowKit
set_option linter.unusedVariables false

section
variable {P : Program} {f : FuncId} {n0 : Nat} {ρ : Type} {E : ρ → Value} {s : VS}
theorem L.callPO (hm : P.follows .mixedOrders = true) {U : Type} {G : Option U} {k : U → Option ρ} {g : FuncId} {vs : List Value} {mf : List Blk} (Es : List Ent) (pl : List Nat) (cs : List (List Value)) (eu : U → Value) (mu : U → List Blk) (c : ∀ u, G = some u → ConM P g vs mf (eu u) (mu u)) (hs : downAt Es (go P s) = some (g, vs, mf))
    (hE : ∀ u, okE Es (go P s).mem (mu u) = true) (hv : viewsB Es (go P s).mem = cs) (hcs : puresAll cs) (hpl : ∀ u, puresAll (plB pl (mu u)))
    (h : ∀ u, G = some u → Lifts P f n0 E (afterM Es pl (go P s) (upV (back (kap Es) Es.length (mu u).length (go P s).mem.length) (eu u)) (mu u)) (k u)) : Lifts P f n0 E s (G.bind k) := fun r hr => by
  cases hG : G with
  | none => rw [hG] at hr; cases hr
  | some u =>
    rw [hG] at hr
    obtain ⟨_, hf, hn⟩ := (c u hG).fn
    exact RunsE.adv hm _ (RunsE.callM Es pl vs mf hf hs hn (hE u) (views_okP hv hcs) (pl_okP (hpl u)) (lift_up _ _) (c u hG).eq (h u hG r hr))
end

end

section
open Go.RowKit Go.Instr
set_option linter.unusedVariables false
set_option linter.unusedSimpArgs false

section
variable {P : Program} {o : Oper} {a : List Value} {m : List Blk}
end
section
variable {P : Program} {f : FuncId} {n0 : Nat} {ρ : Type} {E : ρ → Value} {s : VS} {T : Option ρ}
end

end

section
set_option linter.unusedVariables false
set_option linter.unusedSimpArgs false

section
variable {P : Program} {f : FuncId} {n0 : Nat}

section
variable {ρ : Type} {E : ρ → Value} {s : VS} {T : Option ρ} {α : Type} [F : Flat α]
end
end

end

end Go.Dt
