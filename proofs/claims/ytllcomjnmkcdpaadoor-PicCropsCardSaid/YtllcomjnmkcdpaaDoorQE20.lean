/- Nil slices within a callee's arguments. -/
import Derived.Test.YtllcomjnmkcdpaaDoorQE19
namespace Go.Dt
set_option linter.unusedVariables false
section
variable {P : Program} {f : FuncId} {n0 : Nat} {ρ : Type} {E : ρ → Value} {s : VS} {T : Option ρ}
end
end Go.Dt
