/- Products of words, and what is known of awake, in the lifting tool's form. -/
import Derived.Test.YtjfodgjgpeiaaaaLB
import Derived.Test.YtjfodgjgpeiaaaaLA
import Derived.Test.YtjfodgjgpeiaaaaWC
namespace Go.Proofs.Ytjfodgjgpeiaaaa.Lf
open Go Go.Dt Go.Proofs Go.Proofs.Ytjfodgjgpeiaaaa.Wide
set_option linter.unusedVariables false
def inU (x : Int) : Bool := decide (0 ≤ x) && decide (x ≤ 18446744073709551615)
def F72 (K : Nat) (x y : Int) : Option (Int × Int) := bif inU x && inU y then some (x * y / 18446744073709551616, x * y % 18446744073709551616) else none
theorem k72 (K : Nat) (x y : Int) : ∀ r, F72 K x y = some r → Con Try.prog 72 [.int .u64 x, .int .u64 y] (.tuple ⟨[.int .u64 r.1, .int .u64 r.2]⟩) := fun r hr => by
  unfold F72 at hr
  cases h : (inU x && inU y) with
  | false => rw [h] at hr; cases hr
  | true =>
    rw [h] at hr; cases hr
    simp only [inU, Bool.and_eq_true, decide_eq_true_eq] at h
    exact Con.of Try.func72 rfl rfl (mul64_ x y h.1.1 h.1.2 h.2.1 h.2.2)
def F18 : Bool := true
theorem k18 : Con Try.prog 18 [] (.bool F18) := Con.of Try.func18 rfl rfl (FnEq.eval mixed (X := []) (fun f e h => by simp at h) 3000 Try.func18 (by kernel_rfl) rfl (by kernel_rfl))
end Go.Proofs.Ytjfodgjgpeiaaaa.Lf
