/- WideSums, the walk. -/
import Derived.Test.YtjfodgjgpeiaaaaWF
namespace Go.Proofs.Ytjfodgjgpeiaaaa.Wide
open Go Go.Dt Go.Proofs

theorem sums_ (a b c d e f : Int) (a1 : -9223372036854775808 ≤ a) (a2 : a ≤ 9223372036854775807) (b1 : -9223372036854775808 ≤ b) (b2 : b ≤ 9223372036854775807) (c1 : -9223372036854775808 ≤ c) (c2 : c ≤ 9223372036854775807)
    (d1 : 0 ≤ d) (d2 : d ≤ 18446744073709551615) (e1 : 0 ≤ e) (e2 : e ≤ 18446744073709551615) (f1 : 0 ≤ f) (f2 : f ≤ 18446744073709551615) :
    FnEq Try.prog 11 [.agg #[.int .i64 a, .int .i64 b, .int .i64 c], .agg #[.int .u64 d, .int .u64 e, .int .u64 f]] [] (.bool true) [] := by
  refine FnEq.run Try.func11 rfl rfl ?_
  have t1 := c_two a d a1 a2 d1 d2
  have t2 := c_two b e b1 b2 e1 e2
  have t3 := c_two c f c1 c2 f1 f2
  generalize a * 18446744073709551616 + d = A at t1
  generalize b * 18446744073709551616 + e = B at t2
  generalize c * 18446744073709551616 + f = C at t3
  exact R.call mixed t1 (by kernel_rfl) <| R.call mixed t2 (by kernel_rfl) <| R.call mixed t3 (by kernel_rfl) <|
    R.call mixed (c_add A B) (by kernel_rfl) <| R.call mixed (c_D (A + B)) (by kernel_rfl) <| R.call mixed (c_D A) (by kernel_rfl) <| R.call mixed (c_D B) (by kernel_rfl) <| R.call mixed (c_radd A B) (by kernel_rfl) <|
    R.guardIs mixed 2 (!eqs (digs (A + B)) (digs (A + B))) false (by rw [eqs_self]; rfl) (by kernel_rfl) <|
    R.call mixed (c_neg A) (by kernel_rfl) <| R.call mixed (c_D (-A)) (by kernel_rfl) <| R.call mixed (c_D A) (by kernel_rfl) <| R.call mixed (c_rneg A) (by kernel_rfl) <|
    R.guardIs mixed 3 (!eqs (digs (-A)) (digs (-A))) false (by rw [eqs_self]; rfl) (by kernel_rfl) <|
    R.call mixed (c_cmp A B) (by kernel_rfl) <| R.call mixed (c_D A) (by kernel_rfl) <| R.call mixed (c_D B) (by kernel_rfl) <| R.call mixed (c_rcmp A B) (by kernel_rfl) <|
    R.cond mixed 3 (cmpI (sg A) (sg B) != cmpI (sg A) (sg B)) false (by simp) (by kernel_rfl) <|
    R.callM mixed [.win 5 0 6 false] (c_sum3 A B C) (by kernel_rfl) (by kernel_rfl) rfl <|
    R.call mixed (c_add A B) (by kernel_rfl) <| R.call mixed (c_add (A + B) C) (by kernel_rfl) <|
    R.guardIs mixed 2 (eqs (wl (0 + A + B + C)) (wl (A + B + C))) true (eqs_of (by rw [Int.zero_add])) (by kernel_rfl) <|
    R.call mixed c_sum0 (by kernel_rfl) <| R.call mixed (c_neg A) (by kernel_rfl) <| R.call mixed (c_add A (-A)) (by kernel_rfl) <|
    R.guardIs mixed 4 (eqs (wl (A + -A)) [0, 0]) true (by rw [show A + -A = 0 by omega]; rfl) (by kernel_rfl) <|
    R.call mixed (c_cmp A A) (by kernel_rfl) <| R.guardIs mixed 3 (cmpI (sg A) (sg A) == 0) true (by simp [cmpI_self]) (by kernel_rfl) <|
    R.call mixed (c_cmp A B) (by kernel_rfl) <| R.call mixed (c_cmp B A) (by kernel_rfl) <|
    R.guardIs mixed 4 (cmpI (sg A) (sg B) == IntKind.i64.wrap (0 - cmpI (sg B) (sg A))) true (by
      rw [cmpI_anti (sg A) (sg B)]
      have : cmpI (sg B) (sg A) = 0 ∨ cmpI (sg B) (sg A) = -1 ∨ cmpI (sg B) (sg A) = 1 := by
        unfold cmpI; split
        · simp
        · split <;> simp
      rcases this with h | h | h <;> rw [h] <;> decide) (by kernel_rfl) <|
    R.call mixed c_awake (by kernel_rfl) <| R.fin mixed Try.func11 (by kernel_rfl)

end Go.Proofs.Ytjfodgjgpeiaaaa.Wide
