/- WideMuls: products agree with the digits' products. -/
import Derived.Test.YtjfodgjgpeiaaaaWD
import Derived.Test.YtjfodgjgpeiaaaaDt18
namespace Go.Proofs.Ytjfodgjgpeiaaaa.Wide
open Go Go.Dt Go.Proofs


theorem awake2 : FnEq Try.prog 32 [] [] (.bool true) [] := FnEq.eval mixed (X := [(73, add64Entry), (74, sub64Entry)]) (by
  intro f e h; simp at h; rcases h with ⟨rfl, rfl⟩ | ⟨rfl, rfl⟩ <;> first | exact e73 | exact e74) 300 Try.func32 (by kernel_rfl) rfl (by kernel_rfl)

def wl (z : Int) : List Int := [IntKind.i64.wrap (z / 18446744073709551616), z % 18446744073709551616]

theorem muls_ (a b : Int) (a1 : -9223372036854775808 ≤ a) (a2 : a ≤ 9223372036854775807) (b1 : -9223372036854775808 ≤ b) (b2 : b ≤ 9223372036854775807) : FnEq Try.prog 10 [.int .i64 a, .int .i64 b] [] (.bool true) [] :=
  FnEq.run Try.func10 (by kernel_rfl) rfl <|
    RunsE.adv mixed 7 <| RunsE.call [.int .i64 a] Try.func38 (by kernel_rfl) (by kernel_rfl) rfl (of_ a a1 a2) <|
    RunsE.adv mixed 0 <| RunsE.call [WI a] Try.func37 (by kernel_rfl) (by kernel_rfl) rfl (D_ a) <|
    RunsE.adv mixed 1 <| RunsE.call [.int .i64 a] Try.func39 (by kernel_rfl) (by kernel_rfl) rfl (rof_ a a1 a2) <|
    RunsE.adv mixed 2 <| RunsE.guardIs 11 (eqs (digs a) (digs a)) true (by kernel_rfl) (eqs_self _) <|
    RunsE.adv mixed 2 <| RunsE.call [.int .i64 a, .int .i64 b] Try.func40 (by kernel_rfl) (by kernel_rfl) rfl (mul_ a b a1 a2 b1 b2) <|
    RunsE.adv mixed 0 <| RunsE.call [WI (a * b)] Try.func37 (by kernel_rfl) (by kernel_rfl) rfl (D_ _) <|
    RunsE.adv mixed 1 <| RunsE.call [.int .i64 a] Try.func39 (by kernel_rfl) (by kernel_rfl) rfl (rof_ a a1 a2) <|
    RunsE.adv mixed 1 <| RunsE.call [.int .i64 b] Try.func39 (by kernel_rfl) (by kernel_rfl) rfl (rof_ b b1 b2) <|
    RunsE.adv mixed 0 <| RunsE.call [DI a, DI b] Try.func41 (by kernel_rfl) (by kernel_rfl) rfl (rmul_ a b) <|
    RunsE.adv mixed 3 <| RunsE.guardIs 23 (eqs (digs (a * b)) (digs (a * b))) true (by kernel_rfl) (eqs_self _) <|
    RunsE.adv mixed 2 <| RunsE.call [.int .i64 a, .int .i64 b] Try.func40 (by kernel_rfl) (by kernel_rfl) rfl (mul_ a b a1 a2 b1 b2) <|
    RunsE.adv mixed 2 <| RunsE.call [.int .i64 b, .int .i64 a] Try.func40 (by kernel_rfl) (by kernel_rfl) rfl (mul_ b a b1 b2 a1 a2) <|
    RunsE.adv mixed 3 <| RunsE.guardIs 32 (eqs (wl (a * b)) (wl (b * a))) true (by kernel_rfl) (eqs_of (by rw [Int.mul_comm])) <|
    RunsE.adv mixed 0 <| RunsE.call [] Try.func32 (by kernel_rfl) (by kernel_rfl) rfl awake2 <|
    RunsE.fin mixed Try.func10 1003 (by kernel_rfl)

end Go.Proofs.Ytjfodgjgpeiaaaa.Wide
