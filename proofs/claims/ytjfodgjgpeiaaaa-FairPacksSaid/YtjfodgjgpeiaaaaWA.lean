/- Package wide and its reference: numbers and digits as values; sums, negatives, comparisons. -/
import Derived.Test.YtjfodgjgpeiaaaaDt14
import Derived.Test.YtjfodgjgpeiaaaaProg
namespace Go.Proofs.Ytjfodgjgpeiaaaa.Wide
open Go Go.Dt Go.Proofs

theorem mixed : Try.prog.follows .mixedOrders = true := by kernel_rfl

/-- A wide number, modulo 2^128. -/
def WI (z : Int) : Value := .agg #[.int .i64 (IntKind.i64.wrap (z / 18446744073709551616)), .int .u64 (z % 18446744073709551616)]
/-- Its digits to the base 2^16. -/
def DI (z : Int) : Value := .agg #[.int .i64 (z % 65536), .int .i64 (z / 65536 % 65536), .int .i64 (z / 4294967296 % 65536), .int .i64 (z / 281474976710656 % 65536),
  .int .i64 (z / 18446744073709551616 % 65536), .int .i64 (z / 1208925819614629174706176 % 65536), .int .i64 (z / 79228162514264337593543950336 % 65536), .int .i64 (z / 5192296858534827628530496329220096 % 65536)]

theorem plain_WI (z : Int) : plain (WI z) = true := rfl
theorem plain_DI (z : Int) : plain (DI z) = true := rfl

/-- Two halves, as a number. -/
theorem WI_two {h l : Int} (h1 : -9223372036854775808 ≤ h) (h2 : h ≤ 9223372036854775807) (l1 : 0 ≤ l) (l2 : l ≤ 18446744073709551615) : WI (h * 18446744073709551616 + l) = .agg #[.int .i64 h, .int .u64 l] := by
  unfold WI
  have e1 : (h * 18446744073709551616 + l) / 18446744073709551616 = h := by omega
  have e2 : (h * 18446744073709551616 + l) % 18446744073709551616 = l := by omega
  rw [e1, e2, wrap_i64_of h1 h2]

theorem WI_mod {a b : Int} (h : a % 340282366920938463463374607431768211456 = b % 340282366920938463463374607431768211456) : WI a = WI b := by
  unfold WI
  have e1 : a % 18446744073709551616 = b % 18446744073709551616 := by omega
  have e2 : IntKind.i64.wrap (a / 18446744073709551616) = IntKind.i64.wrap (b / 18446744073709551616) := by
    rw [IntKind.wrap_i64, IntKind.wrap_i64]; omega
  rw [e1, e2]

theorem of_ (n : Int) (h1 : -9223372036854775808 ≤ n) (h2 : n ≤ 9223372036854775807) : FnEq Try.prog 38 [.int .i64 n] [] (WI n) [] :=
  FnEq.run Try.func38 (by kernel_rfl) rfl <| RunsE.adv mixed 10 <| RunsE.branch (decide (n < 0)) (by kernel_rfl)
    (fun h => by
      have hn : n < 0 := by simpa using h
      have e : WI n = .agg #[.int .i64 (-1), .int .u64 (IntKind.u64.wrap n)] := by
        unfold WI
        have e1 : n / 18446744073709551616 = -1 := by omega
        rw [e1, wrap_u64]; rfl
      rw [e]
      exact RunsE.fin mixed Try.func38 1000 (by kernel_rfl))
    (fun h => by
      have hn : ¬ n < 0 := by simpa using h
      have e : WI n = .agg #[.int .i64 0, .int .u64 (IntKind.u64.wrap n)] := by
        unfold WI
        have e1 : n / 18446744073709551616 = 0 := by omega
        rw [e1, wrap_u64]; rfl
      rw [e]
      exact RunsE.fin mixed Try.func38 1000 (by kernel_rfl))

theorem two_ (h l : Int) (_ : -9223372036854775808 ≤ h) (_ : h ≤ 9223372036854775807) (l1 : 0 ≤ l) (l2 : l ≤ 18446744073709551615) : FnEq Try.prog 34 [.int .i64 h, .int .u64 l] [] (DI (h * 18446744073709551616 + l)) [] := by
  refine (FnEq.straight (v := .agg #[.int .i64 (IntKind.i64.wrap (l.tmod 65536)), .int .i64 (IntKind.i64.wrap ((IntKind.u64.wrap (l.tdiv 65536)).tmod 65536)),
    .int .i64 (IntKind.i64.wrap ((IntKind.u64.wrap ((IntKind.u64.wrap (l.tdiv 65536)).tdiv 65536)).tmod 65536)),
    .int .i64 (IntKind.i64.wrap ((IntKind.u64.wrap ((IntKind.u64.wrap ((IntKind.u64.wrap (l.tdiv 65536)).tdiv 65536)).tdiv 65536)).tmod 65536)),
    .int .i64 (IntKind.i64.wrap ((IntKind.u64.wrap h).tmod 65536)), .int .i64 (IntKind.i64.wrap ((IntKind.u64.wrap ((IntKind.u64.wrap h).tdiv 65536)).tmod 65536)),
    .int .i64 (IntKind.i64.wrap ((IntKind.u64.wrap ((IntKind.u64.wrap ((IntKind.u64.wrap h).tdiv 65536)).tdiv 65536)).tmod 65536)),
    .int .i64 (IntKind.i64.wrap ((IntKind.u64.wrap ((IntKind.u64.wrap ((IntKind.u64.wrap ((IntKind.u64.wrap h).tdiv 65536)).tdiv 65536)).tdiv 65536)).tmod 65536))]) mixed Try.func34 (by kernel_rfl) 1000 rfl (by kernel_rfl)).val ?_
  have hu := wrap_u64 h
  have hu0 : 0 ≤ IntKind.u64.wrap h := by omega
  have hu1 : IntKind.u64.wrap h ≤ 18446744073709551615 := by omega
  generalize hg : IntKind.u64.wrap h = u at *
  have d1 : ∀ x : Int, 0 ≤ x → x ≤ 18446744073709551615 → IntKind.u64.wrap (x.tdiv 65536) = x / 65536 := fun x hx hx2 => by
    rw [tdiv_pos hx]; exact wrap_u64_of (by omega) (by omega)
  have m1 : ∀ x : Int, 0 ≤ x → IntKind.i64.wrap (x.tmod 65536) = x % 65536 := fun x hx => by
    rw [tmod_pos hx]; exact wrap_i64_of (by omega) (by omega)
  have div0 : ∀ x : Int, 0 ≤ x → x ≤ 18446744073709551615 → 0 ≤ x / 65536 ∧ x / 65536 ≤ 18446744073709551615 := fun x _ _ => by omega
  rw [d1 l l1 l2, d1 u hu0 hu1]
  obtain ⟨la, lb⟩ := div0 l l1 l2
  obtain ⟨ua, ub⟩ := div0 u hu0 hu1
  rw [d1 _ la lb, d1 _ ua ub]
  obtain ⟨lc, ld⟩ := div0 _ la lb
  obtain ⟨uc, ud⟩ := div0 _ ua ub
  rw [d1 _ lc ld, d1 _ uc ud]
  obtain ⟨le, lf⟩ := div0 _ lc ld
  obtain ⟨ue, uf⟩ := div0 _ uc ud
  rw [m1 _ l1, m1 _ la, m1 _ lc, m1 _ le, m1 _ hu0, m1 _ ua, m1 _ uc, m1 _ ue]
  unfold DI
  congr 3
  · congr 1; omega
  congr 1
  · congr 1; omega
  congr 1
  · congr 1; omega
  congr 1
  · congr 1; omega
  congr 1
  · congr 1; omega
  congr 1
  · congr 1; omega
  congr 1
  · congr 1; omega
  congr 1
  congr 1; omega

end Go.Proofs.Ytjfodgjgpeiaaaa.Wide
