/- Package wide and its reference: negatives, comparisons, sums of lists; WideSums. -/
import Derived.Test.YtfkmhhbpomkakaaWE2
namespace Go.Proofs.Ytfkmhhbpomkakaa.Wide
open Go Go.Dt Go.Proofs

/-- The signed number of 128 bits. -/
def sg (z : Int) : Int := (z + 170141183460469231731687303715884105728) % 340282366920938463463374607431768211456 - 170141183460469231731687303715884105728
def cmpI (a b : Int) : Int := if a = b then 0 else if a < b then -1 else 1

theorem below_ (z : Int) : Con Try.prog 160 [DI z] (.bool (decide (sg z < 0))) :=
  (Con.run (v := .bool (decide (z / 5192296858534827628530496329220096 % 65536 ≥ 32768))) Try.func160 rfl rfl (R.fin mixed Try.func160 (by kernel_rfl))).val rfl (by
    congr 1
    have : (z / 5192296858534827628530496329220096 % 65536 ≥ 32768) ↔ sg z < 0 := by unfold sg; omega
    simp [this])

theorem digs_lt (a b : Int) : a % 340282366920938463463374607431768211456 < b % 340282366920938463463374607431768211456 ∨ b % 340282366920938463463374607431768211456 < a % 340282366920938463463374607431768211456 ∨ digs a = digs b := by
  by_cases h : a % 340282366920938463463374607431768211456 = b % 340282366920938463463374607431768211456
  · right; right
    unfold digs
    congr 1
    · omega
    congr 1
    · omega
    congr 1
    · omega
    congr 1
    · omega
    congr 1
    · omega
    congr 1
    · omega
    congr 1
    · omega
    congr 1
    omega
  · omega

theorem valD_digs (z : Int) : valD (digs z) = z % 340282366920938463463374607431768211456 := by simp only [digs, valD]; omega

theorem less_ (A B : Int) : Con Try.prog 158 [DI A, DI B] (.bool (decide (A % 340282366920938463463374607431768211456 < B % 340282366920938463463374607431768211456))) := by
  have key : ∀ a0 a1 a2 a3 a4 a5 a6 a7 b0 b1 b2 b3 b4 b5 b6 b7 : Int, Dig [a0, a1, a2, a3, a4, a5, a6, a7] → Dig [b0, b1, b2, b3, b4, b5, b6, b7] →
      RunsE Try.prog 158 0 (entry Try.f158 [V8 [a0, a1, a2, a3, a4, a5, a6, a7], V8 [b0, b1, b2, b3, b4, b5, b6, b7]] []) (.bool (decide (valD [a0, a1, a2, a3, a4, a5, a6, a7] < valD [b0, b1, b2, b3, b4, b5, b6, b7]))) := by
    intro a0 a1 a2 a3 a4 a5 a6 a7 b0 b1 b2 b3 b4 b5 b6 b7 ha hb
    have p0 := ha a0 (by simp); have p1 := ha a1 (by simp); have p2 := ha a2 (by simp); have p3 := ha a3 (by simp)
    have p4 := ha a4 (by simp); have p5 := ha a5 (by simp); have p6 := ha a6 (by simp); have p7 := ha a7 (by simp)
    have q0 := hb b0 (by simp); have q1 := hb b1 (by simp); have q2 := hb b2 (by simp); have q3 := hb b3 (by simp)
    have q4 := hb b4 (by simp); have q5 := hb b5 (by simp); have q6 := hb b6 (by simp); have q7 := hb b7 (by simp)
    generalize hx : valD [a0, a1, a2, a3, a4, a5, a6, a7] = X
    generalize hy : valD [b0, b1, b2, b3, b4, b5, b6, b7] = Y
    simp only [valD] at hx hy
    have sw : ∀ {x y a b : Int} {s : VS}, (a ≠ b → (a < b ↔ x < y)) → (a != b) = true → RunsE Try.prog 158 0 s (.bool (decide (a < b))) → RunsE Try.prog 158 0 s (.bool (decide (x < y))) := by
      intro x y a b s h hne hr
      have : decide (a < b) = decide (x < y) := decide_eq_decide.2 (h (by simpa using hne))
      rwa [this] at hr
    refine R.branch mixed 33 (a7 != b7) (by kernel_rfl) (fun h => sw (fun _ => by omega) h (R.fin mixed Try.func158 (by kernel_rfl))) (fun h7 => ?_)
    refine R.branch mixed 28 (a6 != b6) (by kernel_rfl) (fun h => sw (fun _ => by simp at h7; omega) h (R.fin mixed Try.func158 (by kernel_rfl))) (fun h6 => ?_)
    refine R.branch mixed 28 (a5 != b5) (by kernel_rfl) (fun h => sw (fun _ => by simp at h7 h6; omega) h (R.fin mixed Try.func158 (by kernel_rfl))) (fun h5 => ?_)
    refine R.branch mixed 28 (a4 != b4) (by kernel_rfl) (fun h => sw (fun _ => by simp at h7 h6 h5; omega) h (R.fin mixed Try.func158 (by kernel_rfl))) (fun h4 => ?_)
    refine R.branch mixed 28 (a3 != b3) (by kernel_rfl) (fun h => sw (fun _ => by simp at h7 h6 h5 h4; omega) h (R.fin mixed Try.func158 (by kernel_rfl))) (fun h3 => ?_)
    refine R.branch mixed 28 (a2 != b2) (by kernel_rfl) (fun h => sw (fun _ => by simp at h7 h6 h5 h4 h3; omega) h (R.fin mixed Try.func158 (by kernel_rfl))) (fun h2 => ?_)
    refine R.branch mixed 28 (a1 != b1) (by kernel_rfl) (fun h => sw (fun _ => by simp at h7 h6 h5 h4 h3 h2; omega) h (R.fin mixed Try.func158 (by kernel_rfl))) (fun h1 => ?_)
    refine R.branch mixed 28 (a0 != b0) (by kernel_rfl) (fun h => sw (fun _ => by simp at h7 h6 h5 h4 h3 h2 h1; omega) h (R.fin mixed Try.func158 (by kernel_rfl))) (fun h0 => ?_)
    simp at h7 h6 h5 h4 h3 h2 h1 h0
    have : X = Y := by omega
    rw [this, decide_eq_false (Int.lt_irrefl _)]
    exact R.fin mixed Try.func158 (by kernel_rfl)
  refine Con.run Try.func158 rfl rfl ?_
  have := key _ _ _ _ _ _ _ _ _ _ _ _ _ _ _ _ (digs_dig A) (digs_dig B)
  have eA := valD_digs A
  have eB := valD_digs B
  change RunsE Try.prog 158 0 _ (.bool (decide (valD (digs A) < valD (digs B)))) at this
  rw [eA, eB] at this
  exact this

theorem c_radd (A B : Int) : Con Try.prog 156 [DI A, DI B] (DI (A + B)) := Con.of Try.func156 rfl rfl (radd_ A B)
theorem c_rof (n : Int) (h1 : -9223372036854775808 ≤ n) (h2 : n ≤ 9223372036854775807) : Con Try.prog 135 [.int .i64 n] (DI n) := Con.of Try.func135 rfl rfl (rof_ n h1 h2)
theorem c_neg (z : Int) : Con Try.prog 140 [WI z] (WI (-z)) := Con.of Try.func140 rfl rfl (neg_WI z)
theorem c_add (y z : Int) : Con Try.prog 106 [WI y, WI z] (WI (y + z)) := Con.of Try.func106 rfl rfl (add_WI y z)
def comp (z : Int) : List Int := [IntKind.i64.wrap (65535 - z % 65536), IntKind.i64.wrap (65535 - z / 65536 % 65536), IntKind.i64.wrap (65535 - z / 4294967296 % 65536), IntKind.i64.wrap (65535 - z / 281474976710656 % 65536), IntKind.i64.wrap (65535 - z / 18446744073709551616 % 65536),
  IntKind.i64.wrap (65535 - z / 1208925819614629174706176 % 65536), IntKind.i64.wrap (65535 - z / 79228162514264337593543950336 % 65536), IntKind.i64.wrap (65535 - z / 5192296858534827628530496329220096 % 65536)]

theorem comp_digs (z : Int) : comp z = digs (-z - 1) := by
  have w : ∀ x : Int, 0 ≤ x → x ≤ 65535 → IntKind.i64.wrap x = x := fun x _ _ => wrap_i64_of (by omega) (by omega)
  unfold comp digs
  congr 1
  · rw [w _ (by omega) (by omega)]; omega
  congr 1
  · rw [w _ (by omega) (by omega)]; omega
  congr 1
  · rw [w _ (by omega) (by omega)]; omega
  congr 1
  · rw [w _ (by omega) (by omega)]; omega
  congr 1
  · rw [w _ (by omega) (by omega)]; omega
  congr 1
  · rw [w _ (by omega) (by omega)]; omega
  congr 1
  · rw [w _ (by omega) (by omega)]; omega
  congr 1
  rw [w _ (by omega) (by omega)]; omega

theorem c_rneg (z : Int) : Con Try.prog 159 [DI z] (DI (-z)) := by
  refine (Con.run (v := DI (-z - 1 + 1)) Try.func159 rfl rfl ?_).val rfl (by congr 1; omega)
  have c : Con Try.prog 156 [V8 (comp z), DI 1] (DI (-z - 1 + 1)) := by rw [comp_digs]; exact c_radd (-z - 1) 1
  exact R.call mixed (c_rof 1 (by omega) (by omega)) (by kernel_rfl) <| R.call mixed c (by kernel_rfl) <| R.fin mixed Try.func159 (by kernel_rfl)

theorem sg_parts (z : Int) : sg z = IntKind.i64.wrap (z / 18446744073709551616) * 18446744073709551616 + z % 18446744073709551616 := by
  rw [IntKind.wrap_i64]; unfold sg; omega

theorem WI_cells (z : Int) : (WI z).cells.toList = [.int .i64 (IntKind.i64.wrap (z / 18446744073709551616)), .int .u64 (z % 18446744073709551616)] := rfl

theorem cmpI_self (a : Int) : cmpI a a = 0 := by simp [cmpI]
theorem cmpI_anti (a b : Int) : cmpI a b = -cmpI b a := by
  unfold cmpI
  by_cases h : a = b
  · subst h; simp
  · rw [if_neg h, if_neg (fun e : b = a => h e.symm)]
    by_cases h2 : a < b
    · rw [if_pos h2, if_neg (by omega)]
    · rw [if_neg h2, if_pos (by omega)]
      rfl

end Go.Proofs.Ytfkmhhbpomkakaa.Wide
