/- Several texts in one: WF2y, WM2y, WN2y. -/
import Derived.Test.YtfkmhhbpomkakaaGreatQF21
namespace Go.Proofs.YtfkmhhbpomkakaaGreat.Wide

section
open Go Go.Dt Go.Proofs

theorem c_neg (z : Int) : Con Tryz.prog 112 [WI z] (WI (-z)) := Con.of Tryz.func112 rfl rfl (neg_WI z)
theorem c_add (y z : Int) : Con Tryz.prog 87 [WI y, WI z] (WI (y + z)) := Con.of Tryz.func87 rfl rfl (add_WI y z)
def comp (z : Int) : List Int := [IntKind.i64.wrap (65535 - z % 65536), IntKind.i64.wrap (65535 - z / 65536 % 65536), IntKind.i64.wrap (65535 - z / 4294967296 % 65536), IntKind.i64.wrap (65535 - z / 281474976710656 % 65536), IntKind.i64.wrap (65535 - z / 18446744073709551616 % 65536),
  IntKind.i64.wrap (65535 - z / 1208925819614629174706176 % 65536), IntKind.i64.wrap (65535 - z / 79228162514264337593543950336 % 65536), IntKind.i64.wrap (65535 - z / 5192296858534827628530496329220096 % 65536)]

end

section
open Go Go.Dt Go.Proofs

/-! ### The plain law -/
theorem neg_ediv_of {M d : Int} (hd : 0 < d) : (-M) / d = -(M / d) - (if 0 < M % d then 1 else 0) := by
  have e := Int.mul_ediv_add_emod M d
  have e1 := Int.emod_nonneg M (b := d) (by omega)
  have e2 := Int.emod_lt_of_pos M hd
  rw [Int.mul_comm] at e
  split
  · refine quot_of hd ?_ ?_
    · rw [Int.sub_mul, Int.neg_mul, Int.one_mul]; omega
    · rw [Int.add_mul, Int.sub_mul, Int.neg_mul, Int.one_mul]; omega
  · refine quot_of hd ?_ ?_
    · rw [Int.sub_mul, Int.neg_mul]; omega
    · rw [Int.add_mul, Int.sub_mul, Int.neg_mul, Int.one_mul]; omega

/-- A quotient that is cut downwards, by the amounts. -/
theorem fdiv_amounts {z b : Int} (hb : b ≠ 0) : z.fdiv b = (if (decide (z < 0) == decide (b < 0)) then ((z.natAbs : Int) / b.natAbs) else -((z.natAbs : Int) / b.natAbs) - (if 0 < (z.natAbs : Int) % b.natAbs then 1 else 0)) := by
  have key : ∀ w d : Int, 0 < d → w.fdiv d = (if w < 0 then -((w.natAbs : Int) / d) - (if 0 < (w.natAbs : Int) % d then 1 else 0) else (w.natAbs : Int) / d) := by
    intro w d hd
    rw [Int.fdiv_eq_ediv_of_nonneg _ (by omega)]
    split
    · have : w = -(w.natAbs : Int) := by omega
      rw [this, Int.natAbs_neg, neg_ediv_of hd]
      simp
    · have : (w.natAbs : Int) = w := by omega
      rw [this]
  rcases Int.lt_or_le b 0 with h | h
  · have e : z.fdiv b = (-z).fdiv (-b) := by rw [Int.neg_fdiv_neg]
    rw [e, key (-z) (-b) (by omega)]
    have hb2 : ((b.natAbs : Int)) = -b := by omega
    rw [hb2, Int.natAbs_neg]
    by_cases hz : z < 0
    · have h1 : ¬ -z < 0 := by omega
      have h2 : (decide (z < 0) == decide (b < 0)) = true := by simp [hz, h]
      rw [if_neg h1, if_pos h2]
    · by_cases hz0 : z = 0
      · subst hz0
        simp [h]
      · have h1 : -z < 0 := by omega
        have h2 : ¬ (decide (z < 0) == decide (b < 0)) = true := by simp [hz, h]
        rw [if_pos h1, if_neg h2]
  · rw [key z b (by omega)]
    have hb2 : ((b.natAbs : Int)) = b := by omega
    have hb3 : ¬ b < 0 := by omega
    rw [hb2]
    by_cases hz : z < 0
    · simp [hz, hb3]
    · simp [hz, hb3]

/-- Is a quotient an int? -/
def fits (F : Int) : Bool := decide (-9223372036854775808 ≤ F) && decide (F ≤ 9223372036854775807)

/-- What Floor gives. -/
def floorN (z b : Int) : Int := bif b == 0 then 0 else bif fits (z.fdiv b) then z.fdiv b else 0
def floorE (z b : Int) : Int := bif b == 0 then 2 else bif fits (z.fdiv b) then 0 else 3

/-! ### The walk -/
def cells2 (z : Int) : List Value := [.int .i64 (IntKind.i64.wrap (z / 18446744073709551616)), .int .u64 (z % 18446744073709551616)]
def F1 (P : Program) (fn : Func) (z b M : Int) : VS := putM [.cells (cells2 z) 0 true, .cells (cells2 M) 0 true] (puts [(1, .int .i64 b)] (keepS [2, 6] (vadv P 30 (entry fn [WI 5, .int .i64 17] []))))
def T1 (P : Program) (fn : Func) (z M : Int) (below : Bool) (q r : Int) : VS := putM [.cells (cells2 z) 0 true, .cells (cells2 M) 0 true] (puts [(8, .int .u64 q), (9, .int .u64 r), (10, .bool below)]
  (keepS [] (vadv P 20 (afterCall (Go.Dt.go P (afterCall (Go.Dt.go P (entry fn [WI 5, .int .i64 17] [])) (.int .u64 17))) (.tuple #[.int .u64 4, .int .u64 4])))))

def tailN (below : Bool) (q r : Int) : Int := bif below then (bif decide (q > 9223372036854775808) || (q == 9223372036854775808 && decide (r > 0)) then 0 else (bif decide (r > 0) then -q - 1 else -q)) else (bif decide (q ≥ 9223372036854775808) then 0 else q)
def tailE (below : Bool) (q r : Int) : Int := bif below then (bif decide (q > 9223372036854775808) || (q == 9223372036854775808 && decide (r > 0)) then 3 else 0) else (bif decide (q ≥ 9223372036854775808) then 3 else 0)

theorem tail_ (z M : Int) (below : Bool) (q r : Int) (q0 : 0 ≤ q) (q1 : q ≤ 18446744073709551615) : RunsE Tryz.prog 89 0 (T1 Tryz.prog Tryz.f89 z M below q r) (.tuple ⟨[.int .i64 (tailN below q r), .int .i64 (tailE below q r)]⟩) := by
  cases below with
  | false =>
    rcases Decidable.em (q ≥ 9223372036854775808) with h | h
    · rw [show tailN false q r = 0 by simp [tailN, h], show tailE false q r = 3 by simp [tailE, h]]
      exact R.cond mixed 9 (bif !false then decide (q ≥ 9223372036854775808) else false) true (by simpa using h) (by kernel_rfl) <|
        R.cond mixed 1 (bif !false then decide (q ≥ 9223372036854775808) else false) true (by simpa using h) (by kernel_rfl) <| R.fin mixed Tryz.func89 (by kernel_rfl)
    · rw [show tailN false q r = IntKind.i64.wrap q by simp [tailN, h]; exact (wrap_i64_of (by omega) (by omega)).symm, show tailE false q r = 0 by simp [tailE, h]]
      exact R.cond mixed 9 (bif !false then decide (q ≥ 9223372036854775808) else false) false (by simpa using h) (by kernel_rfl) <| R.fin mixed Tryz.func89 (by kernel_rfl)
  | true =>
    rcases Decidable.em (q > 9223372036854775808) with h | h
    · rw [show tailN true q r = 0 by simp [tailN, h], show tailE true q r = 3 by simp [tailE, h]]
      exact R.cond mixed 19 (bif true then decide (q > 9223372036854775808) else false) true (by simpa using h) (by kernel_rfl) <|
        R.cond mixed 1 (bif true then decide (q > 9223372036854775808) else false) true (by simpa using h) (by kernel_rfl) <| R.fin mixed Tryz.func89 (by kernel_rfl)
    · refine R.cond mixed 19 (bif true then decide (q > 9223372036854775808) else false) false (by simpa using h) (by kernel_rfl) ?_
      rcases Decidable.em (r > 0) with hr | hr
      · rcases Decidable.em (q = 9223372036854775808) with hq | hq
        · rw [show tailN true q r = 0 by simp [tailN, hq, hr], show tailE true q r = 3 by simp [tailE, hq, hr]]
          exact R.guardIs mixed 7 (bif true then q == 9223372036854775808 else false) true (by simpa using hq) (by kernel_rfl) <|
            R.cond mixed 5 (bif true then decide (r > 0) else false) true (by simpa using hr) (by kernel_rfl) <| R.fin mixed Tryz.func89 (by kernel_rfl)
        · rw [show tailN true q r = IntKind.i64.wrap (IntKind.u64.wrap (0 - IntKind.u64.wrap (q + 1))) by simp [tailN, h, beq_eq_false_iff_ne.2 hq, hr, wrap_u64, IntKind.wrap_i64]; omega, show tailE true q r = 0 by simp [tailE, h, beq_eq_false_iff_ne.2 hq]]
          exact R.guardIs mixed 7 (bif true then q == 9223372036854775808 else false) false (by simpa using hq) (by kernel_rfl) <|
            R.cond mixed 19 (decide (r > 0)) true (by simpa using hr) (by kernel_rfl) <| R.fin mixed Tryz.func89 (by kernel_rfl)
      · rw [show tailN true q r = IntKind.i64.wrap (IntKind.u64.wrap (0 - q)) by simp [tailN, h, hr, wrap_u64, IntKind.wrap_i64]; omega, show tailE true q r = 0 by simp [tailE, h, hr]]
        rcases Decidable.em (q = 9223372036854775808) with hq | hq
        · exact R.guardIs mixed 7 (bif true then q == 9223372036854775808 else false) true (by simpa using hq) (by kernel_rfl) <|
            R.cond mixed 5 (bif true then decide (r > 0) else false) false (by simpa using hr) (by kernel_rfl) <|
            R.cond mixed 13 (decide (r > 0)) false (by simpa using hr) (by kernel_rfl) <| R.fin mixed Tryz.func89 (by kernel_rfl)
        · exact R.guardIs mixed 7 (bif true then q == 9223372036854775808 else false) false (by simpa using hq) (by kernel_rfl) <|
            R.cond mixed 19 (decide (r > 0)) false (by simpa using hr) (by kernel_rfl) <| R.fin mixed Tryz.func89 (by kernel_rfl)

theorem tail_floor {z b : Int} (hb : b ≠ 0) : tailN (!(decide (z < 0) == decide (b < 0))) ((z.natAbs : Int) / b.natAbs) ((z.natAbs : Int) % b.natAbs) = floorN z b ∧ tailE (!(decide (z < 0) == decide (b < 0))) ((z.natAbs : Int) / b.natAbs) ((z.natAbs : Int) % b.natAbs) = floorE z b := by
  have hd : (0 : Int) < b.natAbs := by omega
  have q0 : 0 ≤ (z.natAbs : Int) / b.natAbs := Int.ediv_nonneg (by omega) (by omega)
  have hb' : (b == 0) = false := beq_eq_false_iff_ne.2 hb
  unfold floorN floorE
  rw [hb', cond_false, cond_false, fdiv_amounts hb]
  generalize (z.natAbs : Int) / b.natAbs = q at *
  generalize (z.natAbs : Int) % b.natAbs = r at *
  cases hs : (decide (z < 0) == decide (b < 0)) with
  | true =>
    simp only [Bool.not_true, tailN, tailE, cond_false, if_true]
    rcases Decidable.em (q ≥ 9223372036854775808) with h | h
    · have hf : fits q = false := by simp [fits]; omega
      rw [hf]
      simp [h]
    · have hf : fits q = true := by simp [fits]; omega
      rw [hf]
      simp [h]
  | false =>
    simp only [Bool.not_false, tailN, tailE, cond_true, Bool.false_eq_true, if_false]
    rcases Decidable.em (r > 0) with hr | hr
    · rw [if_pos hr]
      rcases Decidable.em (q ≥ 9223372036854775808) with h | h
      · have hf : fits (-q - 1) = false := by simp [fits]; omega
        have hc : (decide (q > 9223372036854775808) || q == 9223372036854775808 && decide (r > 0)) = true := by
          simp [hr]; omega
        rw [hf, hc]
        simp
      · have hf : fits (-q - 1) = true := by simp [fits]; omega
        have hc : (decide (q > 9223372036854775808) || q == 9223372036854775808 && decide (r > 0)) = false := by
          simp [hr]; omega
        rw [hf, hc]
        simp [hr]
    · rw [if_neg hr]
      rcases Decidable.em (q > 9223372036854775808) with h | h
      · have hf : fits (-q - 0) = false := by simp [fits]; omega
        rw [hf]
        simp [h]
      · have hf : fits (-q - 0) = true := by simp [fits]; omega
        rw [hf]
        simp [h, hr]

theorem c_floor (z b : Int) (z1 : -170141183460469231731687303715884105728 ≤ z) (z2 : z ≤ 170141183460469231731687303715884105727) (b1 : -9223372036854775808 ≤ b) (b2 : b ≤ 9223372036854775807) :
    Con Tryz.prog 89 [WI z, .int .i64 b] (.tuple ⟨[.int .i64 (floorN z b), .int .i64 (floorE z b)]⟩) := by
  refine Con.run Tryz.func89 (by kernel_rfl) rfl ?_
  rcases Decidable.em (b = 0) with hb | hb
  · rw [show floorN z b = 0 by simp [floorN, hb], show floorE z b = 2 by simp [floorE, hb]]
    exact R.cond mixed 12 (b == 0) true (by simp [hb]) (by kernel_rfl) <| R.fin mixed Tryz.func89 (by kernel_rfl)
  · refine R.cond mixed 12 (b == 0) false (by simp [hb]) (by kernel_rfl) ?_
    have eh : IntKind.i64.wrap (z / 18446744073709551616) = z / 18446744073709551616 := wrap_i64_of (by omega) (by omega)
    have eneg : decide (IntKind.i64.wrap (z / 18446744073709551616) < 0) = decide (z < 0) := by
      rw [eh]; congr 1; rw [eq_iff_iff]; omega
    have main : RunsE Tryz.prog 89 0 (F1 Tryz.prog Tryz.f89 z b z.natAbs) (.tuple ⟨[.int .i64 (floorN z b), .int .i64 (floorE z b)]⟩) := by
      have ca : Con Tryz.prog 111 [.int .i64 b] (.int .u64 b.natAbs) := Con.of Tryz.func111 rfl rfl (amount_ b b1 b2)
      have em : IntKind.u64.wrap (IntKind.i64.wrap ((z.natAbs : Int) / 18446744073709551616)) = (z.natAbs : Int) / 18446744073709551616 := by
        rw [wrap_u64, IntKind.wrap_i64]; omega
      refine R.call mixed ca (by kernel_rfl) ?_
      have hd : (0 : Int) < b.natAbs := by omega
      rcases Decidable.em ((z.natAbs : Int) / 18446744073709551616 ≥ b.natAbs) with hbig | hbig
      · have hq : 18446744073709551616 ≤ (z.natAbs : Int) / b.natAbs := Int.le_ediv_of_mul_le hd (by omega)
        have hF : fits (z.fdiv b) = false := by
          rw [fdiv_amounts hb]
          simp only [fits, Bool.and_eq_false_iff, decide_eq_false_iff_not]
          split
          · omega
          · split <;> omega
        have hb' : (b == 0) = false := beq_eq_false_iff_ne.2 hb
        rw [show floorN z b = 0 by unfold floorN; rw [hb', hF]; rfl, show floorE z b = 3 by unfold floorE; rw [hb', hF]; rfl]
        exact R.cond mixed 11 (decide (IntKind.u64.wrap (IntKind.i64.wrap ((z.natAbs : Int) / 18446744073709551616)) ≥ b.natAbs)) true (by rw [em]; exact decide_eq_true hbig) (by kernel_rfl) <| R.fin mixed Tryz.func89 (by kernel_rfl)
      · have cd := div64_ ((z.natAbs : Int) / 18446744073709551616) ((z.natAbs : Int) % 18446744073709551616) b.natAbs (by omega) (by omega) (by omega) (by omega) (by omega)
        have ez : (z.natAbs : Int) / 18446744073709551616 * 18446744073709551616 + (z.natAbs : Int) % 18446744073709551616 = z.natAbs := by omega
        rw [ez] at cd
        obtain ⟨t1, t2⟩ := tail_floor (z := z) hb
        rw [← t1, ← t2]
        have q0 : 0 ≤ (z.natAbs : Int) / b.natAbs := Int.ediv_nonneg (by omega) (by omega)
        have q1 : (z.natAbs : Int) / b.natAbs < 18446744073709551616 := Int.ediv_lt_of_lt_mul hd (by omega)
        refine R.cond mixed 11 (decide (IntKind.u64.wrap (IntKind.i64.wrap ((z.natAbs : Int) / 18446744073709551616)) ≥ b.natAbs)) false (by rw [em]; exact decide_eq_false hbig) (by kernel_rfl) <|
          R.call mixed (cd.val (args' := [.int .u64 (IntKind.u64.wrap (IntKind.i64.wrap ((z.natAbs : Int) / 18446744073709551616))), .int .u64 ((z.natAbs : Int) % 18446744073709551616), .int .u64 b.natAbs]) (by rw [em]) rfl) (by kernel_rfl) <|
          R.at mixed 20 [8, 9, 10] (st := T1 Tryz.prog Tryz.f89 z z.natAbs (!(decide (IntKind.i64.wrap (z / 18446744073709551616) < 0) == decide (b < 0))) ((z.natAbs : Int) / b.natAbs) ((z.natAbs : Int) % b.natAbs)) (by kernel_rfl) ?_
        rw [eneg]
        exact tail_ z z.natAbs _ _ _ q0 (by omega)
    rcases Decidable.em (z < 0) with hz | hz
    · have e : ((z.natAbs : Int)) = -z := by omega
      rw [e] at main
      exact R.cond mixed 14 (decide (IntKind.i64.wrap (z / 18446744073709551616) < 0)) true (by rw [eneg]; exact decide_eq_true hz) (by kernel_rfl) <|
        R.call mixed (c_neg z) (by kernel_rfl) <| R.at mixed 3 [1, 2, 6] (st := F1 Tryz.prog Tryz.f89 z b (-z)) (by kernel_rfl) main
    · have e : ((z.natAbs : Int)) = z := by omega
      rw [e] at main
      exact R.cond mixed 14 (decide (IntKind.i64.wrap (z / 18446744073709551616) < 0)) false (by rw [eneg]; exact decide_eq_false hz) (by kernel_rfl) <|
        R.at mixed 2 [1, 2, 6] (st := F1 Tryz.prog Tryz.f89 z b z) (by kernel_rfl) main

end

section
open Go Go.Dt Go.Proofs

/-! ### Bits -/
/-! ### Amounts -/
end

end Go.Proofs.YtfkmhhbpomkakaaGreat.Wide
