/- Several texts in one: WF2z, WM2z, WN2z. -/
import Derived.Test.YtegmkkpdckolkaaGreatQG21
namespace Go.Proofs.YtegmkkpdckolkaaGreat.Wide

section
open Go Go.Dt Go.Proofs

/-- The signed number of 128 bits. -/
def sg (z : Int) : Int := (z + 170141183460469231731687303715884105728) % 340282366920938463463374607431768211456 - 170141183460469231731687303715884105728
theorem below_ (z : Int) : Con Tryz.prog 108 [DI z] (.bool (decide (sg z < 0))) :=
  (Con.run (v := .bool (decide (z / 5192296858534827628530496329220096 % 65536 ≥ 32768))) Tryz.func108 rfl rfl (R.fin mixed Tryz.func108 (by kernel_rfl))).val rfl (by
    congr 1
    have : (z / 5192296858534827628530496329220096 % 65536 ≥ 32768) ↔ sg z < 0 := by unfold sg; omega
    simp [this])

theorem digs_lt (a b : Int) : a % 340282366920938463463374607431768211456 < b % 340282366920938463463374607431768211456 ∨ b % 340282366920938463463374607431768211456 < a % 340282366920938463463374607431768211456 ∨ digs a = digs b := by
  by_cases h : a % 340282366920938463463374607431768211456 = b % 340282366920938463463374607431768211456
  · right; right
    unfold digs
    congr 1
    · omega
    congr 1
    · omega
    congr 1
    · omega
    congr 1
    · omega
    congr 1
    · omega
    congr 1
    · omega
    congr 1
    · omega
    congr 1
    omega
  · omega

theorem valD_digs (z : Int) : valD (digs z) = z % 340282366920938463463374607431768211456 := by simp only [digs, valD]; omega

theorem less_ (A B : Int) : Con Tryz.prog 106 [DI A, DI B] (.bool (decide (A % 340282366920938463463374607431768211456 < B % 340282366920938463463374607431768211456))) := by
  have key : ∀ a0 a1 a2 a3 a4 a5 a6 a7 b0 b1 b2 b3 b4 b5 b6 b7 : Int, Dig [a0, a1, a2, a3, a4, a5, a6, a7] → Dig [b0, b1, b2, b3, b4, b5, b6, b7] →
      RunsE Tryz.prog 106 0 (entry Tryz.f106 [V8 [a0, a1, a2, a3, a4, a5, a6, a7], V8 [b0, b1, b2, b3, b4, b5, b6, b7]] []) (.bool (decide (valD [a0, a1, a2, a3, a4, a5, a6, a7] < valD [b0, b1, b2, b3, b4, b5, b6, b7]))) := by
    intro a0 a1 a2 a3 a4 a5 a6 a7 b0 b1 b2 b3 b4 b5 b6 b7 ha hb
    have p0 := ha a0 (by simp); have p1 := ha a1 (by simp); have p2 := ha a2 (by simp); have p3 := ha a3 (by simp)
    have p4 := ha a4 (by simp); have p5 := ha a5 (by simp); have p6 := ha a6 (by simp); have p7 := ha a7 (by simp)
    have q0 := hb b0 (by simp); have q1 := hb b1 (by simp); have q2 := hb b2 (by simp); have q3 := hb b3 (by simp)
    have q4 := hb b4 (by simp); have q5 := hb b5 (by simp); have q6 := hb b6 (by simp); have q7 := hb b7 (by simp)
    generalize hx : valD [a0, a1, a2, a3, a4, a5, a6, a7] = X
    generalize hy : valD [b0, b1, b2, b3, b4, b5, b6, b7] = Y
    simp only [valD] at hx hy
    have sw : ∀ {x y a b : Int} {s : VS}, (a ≠ b → (a < b ↔ x < y)) → (a != b) = true → RunsE Tryz.prog 106 0 s (.bool (decide (a < b))) → RunsE Tryz.prog 106 0 s (.bool (decide (x < y))) := by
      intro x y a b s h hne hr
      have : decide (a < b) = decide (x < y) := decide_eq_decide.2 (h (by simpa using hne))
      rwa [this] at hr
    refine R.branch mixed 33 (a7 != b7) (by kernel_rfl) (fun h => sw (fun _ => by omega) h (R.fin mixed Tryz.func106 (by kernel_rfl))) (fun h7 => ?_)
    refine R.branch mixed 28 (a6 != b6) (by kernel_rfl) (fun h => sw (fun _ => by simp at h7; omega) h (R.fin mixed Tryz.func106 (by kernel_rfl))) (fun h6 => ?_)
    refine R.branch mixed 28 (a5 != b5) (by kernel_rfl) (fun h => sw (fun _ => by simp at h7 h6; omega) h (R.fin mixed Tryz.func106 (by kernel_rfl))) (fun h5 => ?_)
    refine R.branch mixed 28 (a4 != b4) (by kernel_rfl) (fun h => sw (fun _ => by simp at h7 h6 h5; omega) h (R.fin mixed Tryz.func106 (by kernel_rfl))) (fun h4 => ?_)
    refine R.branch mixed 28 (a3 != b3) (by kernel_rfl) (fun h => sw (fun _ => by simp at h7 h6 h5 h4; omega) h (R.fin mixed Tryz.func106 (by kernel_rfl))) (fun h3 => ?_)
    refine R.branch mixed 28 (a2 != b2) (by kernel_rfl) (fun h => sw (fun _ => by simp at h7 h6 h5 h4 h3; omega) h (R.fin mixed Tryz.func106 (by kernel_rfl))) (fun h2 => ?_)
    refine R.branch mixed 28 (a1 != b1) (by kernel_rfl) (fun h => sw (fun _ => by simp at h7 h6 h5 h4 h3 h2; omega) h (R.fin mixed Tryz.func106 (by kernel_rfl))) (fun h1 => ?_)
    refine R.branch mixed 28 (a0 != b0) (by kernel_rfl) (fun h => sw (fun _ => by simp at h7 h6 h5 h4 h3 h2 h1; omega) h (R.fin mixed Tryz.func106 (by kernel_rfl))) (fun h0 => ?_)
    simp at h7 h6 h5 h4 h3 h2 h1 h0
    have : X = Y := by omega
    rw [this, decide_eq_false (Int.lt_irrefl _)]
    exact R.fin mixed Tryz.func106 (by kernel_rfl)
  refine Con.run Tryz.func106 rfl rfl ?_
  have := key _ _ _ _ _ _ _ _ _ _ _ _ _ _ _ _ (digs_dig A) (digs_dig B)
  have eA := valD_digs A
  have eB := valD_digs B
  change RunsE Tryz.prog 106 0 _ (.bool (decide (valD (digs A) < valD (digs B)))) at this
  rw [eA, eB] at this
  exact this

theorem c_radd (A B : Int) : Con Tryz.prog 104 [DI A, DI B] (DI (A + B)) := Con.of Tryz.func104 rfl rfl (radd_ A B)
theorem c_rof (n : Int) (h1 : -9223372036854775808 ≤ n) (h2 : n ≤ 9223372036854775807) : Con Tryz.prog 100 [.int .i64 n] (DI n) := Con.of Tryz.func100 rfl rfl (rof_ n h1 h2)
theorem c_neg (z : Int) : Con Tryz.prog 96 [WI z] (WI (-z)) := Con.of Tryz.func96 rfl rfl (neg_WI z)
def comp (z : Int) : List Int := [IntKind.i64.wrap (65535 - z % 65536), IntKind.i64.wrap (65535 - z / 65536 % 65536), IntKind.i64.wrap (65535 - z / 4294967296 % 65536), IntKind.i64.wrap (65535 - z / 281474976710656 % 65536), IntKind.i64.wrap (65535 - z / 18446744073709551616 % 65536),
  IntKind.i64.wrap (65535 - z / 1208925819614629174706176 % 65536), IntKind.i64.wrap (65535 - z / 79228162514264337593543950336 % 65536), IntKind.i64.wrap (65535 - z / 5192296858534827628530496329220096 % 65536)]

theorem comp_digs (z : Int) : comp z = digs (-z - 1) := by
  have w : ∀ x : Int, 0 ≤ x → x ≤ 65535 → IntKind.i64.wrap x = x := fun x _ _ => wrap_i64_of (by omega) (by omega)
  unfold comp digs
  congr 1
  · rw [w _ (by omega) (by omega)]; omega
  congr 1
  · rw [w _ (by omega) (by omega)]; omega
  congr 1
  · rw [w _ (by omega) (by omega)]; omega
  congr 1
  · rw [w _ (by omega) (by omega)]; omega
  congr 1
  · rw [w _ (by omega) (by omega)]; omega
  congr 1
  · rw [w _ (by omega) (by omega)]; omega
  congr 1
  · rw [w _ (by omega) (by omega)]; omega
  congr 1
  rw [w _ (by omega) (by omega)]; omega

theorem c_rneg (z : Int) : Con Tryz.prog 107 [DI z] (DI (-z)) := by
  refine (Con.run (v := DI (-z - 1 + 1)) Tryz.func107 rfl rfl ?_).val rfl (by congr 1; omega)
  have c : Con Tryz.prog 104 [V8 (comp z), DI 1] (DI (-z - 1 + 1)) := by rw [comp_digs]; exact c_radd (-z - 1) 1
  exact R.call mixed (c_rof 1 (by omega) (by omega)) (by kernel_rfl) <| R.call mixed c (by kernel_rfl) <| R.fin mixed Tryz.func107 (by kernel_rfl)

end

section
open Go Go.Dt Go.Proofs

/-! ### The plain law -/
theorem neg_ediv_of {M d : Int} (hd : 0 < d) : (-M) / d = -(M / d) - (if 0 < M % d then 1 else 0) := by
  have e := Int.mul_ediv_add_emod M d
  have e1 := Int.emod_nonneg M (b := d) (by omega)
  have e2 := Int.emod_lt_of_pos M hd
  rw [Int.mul_comm] at e
  split
  · refine quot_of hd ?_ ?_
    · rw [Int.sub_mul, Int.neg_mul, Int.one_mul]; omega
    · rw [Int.add_mul, Int.sub_mul, Int.neg_mul, Int.one_mul]; omega
  · refine quot_of hd ?_ ?_
    · rw [Int.sub_mul, Int.neg_mul]; omega
    · rw [Int.add_mul, Int.sub_mul, Int.neg_mul, Int.one_mul]; omega

/-- A quotient that is cut downwards, by the amounts. -/
theorem fdiv_amounts {z b : Int} (hb : b ≠ 0) : z.fdiv b = (if (decide (z < 0) == decide (b < 0)) then ((z.natAbs : Int) / b.natAbs) else -((z.natAbs : Int) / b.natAbs) - (if 0 < (z.natAbs : Int) % b.natAbs then 1 else 0)) := by
  have key : ∀ w d : Int, 0 < d → w.fdiv d = (if w < 0 then -((w.natAbs : Int) / d) - (if 0 < (w.natAbs : Int) % d then 1 else 0) else (w.natAbs : Int) / d) := by
    intro w d hd
    rw [Int.fdiv_eq_ediv_of_nonneg _ (by omega)]
    split
    · have : w = -(w.natAbs : Int) := by omega
      rw [this, Int.natAbs_neg, neg_ediv_of hd]
      simp
    · have : (w.natAbs : Int) = w := by omega
      rw [this]
  rcases Int.lt_or_le b 0 with h | h
  · have e : z.fdiv b = (-z).fdiv (-b) := by rw [Int.neg_fdiv_neg]
    rw [e, key (-z) (-b) (by omega)]
    have hb2 : ((b.natAbs : Int)) = -b := by omega
    rw [hb2, Int.natAbs_neg]
    by_cases hz : z < 0
    · have h1 : ¬ -z < 0 := by omega
      have h2 : (decide (z < 0) == decide (b < 0)) = true := by simp [hz, h]
      rw [if_neg h1, if_pos h2]
    · by_cases hz0 : z = 0
      · subst hz0
        simp [h]
      · have h1 : -z < 0 := by omega
        have h2 : ¬ (decide (z < 0) == decide (b < 0)) = true := by simp [hz, h]
        rw [if_pos h1, if_neg h2]
  · rw [key z b (by omega)]
    have hb2 : ((b.natAbs : Int)) = b := by omega
    have hb3 : ¬ b < 0 := by omega
    rw [hb2]
    by_cases hz : z < 0
    · simp [hz, hb3]
    · simp [hz, hb3]

/-- Is a quotient an int? -/
def fits (F : Int) : Bool := decide (-9223372036854775808 ≤ F) && decide (F ≤ 9223372036854775807)

/-- What Floor gives. -/
def floorN (z b : Int) : Int := bif b == 0 then 0 else bif fits (z.fdiv b) then z.fdiv b else 0
def floorE (z b : Int) : Int := bif b == 0 then 2 else bif fits (z.fdiv b) then 0 else 3

/-! ### The walk -/
def cells2 (z : Int) : List Value := [.int .i64 (IntKind.i64.wrap (z / 18446744073709551616)), .int .u64 (z % 18446744073709551616)]
def F1 (P : Program) (fn : Func) (z b M : Int) : VS := putM [.cells (cells2 z) 0 true, .cells (cells2 M) 0 true] (puts [(1, .int .i64 b)] (keepS [2, 6] (vadv P 30 (entry fn [WI 5, .int .i64 17] []))))
def T1 (P : Program) (fn : Func) (z M : Int) (below : Bool) (q r : Int) : VS := putM [.cells (cells2 z) 0 true, .cells (cells2 M) 0 true] (puts [(8, .int .u64 q), (9, .int .u64 r), (10, .bool below)]
  (keepS [] (vadv P 20 (afterCall (Go.Dt.go P (afterCall (Go.Dt.go P (entry fn [WI 5, .int .i64 17] [])) (.int .u64 17))) (.tuple #[.int .u64 4, .int .u64 4])))))

def tailN (below : Bool) (q r : Int) : Int := bif below then (bif decide (q > 9223372036854775808) || (q == 9223372036854775808 && decide (r > 0)) then 0 else (bif decide (r > 0) then -q - 1 else -q)) else (bif decide (q ≥ 9223372036854775808) then 0 else q)
def tailE (below : Bool) (q r : Int) : Int := bif below then (bif decide (q > 9223372036854775808) || (q == 9223372036854775808 && decide (r > 0)) then 3 else 0) else (bif decide (q ≥ 9223372036854775808) then 3 else 0)

theorem tail_ (z M : Int) (below : Bool) (q r : Int) (q0 : 0 ≤ q) (q1 : q ≤ 18446744073709551615) : RunsE Tryz.prog 92 0 (T1 Tryz.prog Tryz.f92 z M below q r) (.tuple ⟨[.int .i64 (tailN below q r), .int .i64 (tailE below q r)]⟩) := by
  cases below with
  | false =>
    rcases Decidable.em (q ≥ 9223372036854775808) with h | h
    · rw [show tailN false q r = 0 by simp [tailN, h], show tailE false q r = 3 by simp [tailE, h]]
      exact R.cond mixed 9 (bif !false then decide (q ≥ 9223372036854775808) else false) true (by simpa using h) (by kernel_rfl) <|
        R.cond mixed 1 (bif !false then decide (q ≥ 9223372036854775808) else false) true (by simpa using h) (by kernel_rfl) <| R.fin mixed Tryz.func92 (by kernel_rfl)
    · rw [show tailN false q r = IntKind.i64.wrap q by simp [tailN, h]; exact (wrap_i64_of (by omega) (by omega)).symm, show tailE false q r = 0 by simp [tailE, h]]
      exact R.cond mixed 9 (bif !false then decide (q ≥ 9223372036854775808) else false) false (by simpa using h) (by kernel_rfl) <| R.fin mixed Tryz.func92 (by kernel_rfl)
  | true =>
    rcases Decidable.em (q > 9223372036854775808) with h | h
    · rw [show tailN true q r = 0 by simp [tailN, h], show tailE true q r = 3 by simp [tailE, h]]
      exact R.cond mixed 19 (bif true then decide (q > 9223372036854775808) else false) true (by simpa using h) (by kernel_rfl) <|
        R.cond mixed 1 (bif true then decide (q > 9223372036854775808) else false) true (by simpa using h) (by kernel_rfl) <| R.fin mixed Tryz.func92 (by kernel_rfl)
    · refine R.cond mixed 19 (bif true then decide (q > 9223372036854775808) else false) false (by simpa using h) (by kernel_rfl) ?_
      rcases Decidable.em (r > 0) with hr | hr
      · rcases Decidable.em (q = 9223372036854775808) with hq | hq
        · rw [show tailN true q r = 0 by simp [tailN, hq, hr], show tailE true q r = 3 by simp [tailE, hq, hr]]
          exact R.guardIs mixed 7 (bif true then q == 9223372036854775808 else false) true (by simpa using hq) (by kernel_rfl) <|
            R.cond mixed 5 (bif true then decide (r > 0) else false) true (by simpa using hr) (by kernel_rfl) <| R.fin mixed Tryz.func92 (by kernel_rfl)
        · rw [show tailN true q r = IntKind.i64.wrap (IntKind.u64.wrap (0 - IntKind.u64.wrap (q + 1))) by simp [tailN, h, beq_eq_false_iff_ne.2 hq, hr, wrap_u64, IntKind.wrap_i64]; omega, show tailE true q r = 0 by simp [tailE, h, beq_eq_false_iff_ne.2 hq]]
          exact R.guardIs mixed 7 (bif true then q == 9223372036854775808 else false) false (by simpa using hq) (by kernel_rfl) <|
            R.cond mixed 19 (decide (r > 0)) true (by simpa using hr) (by kernel_rfl) <| R.fin mixed Tryz.func92 (by kernel_rfl)
      · rw [show tailN true q r = IntKind.i64.wrap (IntKind.u64.wrap (0 - q)) by simp [tailN, h, hr, wrap_u64, IntKind.wrap_i64]; omega, show tailE true q r = 0 by simp [tailE, h, hr]]
        rcases Decidable.em (q = 9223372036854775808) with hq | hq
        · exact R.guardIs mixed 7 (bif true then q == 9223372036854775808 else false) true (by simpa using hq) (by kernel_rfl) <|
            R.cond mixed 5 (bif true then decide (r > 0) else false) false (by simpa using hr) (by kernel_rfl) <|
            R.cond mixed 13 (decide (r > 0)) false (by simpa using hr) (by kernel_rfl) <| R.fin mixed Tryz.func92 (by kernel_rfl)
        · exact R.guardIs mixed 7 (bif true then q == 9223372036854775808 else false) false (by simpa using hq) (by kernel_rfl) <|
            R.cond mixed 19 (decide (r > 0)) false (by simpa using hr) (by kernel_rfl) <| R.fin mixed Tryz.func92 (by kernel_rfl)

theorem tail_floor {z b : Int} (hb : b ≠ 0) : tailN (!(decide (z < 0) == decide (b < 0))) ((z.natAbs : Int) / b.natAbs) ((z.natAbs : Int) % b.natAbs) = floorN z b ∧ tailE (!(decide (z < 0) == decide (b < 0))) ((z.natAbs : Int) / b.natAbs) ((z.natAbs : Int) % b.natAbs) = floorE z b := by
  have hd : (0 : Int) < b.natAbs := by omega
  have q0 : 0 ≤ (z.natAbs : Int) / b.natAbs := Int.ediv_nonneg (by omega) (by omega)
  have hb' : (b == 0) = false := beq_eq_false_iff_ne.2 hb
  unfold floorN floorE
  rw [hb', cond_false, cond_false, fdiv_amounts hb]
  generalize (z.natAbs : Int) / b.natAbs = q at *
  generalize (z.natAbs : Int) % b.natAbs = r at *
  cases hs : (decide (z < 0) == decide (b < 0)) with
  | true =>
    simp only [Bool.not_true, tailN, tailE, cond_false, if_true]
    rcases Decidable.em (q ≥ 9223372036854775808) with h | h
    · have hf : fits q = false := by simp [fits]; omega
      rw [hf]
      simp [h]
    · have hf : fits q = true := by simp [fits]; omega
      rw [hf]
      simp [h]
  | false =>
    simp only [Bool.not_false, tailN, tailE, cond_true, Bool.false_eq_true, if_false]
    rcases Decidable.em (r > 0) with hr | hr
    · rw [if_pos hr]
      rcases Decidable.em (q ≥ 9223372036854775808) with h | h
      · have hf : fits (-q - 1) = false := by simp [fits]; omega
        have hc : (decide (q > 9223372036854775808) || q == 9223372036854775808 && decide (r > 0)) = true := by
          simp [hr]; omega
        rw [hf, hc]
        simp
      · have hf : fits (-q - 1) = true := by simp [fits]; omega
        have hc : (decide (q > 9223372036854775808) || q == 9223372036854775808 && decide (r > 0)) = false := by
          simp [hr]; omega
        rw [hf, hc]
        simp [hr]
    · rw [if_neg hr]
      rcases Decidable.em (q > 9223372036854775808) with h | h
      · have hf : fits (-q - 0) = false := by simp [fits]; omega
        rw [hf]
        simp [h]
      · have hf : fits (-q - 0) = true := by simp [fits]; omega
        rw [hf]
        simp [h, hr]

theorem c_floor (z b : Int) (z1 : -170141183460469231731687303715884105728 ≤ z) (z2 : z ≤ 170141183460469231731687303715884105727) (b1 : -9223372036854775808 ≤ b) (b2 : b ≤ 9223372036854775807) :
    Con Tryz.prog 92 [WI z, .int .i64 b] (.tuple ⟨[.int .i64 (floorN z b), .int .i64 (floorE z b)]⟩) := by
  refine Con.run Tryz.func92 (by kernel_rfl) rfl ?_
  rcases Decidable.em (b = 0) with hb | hb
  · rw [show floorN z b = 0 by simp [floorN, hb], show floorE z b = 2 by simp [floorE, hb]]
    exact R.cond mixed 12 (b == 0) true (by simp [hb]) (by kernel_rfl) <| R.fin mixed Tryz.func92 (by kernel_rfl)
  · refine R.cond mixed 12 (b == 0) false (by simp [hb]) (by kernel_rfl) ?_
    have eh : IntKind.i64.wrap (z / 18446744073709551616) = z / 18446744073709551616 := wrap_i64_of (by omega) (by omega)
    have eneg : decide (IntKind.i64.wrap (z / 18446744073709551616) < 0) = decide (z < 0) := by
      rw [eh]; congr 1; rw [eq_iff_iff]; omega
    have main : RunsE Tryz.prog 92 0 (F1 Tryz.prog Tryz.f92 z b z.natAbs) (.tuple ⟨[.int .i64 (floorN z b), .int .i64 (floorE z b)]⟩) := by
      have ca : Con Tryz.prog 95 [.int .i64 b] (.int .u64 b.natAbs) := Con.of Tryz.func95 rfl rfl (amount_ b b1 b2)
      have em : IntKind.u64.wrap (IntKind.i64.wrap ((z.natAbs : Int) / 18446744073709551616)) = (z.natAbs : Int) / 18446744073709551616 := by
        rw [wrap_u64, IntKind.wrap_i64]; omega
      refine R.call mixed ca (by kernel_rfl) ?_
      have hd : (0 : Int) < b.natAbs := by omega
      rcases Decidable.em ((z.natAbs : Int) / 18446744073709551616 ≥ b.natAbs) with hbig | hbig
      · have hq : 18446744073709551616 ≤ (z.natAbs : Int) / b.natAbs := Int.le_ediv_of_mul_le hd (by omega)
        have hF : fits (z.fdiv b) = false := by
          rw [fdiv_amounts hb]
          simp only [fits, Bool.and_eq_false_iff, decide_eq_false_iff_not]
          split
          · omega
          · split <;> omega
        have hb' : (b == 0) = false := beq_eq_false_iff_ne.2 hb
        rw [show floorN z b = 0 by unfold floorN; rw [hb', hF]; rfl, show floorE z b = 3 by unfold floorE; rw [hb', hF]; rfl]
        exact R.cond mixed 11 (decide (IntKind.u64.wrap (IntKind.i64.wrap ((z.natAbs : Int) / 18446744073709551616)) ≥ b.natAbs)) true (by rw [em]; exact decide_eq_true hbig) (by kernel_rfl) <| R.fin mixed Tryz.func92 (by kernel_rfl)
      · have cd := div64_ ((z.natAbs : Int) / 18446744073709551616) ((z.natAbs : Int) % 18446744073709551616) b.natAbs (by omega) (by omega) (by omega) (by omega) (by omega)
        have ez : (z.natAbs : Int) / 18446744073709551616 * 18446744073709551616 + (z.natAbs : Int) % 18446744073709551616 = z.natAbs := by omega
        rw [ez] at cd
        obtain ⟨t1, t2⟩ := tail_floor (z := z) hb
        rw [← t1, ← t2]
        have q0 : 0 ≤ (z.natAbs : Int) / b.natAbs := Int.ediv_nonneg (by omega) (by omega)
        have q1 : (z.natAbs : Int) / b.natAbs < 18446744073709551616 := Int.ediv_lt_of_lt_mul hd (by omega)
        refine R.cond mixed 11 (decide (IntKind.u64.wrap (IntKind.i64.wrap ((z.natAbs : Int) / 18446744073709551616)) ≥ b.natAbs)) false (by rw [em]; exact decide_eq_false hbig) (by kernel_rfl) <|
          R.call mixed (cd.val (args' := [.int .u64 (IntKind.u64.wrap (IntKind.i64.wrap ((z.natAbs : Int) / 18446744073709551616))), .int .u64 ((z.natAbs : Int) % 18446744073709551616), .int .u64 b.natAbs]) (by rw [em]) rfl) (by kernel_rfl) <|
          R.at mixed 20 [8, 9, 10] (st := T1 Tryz.prog Tryz.f92 z z.natAbs (!(decide (IntKind.i64.wrap (z / 18446744073709551616) < 0) == decide (b < 0))) ((z.natAbs : Int) / b.natAbs) ((z.natAbs : Int) % b.natAbs)) (by kernel_rfl) ?_
        rw [eneg]
        exact tail_ z z.natAbs _ _ _ q0 (by omega)
    rcases Decidable.em (z < 0) with hz | hz
    · have e : ((z.natAbs : Int)) = -z := by omega
      rw [e] at main
      exact R.cond mixed 14 (decide (IntKind.i64.wrap (z / 18446744073709551616) < 0)) true (by rw [eneg]; exact decide_eq_true hz) (by kernel_rfl) <|
        R.call mixed (c_neg z) (by kernel_rfl) <| R.at mixed 3 [1, 2, 6] (st := F1 Tryz.prog Tryz.f92 z b (-z)) (by kernel_rfl) main
    · have e : ((z.natAbs : Int)) = z := by omega
      rw [e] at main
      exact R.cond mixed 14 (decide (IntKind.i64.wrap (z / 18446744073709551616) < 0)) false (by rw [eneg]; exact decide_eq_false hz) (by kernel_rfl) <|
        R.at mixed 2 [1, 2, 6] (st := F1 Tryz.prog Tryz.f92 z b z) (by kernel_rfl) main

end

section
open Go Go.Dt Go.Proofs

def d8 (z : Int) : Blk := .cells [.int .i64 (z % 65536), .int .i64 (z / 65536 % 65536), .int .i64 (z / 4294967296 % 65536), .int .i64 (z / 281474976710656 % 65536), .int .i64 (z / 18446744073709551616 % 65536), .int .i64 (z / 1208925819614629174706176 % 65536), .int .i64 (z / 79228162514264337593543950336 % 65536), .int .i64 (z / 5192296858534827628530496329220096 % 65536)] 0 true

/-! ### Bits -/
def LB (P : Program) (fn : Func) (z k n i : Int) : VS := putM [d8 z] (puts [(1, .int .i64 k), (5, .int .i64 n), (6, .int .i64 i)] (keepS [] (vadv P 20 (entry fn [DI 0, .int .i64 17] []))))

theorem pow_half (n : Int) (m : Nat) : n / 2 / 2 ^ m = n / 2 ^ (m + 1) := by
  rw [Int.ediv_ediv_of_nonneg (by omega), Int.pow_succ, Int.mul_comm]

theorem bit_loop (z k : Int) (k0 : 0 ≤ k) (k1 : k ≤ 127) : ∀ (m : Nat) (n i : Int), 0 ≤ n → n ≤ 65535 → 0 ≤ i → i + m = k % 16 → RunsE Tryz.prog 105 0 (LB Tryz.prog Tryz.f105 z k n i) (.int .i64 (n / 2 ^ m % 2))
  | 0, n, i, n0, n1, i0, h => by
    have e : k.tmod 16 = k % 16 := tmod_pos k0
    rw [Int.pow_zero, Int.ediv_one, ← tmod_pos n0]
    exact R.cond mixed 8 (decide (i < k.tmod 16)) false (by rw [e]; simp; omega) (by kernel_rfl) <| R.fin mixed Tryz.func105 (by kernel_rfl)
  | m + 1, n, i, n0, n1, i0, h => by
    have e : k.tmod 16 = k % 16 := tmod_pos k0
    refine R.cond mixed 8 (decide (i < k.tmod 16)) true (by rw [e]; simp; omega) (by kernel_rfl) <|
      R.at mixed 15 [1, 5, 6] (st := LB Tryz.prog Tryz.f105 z k (IntKind.i64.wrap (n.tdiv 2)) (IntKind.i64.wrap (i + 1))) (by kernel_rfl) ?_
    rw [tdiv_pos n0, wrap_i64_of (n := n / 2) (by omega) (by omega), wrap_i64_of (n := i + 1) (by omega) (by omega), ← pow_half]
    exact bit_loop z k k0 k1 m (n / 2) (i + 1) (by omega) (by omega) (by omega) (by omega)

theorem low_bit (x : Int) (i : Nat) (h : i < 16) : x % 65536 / 2 ^ i % 2 = x / 2 ^ i % 2 := by
  have : i = 0 ∨ i = 1 ∨ i = 2 ∨ i = 3 ∨ i = 4 ∨ i = 5 ∨ i = 6 ∨ i = 7 ∨ i = 8 ∨ i = 9 ∨ i = 10 ∨ i = 11 ∨ i = 12 ∨ i = 13 ∨ i = 14 ∨ i = 15 := by omega
  rcases this with rfl | rfl | rfl | rfl | rfl | rfl | rfl | rfl | rfl | rfl | rfl | rfl | rfl | rfl | rfl | rfl <;> omega

theorem digit_bit (z k p : Int) (j : Nat) (hk : k / 16 = j) (k0 : 0 ≤ k) (hp : (2 : Int) ^ (16 * j) = p) : z / p % 65536 / 2 ^ (k % 16).toNat % 2 = z / 2 ^ k.toNat % 2 := by
  have hp0 : 0 ≤ p := by rw [← hp]; exact Int.le_of_lt (Int.pow_pos (by omega))
  rw [low_bit _ _ (by omega), Int.ediv_ediv_of_nonneg hp0, ← hp, ← Int.pow_add]
  congr 3
  omega

theorem c_bit (z k : Int) (k0 : 0 ≤ k) (k1 : k ≤ 127) : Con Tryz.prog 105 [DI z, .int .i64 k] (.int .i64 (z / 2 ^ k.toNat % 2)) := by
  refine Con.run Tryz.func105 (by kernel_rfl) rfl ?_
  have e : IntKind.i64.wrap (k.tdiv 16) = k / 16 := by rw [tdiv_pos k0, wrap_i64_of (by omega) (by omega)]
  have go_ : ∀ (n : Int), 0 ≤ n → n ≤ 65535 → RunsE Tryz.prog 105 0 (LB Tryz.prog Tryz.f105 z k n 0) (.int .i64 (n / 2 ^ (k % 16).toNat % 2)) := fun n n0 n1 => bit_loop z k k0 k1 _ n 0 n0 n1 (by omega) (by omega)
  have hj : k / 16 = (0 : Nat) ∨ k / 16 = (1 : Nat) ∨ k / 16 = (2 : Nat) ∨ k / 16 = (3 : Nat) ∨ k / 16 = (4 : Nat) ∨ k / 16 = (5 : Nat) ∨ k / 16 = (6 : Nat) ∨ k / 16 = (7 : Nat) := by omega
  rcases hj with h | h | h | h | h | h | h | h
  · rw [← digit_bit z k 1 0 h k0 (by decide)]
    refine R.spell mixed 9 8 (.int .i64 (IntKind.i64.wrap (k.tdiv 16))) (.int .i64 0) (by rw [e, h]; rfl) (by kernel_rfl) <| R.at mixed 11 [1, 5, 6] (st := LB Tryz.prog Tryz.f105 z k (z % 65536) 0) (by kernel_rfl) ?_
    rw [Int.ediv_one]
    exact go_ _ (by omega) (by omega)
  · rw [← digit_bit z k 65536 1 h k0 (by decide)]
    exact R.spell mixed 9 8 (.int .i64 (IntKind.i64.wrap (k.tdiv 16))) (.int .i64 1) (by rw [e, h]; rfl) (by kernel_rfl) <| R.at mixed 11 [1, 5, 6] (st := LB Tryz.prog Tryz.f105 z k (z / 65536 % 65536) 0) (by kernel_rfl) (go_ _ (by omega) (by omega))
  · rw [← digit_bit z k 4294967296 2 h k0 (by decide)]
    exact R.spell mixed 9 8 (.int .i64 (IntKind.i64.wrap (k.tdiv 16))) (.int .i64 2) (by rw [e, h]; rfl) (by kernel_rfl) <| R.at mixed 11 [1, 5, 6] (st := LB Tryz.prog Tryz.f105 z k (z / 4294967296 % 65536) 0) (by kernel_rfl) (go_ _ (by omega) (by omega))
  · rw [← digit_bit z k 281474976710656 3 h k0 (by decide)]
    exact R.spell mixed 9 8 (.int .i64 (IntKind.i64.wrap (k.tdiv 16))) (.int .i64 3) (by rw [e, h]; rfl) (by kernel_rfl) <| R.at mixed 11 [1, 5, 6] (st := LB Tryz.prog Tryz.f105 z k (z / 281474976710656 % 65536) 0) (by kernel_rfl) (go_ _ (by omega) (by omega))
  · rw [← digit_bit z k 18446744073709551616 4 h k0 (by decide)]
    exact R.spell mixed 9 8 (.int .i64 (IntKind.i64.wrap (k.tdiv 16))) (.int .i64 4) (by rw [e, h]; rfl) (by kernel_rfl) <| R.at mixed 11 [1, 5, 6] (st := LB Tryz.prog Tryz.f105 z k (z / 18446744073709551616 % 65536) 0) (by kernel_rfl) (go_ _ (by omega) (by omega))
  · rw [← digit_bit z k 1208925819614629174706176 5 h k0 (by decide)]
    exact R.spell mixed 9 8 (.int .i64 (IntKind.i64.wrap (k.tdiv 16))) (.int .i64 5) (by rw [e, h]; rfl) (by kernel_rfl) <| R.at mixed 11 [1, 5, 6] (st := LB Tryz.prog Tryz.f105 z k (z / 1208925819614629174706176 % 65536) 0) (by kernel_rfl) (go_ _ (by omega) (by omega))
  · rw [← digit_bit z k 79228162514264337593543950336 6 h k0 (by decide)]
    exact R.spell mixed 9 8 (.int .i64 (IntKind.i64.wrap (k.tdiv 16))) (.int .i64 6) (by rw [e, h]; rfl) (by kernel_rfl) <| R.at mixed 11 [1, 5, 6] (st := LB Tryz.prog Tryz.f105 z k (z / 79228162514264337593543950336 % 65536) 0) (by kernel_rfl) (go_ _ (by omega) (by omega))
  · rw [← digit_bit z k 5192296858534827628530496329220096 7 h k0 (by decide)]
    exact R.spell mixed 9 8 (.int .i64 (IntKind.i64.wrap (k.tdiv 16))) (.int .i64 7) (by rw [e, h]; rfl) (by kernel_rfl) <| R.at mixed 11 [1, 5, 6] (st := LB Tryz.prog Tryz.f105 z k (z / 5192296858534827628530496329220096 % 65536) 0) (by kernel_rfl) (go_ _ (by omega) (by omega))

/-! ### Amounts -/
theorem sg_of {z : Int} (z1 : -170141183460469231731687303715884105728 ≤ z) (z2 : z ≤ 170141183460469231731687303715884105727) : sg z = z := by unfold sg; omega

theorem c_ramount (z : Int) (z1 : -170141183460469231731687303715884105728 ≤ z) (z2 : z ≤ 170141183460469231731687303715884105727) : Con Tryz.prog 103 [DI z] (DI z.natAbs) := by
  refine Con.run Tryz.func103 (by kernel_rfl) rfl ?_
  have e := sg_of z1 z2
  refine R.call mixed (below_ z) (by kernel_rfl) ?_
  rcases Decidable.em (z < 0) with hz | hz
  · rw [show ((z.natAbs : Int)) = -z by omega]
    exact R.cond mixed 1 (decide (sg z < 0)) true (by rw [e]; exact decide_eq_true hz) (by kernel_rfl) <| R.call mixed (c_rneg z) (by kernel_rfl) <| R.fin mixed Tryz.func103 (by kernel_rfl)
  · rw [show ((z.natAbs : Int)) = z by omega]
    exact R.cond mixed 1 (decide (sg z < 0)) false (by rw [e]; exact decide_eq_false hz) (by kernel_rfl) <| R.fin mixed Tryz.func103 (by kernel_rfl)

end

end Go.Proofs.YtegmkkpdckolkaaGreat.Wide
