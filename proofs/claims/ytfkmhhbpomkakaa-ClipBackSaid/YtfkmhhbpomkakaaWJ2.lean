/- Package wide: long division, the walk. -/
import Derived.Test.YtfkmhhbpomkakaaDt21
import Derived.Test.YtfkmhhbpomkakaaWH2
namespace Go.Proofs.Ytfkmhhbpomkakaa.Wide
open Go Go.Dt Go.Proofs

def sA (P : Program) (fn : Func) : VS := afterCall (Go.Dt.go P (entry fn [.int .u64 3, .int .u64 2, .int .u64 (9223372036854775808 + 4294967290)] [])) (.int .i64 0)
def L1 (P : Program) (fn : Func) (Y s y1 y0 u u1 u0 q r : Int) : VS := puts [(2, .int .u64 Y), (8, .int .u64 s), (9, .int .u64 y1), (10, .int .u64 y0), (11, .int .u64 u), (13, .int .u64 u1), (14, .int .u64 u0), (15, .int .u64 q), (16, .int .u64 r)] (keepS [] (vadv P 72 (sA P fn)))
def J1 (P : Program) (fn : Func) (Y s y1 y0 u u1 u0 q : Int) : VS := puts [(2, .int .u64 Y), (8, .int .u64 s), (9, .int .u64 y1), (10, .int .u64 y0), (11, .int .u64 u), (13, .int .u64 u1), (14, .int .u64 u0), (15, .int .u64 q)] (keepS [] (vadv P 91 (sA P fn)))
def K1 (P : Program) (fn : Func) (Y s y1 y0 u0 q1 u : Int) : VS := puts [(2, .int .u64 Y), (8, .int .u64 s), (9, .int .u64 y1), (10, .int .u64 y0), (14, .int .u64 u0), (15, .int .u64 q1), (17, .int .u64 u)] (keepS [] (vadv P 103 (sA P fn)))
def L2 (P : Program) (fn : Func) (Y s y1 y0 u0 q1 u q r : Int) : VS := puts [(2, .int .u64 Y), (8, .int .u64 s), (9, .int .u64 y1), (10, .int .u64 y0), (14, .int .u64 u0), (15, .int .u64 q1), (16, .int .u64 r), (17, .int .u64 u), (18, .int .u64 q)] (keepS [] (vadv P 121 (sA P fn)))
def J2 (P : Program) (fn : Func) (Y s u0 q1 u q : Int) : VS := puts [(2, .int .u64 Y), (8, .int .u64 s), (14, .int .u64 u0), (15, .int .u64 q1), (17, .int .u64 u), (18, .int .u64 q)] (keepS [] (vadv P 2 (goC (vadv P 10 (setG (vadv P 6 (L2 P fn 9223372036854775808 0 2147483648 0 7 5 5 0 0)) false)) false)))


theorem round1 {Y s y1 y0 u u1 u0 q r Q : Int} {v : Value} (eY : Y = y1 * 4294967296 + y0) (b1 : 2147483648 ≤ y1) (b2 : y1 < 4294967296) (b3 : 0 ≤ y0) (b4 : y0 < 4294967296) (c1 : 0 ≤ u) (c2 : u < Y) (d1 : 0 ≤ u1) (d2 : u1 < 4294967296)
    (q1_ : 0 ≤ q) (q2_ : q ≤ 4294967297) (r1_ : 0 ≤ r) (r2_ : r < 4294967296) (T : Tri y1 y0 u u1 q r) (hQ : Q = (u * 4294967296 + u1) / Y) (hJ : RunsE Try.prog 141 0 (J1 Try.prog Try.f141 Y s y1 y0 u u1 u0 Q) v)
    (hL : r + y1 < 4294967296 → Tri y1 y0 u u1 (q - 1) (r + y1) → 0 ≤ q - 1 → RunsE Try.prog 141 0 (L1 Try.prog Try.f141 Y s y1 y0 u u1 u0 (q - 1) (r + y1)) v) : RunsE Try.prog 141 0 (L1 Try.prog Try.f141 Y s y1 y0 u u1 u0 q r) v := by
  have w1 : IntKind.u64.wrap (r + y1) = r + y1 := wrap_u64_of (by omega) (by omega)
  have w2 : 0 ≤ q - 1 → IntKind.u64.wrap (q - 1) = q - 1 := fun h => wrap_u64_of h (by omega)
  refine R.guard mixed 6 (decide (q ≥ 4294967296)) (by kernel_rfl) (fun hg => ?_) (fun hg => ?_)
  · have hg' : 4294967296 ≤ q := by simpa using hg
    have T' := T.huge (by omega) (by omega) d2 hg'
    refine R.branch mixed 31 (decide (IntKind.u64.wrap (r + y1) ≥ 4294967296)) (by kernel_rfl) (fun hb => ?_) (fun hb => ?_)
    · refine R.at mixed 2 [2, 8, 9, 10, 11, 13, 14, 15] (st := J1 Try.prog Try.f141 Y s y1 y0 u u1 u0 (IntKind.u64.wrap (q - 1))) (by kernel_rfl) ?_
      rw [w1] at hb
      rw [w2 (by omega), T'.wide (by omega) b3 b4 d1 (by omega) (by simpa using hb), ← eY, ← hQ]
      exact hJ
    · refine R.at mixed 3 [2, 8, 9, 10, 11, 13, 14, 15, 16] (st := L1 Try.prog Try.f141 Y s y1 y0 u u1 u0 (IntKind.u64.wrap (q - 1)) (IntKind.u64.wrap (r + y1))) (by kernel_rfl) ?_
      rw [w1] at hb
      rw [w1, w2 (by omega)]
      exact hL (by simpa using hb) T' (by omega)
  · have hg' : q < 4294967296 := by simpa using hg
    have p0 : 0 ≤ q * y0 := Int.mul_nonneg q1_ b3
    have p1 : q * y0 ≤ 4294967295 * 4294967295 := mul_le q1_ b3 (by omega) (by omega)
    have w3 : IntKind.u64.wrap (q * y0) = q * y0 := wrap_u64_of p0 (by omega)
    have w4 : IntKind.u64.wrap (IntKind.u64.wrap (4294967296 * r) + u1) = r * 4294967296 + u1 := by rw [wrap_u64_of (n := 4294967296 * r) (by omega) (by omega), wrap_u64_of (by omega) (by omega)]; omega
    refine R.branch mixed 10 (bif false then true else decide (IntKind.u64.wrap (q * y0) > IntKind.u64.wrap (IntKind.u64.wrap (4294967296 * r) + u1))) (by kernel_rfl) (fun hc => ?_) (fun hc => ?_)
    · have hc' : r * 4294967296 + u1 < q * y0 := by rw [cond_false, w3, w4] at hc; simpa using hc
      have T' := T.less hc'
      have hq1 : 0 ≤ q - 1 := by
        rcases Int.lt_or_le 0 q with h | h
        · omega
        · have : q = 0 := by omega
          subst this
          omega
      refine R.branch mixed 20 (decide (IntKind.u64.wrap (r + y1) ≥ 4294967296)) (by kernel_rfl) (fun hb => ?_) (fun hb => ?_)
      · refine R.at mixed 2 [2, 8, 9, 10, 11, 13, 14, 15] (st := J1 Try.prog Try.f141 Y s y1 y0 u u1 u0 (IntKind.u64.wrap (q - 1))) (by kernel_rfl) ?_
        rw [w1] at hb
        rw [w2 hq1, T'.wide (by omega) b3 b4 d1 (by omega) (by simpa using hb), ← eY, ← hQ]
        exact hJ
      · refine R.at mixed 3 [2, 8, 9, 10, 11, 13, 14, 15, 16] (st := L1 Try.prog Try.f141 Y s y1 y0 u u1 u0 (IntKind.u64.wrap (q - 1)) (IntKind.u64.wrap (r + y1))) (by kernel_rfl) ?_
        rw [w1] at hb
        rw [w1, w2 hq1]
        exact hL (by simpa using hb) T' hq1
    · have hc' : q * y0 ≤ r * 4294967296 + u1 := by rw [cond_false, w3, w4] at hc; simpa using hc
      refine R.at mixed 2 [2, 8, 9, 10, 11, 13, 14, 15] (st := J1 Try.prog Try.f141 Y s y1 y0 u u1 u0 q) (by kernel_rfl) ?_
      rw [T.exact (by omega) hc', ← eY, ← hQ]
      exact hJ

/-- The trial digit is corrected twice at most. -/
theorem trial1 {Y s y1 y0 u u1 u0 q r Q : Int} {v : Value} (eY : Y = y1 * 4294967296 + y0) (b1 : 2147483648 ≤ y1) (b2 : y1 < 4294967296) (b3 : 0 ≤ y0) (b4 : y0 < 4294967296) (c1 : 0 ≤ u) (c2 : u < Y) (d1 : 0 ≤ u1) (d2 : u1 < 4294967296)
    (hq : q = u / y1) (hr : r = u - u / y1 * y1) (hQ : Q = (u * 4294967296 + u1) / Y) (hJ : RunsE Try.prog 141 0 (J1 Try.prog Try.f141 Y s y1 y0 u u1 u0 Q) v) : RunsE Try.prog 141 0 (L1 Try.prog Try.f141 Y s y1 y0 u u1 u0 q r) v := by
  have T : Tri y1 y0 u u1 q r := by
    subst hq hr
    exact Tri.start (by omega) b3 c1 d2
  have e := Int.mul_ediv_add_emod u y1
  have e2 := Int.emod_lt_of_pos u (b := y1) (by omega)
  have e3 := Int.emod_nonneg u (b := y1) (by omega)
  rw [Int.mul_comm] at e
  have q1_ : 0 ≤ q := by subst hq; exact Int.ediv_nonneg c1 (by omega)
  have q2_ : q ≤ 4294967297 := by
    have h := T.rest
    have hr0 : 0 ≤ r := by omega
    rcases Int.lt_or_le 4294967297 q with h2 | h2
    · have := Int.mul_le_mul_of_nonneg_right (show 4294967298 ≤ q by omega) (show 0 ≤ y1 by omega)
      omega
    · exact h2
  refine round1 eY b1 b2 b3 b4 c1 c2 d1 d2 q1_ q2_ (by omega) (by omega) T hQ hJ (fun h1 T1 hq1 => ?_)
  refine round1 eY b1 b2 b3 b4 c1 c2 d1 d2 hq1 (by omega) (by omega) h1 T1 hQ hJ (fun h2 _ _ => ?_)
  omega


theorem round2 {Y s y1 y0 u0 q1 u q r Q : Int} {v : Value} (eY : Y = y1 * 4294967296 + y0) (b1 : 2147483648 ≤ y1) (b2 : y1 < 4294967296) (b3 : 0 ≤ y0) (b4 : y0 < 4294967296) (c1 : 0 ≤ u) (c2 : u < Y) (d1 : 0 ≤ u0) (d2 : u0 < 4294967296)
    (q1_ : 0 ≤ q) (q2_ : q ≤ 4294967297) (r1_ : 0 ≤ r) (r2_ : r < 4294967296) (T : Tri y1 y0 u u0 q r) (hQ : Q = (u * 4294967296 + u0) / Y) (hJ : RunsE Try.prog 141 0 (J2 Try.prog Try.f141 Y s u0 q1 u Q) v)
    (hL : r + y1 < 4294967296 → Tri y1 y0 u u0 (q - 1) (r + y1) → 0 ≤ q - 1 → RunsE Try.prog 141 0 (L2 Try.prog Try.f141 Y s y1 y0 u0 q1 u (q - 1) (r + y1)) v) : RunsE Try.prog 141 0 (L2 Try.prog Try.f141 Y s y1 y0 u0 q1 u q r) v := by
  have w1 : IntKind.u64.wrap (r + y1) = r + y1 := wrap_u64_of (by omega) (by omega)
  have w2 : 0 ≤ q - 1 → IntKind.u64.wrap (q - 1) = q - 1 := fun h => wrap_u64_of h (by omega)
  refine R.guard mixed 6 (decide (q ≥ 4294967296)) (by kernel_rfl) (fun hg => ?_) (fun hg => ?_)
  · have hg' : 4294967296 ≤ q := by simpa using hg
    have T' := T.huge (by omega) (by omega) d2 hg'
    refine R.branch mixed 31 (decide (IntKind.u64.wrap (r + y1) ≥ 4294967296)) (by kernel_rfl) (fun hb => ?_) (fun hb => ?_)
    · refine R.at mixed 2 [2, 8, 14, 15, 17, 18] (st := J2 Try.prog Try.f141 Y s u0 q1 u (IntKind.u64.wrap (q - 1))) (by kernel_rfl) ?_
      rw [w1] at hb
      rw [w2 (by omega), T'.wide (by omega) b3 b4 d1 (by omega) (by simpa using hb), ← eY, ← hQ]
      exact hJ
    · refine R.at mixed 3 [2, 8, 9, 10, 14, 15, 16, 17, 18] (st := L2 Try.prog Try.f141 Y s y1 y0 u0 q1 u (IntKind.u64.wrap (q - 1)) (IntKind.u64.wrap (r + y1))) (by kernel_rfl) ?_
      rw [w1] at hb
      rw [w1, w2 (by omega)]
      exact hL (by simpa using hb) T' (by omega)
  · have hg' : q < 4294967296 := by simpa using hg
    have p0 : 0 ≤ q * y0 := Int.mul_nonneg q1_ b3
    have p1 : q * y0 ≤ 4294967295 * 4294967295 := mul_le q1_ b3 (by omega) (by omega)
    have w3 : IntKind.u64.wrap (q * y0) = q * y0 := wrap_u64_of p0 (by omega)
    have w4 : IntKind.u64.wrap (IntKind.u64.wrap (4294967296 * r) + u0) = r * 4294967296 + u0 := by rw [wrap_u64_of (n := 4294967296 * r) (by omega) (by omega), wrap_u64_of (by omega) (by omega)]; omega
    refine R.branch mixed 10 (bif false then true else decide (IntKind.u64.wrap (q * y0) > IntKind.u64.wrap (IntKind.u64.wrap (4294967296 * r) + u0))) (by kernel_rfl) (fun hc => ?_) (fun hc => ?_)
    · have hc' : r * 4294967296 + u0 < q * y0 := by rw [cond_false, w3, w4] at hc; simpa using hc
      have T' := T.less hc'
      have hq1 : 0 ≤ q - 1 := by
        rcases Int.lt_or_le 0 q with h | h
        · omega
        · have : q = 0 := by omega
          subst this
          omega
      refine R.branch mixed 20 (decide (IntKind.u64.wrap (r + y1) ≥ 4294967296)) (by kernel_rfl) (fun hb => ?_) (fun hb => ?_)
      · refine R.at mixed 2 [2, 8, 14, 15, 17, 18] (st := J2 Try.prog Try.f141 Y s u0 q1 u (IntKind.u64.wrap (q - 1))) (by kernel_rfl) ?_
        rw [w1] at hb
        rw [w2 hq1, T'.wide (by omega) b3 b4 d1 (by omega) (by simpa using hb), ← eY, ← hQ]
        exact hJ
      · refine R.at mixed 3 [2, 8, 9, 10, 14, 15, 16, 17, 18] (st := L2 Try.prog Try.f141 Y s y1 y0 u0 q1 u (IntKind.u64.wrap (q - 1)) (IntKind.u64.wrap (r + y1))) (by kernel_rfl) ?_
        rw [w1] at hb
        rw [w1, w2 hq1]
        exact hL (by simpa using hb) T' hq1
    · have hc' : q * y0 ≤ r * 4294967296 + u0 := by rw [cond_false, w3, w4] at hc; simpa using hc
      refine R.at mixed 2 [2, 8, 14, 15, 17, 18] (st := J2 Try.prog Try.f141 Y s u0 q1 u q) (by kernel_rfl) ?_
      rw [T.exact (by omega) hc', ← eY, ← hQ]
      exact hJ

/-- The trial digit is corrected twice at most. -/
theorem trial2 {Y s y1 y0 u0 q1 u q r Q : Int} {v : Value} (eY : Y = y1 * 4294967296 + y0) (b1 : 2147483648 ≤ y1) (b2 : y1 < 4294967296) (b3 : 0 ≤ y0) (b4 : y0 < 4294967296) (c1 : 0 ≤ u) (c2 : u < Y) (d1 : 0 ≤ u0) (d2 : u0 < 4294967296)
    (hq : q = u / y1) (hr : r = u - u / y1 * y1) (hQ : Q = (u * 4294967296 + u0) / Y) (hJ : RunsE Try.prog 141 0 (J2 Try.prog Try.f141 Y s u0 q1 u Q) v) : RunsE Try.prog 141 0 (L2 Try.prog Try.f141 Y s y1 y0 u0 q1 u q r) v := by
  have T : Tri y1 y0 u u0 q r := by
    subst hq hr
    exact Tri.start (by omega) b3 c1 d2
  have e := Int.mul_ediv_add_emod u y1
  have e2 := Int.emod_lt_of_pos u (b := y1) (by omega)
  have e3 := Int.emod_nonneg u (b := y1) (by omega)
  rw [Int.mul_comm] at e
  have q1_ : 0 ≤ q := by subst hq; exact Int.ediv_nonneg c1 (by omega)
  have q2_ : q ≤ 4294967297 := by
    have h := T.rest
    have hr0 : 0 ≤ r := by omega
    rcases Int.lt_or_le 4294967297 q with h2 | h2
    · have := Int.mul_le_mul_of_nonneg_right (show 4294967298 ≤ q by omega) (show 0 ≤ y1 by omega)
      omega
    · exact h2
  refine round2 eY b1 b2 b3 b4 c1 c2 d1 d2 q1_ q2_ (by omega) (by omega) T hQ hJ (fun h1 T1 hq1 => ?_)
  refine round2 eY b1 b2 b3 b4 c1 c2 d1 d2 hq1 (by omega) (by omega) h1 T1 hQ hJ (fun h2 _ _ => ?_)
  omega

end Go.Proofs.Ytfkmhhbpomkakaa.Wide
