/- Several texts in one: PAz1, PBz1, PCz1. -/
import Derived.Test.YtegmkkpdckolkaaQC24
import Derived.Test.YtegmkkpdckolkaaQC13
namespace Go.Proofs.Ytegmkkpdckolkaa.Pol

section
open Go Go.Dt Go.Proofs Go.Proofs.Ytegmkkpdckolkaa.Clip
set_option linter.unusedVariables false

structure Cr where
  x : Int
  y : Int
  z : Int
  w : Int
  a : Int
  b : Int
  c : Int
  d : Int
  e : Int
  f : Int
def c0 : Cr := ⟨0, 0, 0, 0, 0, 0, 0, 0, 0, 0⟩
abbrev crL (c : Cr) : List Value := [.int .i64 c.x, .int .i64 c.y, .int .i64 c.z, .int .i64 c.w, .int .i64 c.a, .int .i64 c.b, .int .i64 c.c, .int .i64 c.d, .int .i64 c.e, .int .i64 c.f]
abbrev crV (c : Cr) : Value := .agg ⟨crL c⟩
def mayR (c : Cr) : Prop := mayC c.x c.y c.z c.w c.a c.b c.c c.d c.e c.f
abbrev farC (k : Int) (c : Cr) : Int := farI k c.x c.y c.z c.w
def cutC (k : Int) (a b : Cr) : Cr :=
  let D := farC k a
  let E := farC k b
  ⟨mx k (bet a.x b.x D E) (bet a.w b.w D E), my k (bet a.y b.y D E) (bet a.w b.w D E), mz k (bet a.z b.z D E) (bet a.w b.w D E), mw k (bet a.w b.w D E), bet a.a b.a D E, bet a.b b.b D E, bet a.c b.c D E, bet a.d b.d D E, bet a.e b.e D E, bet a.f b.f D E⟩
/-- What a corner and the next one give. -/
def stepAt (k : Int) (a b : Cr) : List Cr :=
  if 0 ≤ farC k a then (if 0 ≤ farC k b then [a] else [a, cutC k a b]) else (if 0 ≤ farC k b then [cutC k b a] else [])
def flat (k : Int) (ps : List Cr) : Nat → Nat → List Cr
  | 0, _ => []
  | d + 1, i => stepAt k (ps.getD i c0) (ps.getD ((i + 1) % ps.length) c0) ++ flat k ps d (i + 1)
def atL (k : Int) (ps : List Cr) : List Cr := flat k ps ps.length 0
abbrev sl (a : Option Addr) (n : Nat) : Value := .slice a n n
abbrev num (n : Int) : Value := .int .i64 n

end

section
open Go Go.Dt Go.Proofs Go.Proofs.Ytegmkkpdckolkaa.Clip Go.Proofs.Ytegmkkpdckolkaa.Wide
set_option linter.unusedVariables false
set_option linter.unusedSimpArgs false

theorem nxt_mod {i n : Nat} (h : i < n) (hn : n ≤ 100000) : (IntKind.i64.wrap ((i : Int) + 1)).tmod (n : Int) = (((i + 1) % n : Nat) : Int) := by
  rw [wrap_i64_of (by omega) (by omega), Int.tmod_eq_emod_of_nonneg (by omega)]
  exact (Int.natCast_emod (i + 1) n).symm
theorem nxt_lt {i n : Nat} (h : i < n) : (i + 1) % n < n := Nat.mod_lt _ (by omega)
theorem c_cutA {k : Int} {a b : Cr} (hk : 0 ≤ k ∧ k ≤ 6) (h : mayR a) (h' : mayR b) (hd : 0 ≤ farC k a) (he : ¬ 0 ≤ farC k b) : Con Try.prog 79 [num k, crV a, crV b] (crV (cutC k a b)) := by
  obtain ⟨D, E, rfl, rfl, h1⟩ := cuts_ hk h h' hd (Int.not_le.mp he)
  exact h1
theorem flat_succ {k : Int} {ps : List Cr} {d i : Nat} {l : List Cr} (h : stepAt k (ps.getD i c0) (ps.getD ((i + 1) % ps.length) c0) = l) : flat k ps (d + 1) i = l ++ flat k ps d (i + 1) := by
  unfold flat
  rw [h]
  cases d <;> rfl
end

section
open Go Go.Dt Go.Proofs Go.Proofs.Ytegmkkpdckolkaa.Clip Go.Proofs.Ytegmkkpdckolkaa.Wide
set_option linter.unusedVariables false
set_option linter.unusedSimpArgs false

def mayB (c : Cr) : Bool := decide (mayC c.x c.y c.z c.w c.a c.b c.c c.d c.e c.f)
theorem mayB_iff {c : Cr} : mayB c = true ↔ mayR c := decide_eq_true_iff
def eqC (p c : Cr) : Bool := (p.x == c.x && (p.y == c.y && (p.z == c.z && (p.w == c.w && true)))) && ((p.a == c.a && (p.b == c.b && (p.c == c.c && (p.d == c.d && (p.e == c.e && (p.f == c.f && true)))))) && true)
end

end Go.Proofs.Ytegmkkpdckolkaa.Pol
