/- Polygons: corners as cells, and what a polygon is cut off to. -/
import Derived.Test.YtfkmhhbpomkakaaCB
import Derived.Test.YtfkmhhbpomkakaaDt29
namespace Go.Proofs.Ytfkmhhbpomkakaa.Pol
open Go Go.Dt Go.Proofs Go.Proofs.Ytfkmhhbpomkakaa.Clip
set_option linter.unusedVariables false

structure Cr where
  x : Int
  y : Int
  z : Int
  w : Int
  a : Int
  b : Int
  c : Int
  d : Int
  e : Int
  f : Int
def c0 : Cr := ⟨0, 0, 0, 0, 0, 0, 0, 0, 0, 0⟩
abbrev crL (c : Cr) : List Value := [.int .i64 c.x, .int .i64 c.y, .int .i64 c.z, .int .i64 c.w, .int .i64 c.a, .int .i64 c.b, .int .i64 c.c, .int .i64 c.d, .int .i64 c.e, .int .i64 c.f]
abbrev crV (c : Cr) : Value := .agg ⟨crL c⟩
def crs : List Cr → List Value
  | [] => []
  | c :: l => crL c ++ crs l
theorem crs_length : ∀ l : List Cr, (crs l).length = l.length * 10
  | [] => rfl
  | c :: l => by
    have h := crs_length l
    show (crL c ++ crs l).length = (l.length + 1) * 10
    rw [List.length_append, h]
    show 10 + l.length * 10 = _
    omega
theorem crs_append : ∀ l m : List Cr, crs (l ++ m) = crs l ++ crs m
  | [], m => rfl
  | c :: l, m => by
    show crL c ++ crs (l ++ m) = (crL c ++ crs l) ++ crs m
    rw [crs_append l m, List.append_assoc]
theorem crs_one (c : Cr) : crs [c] = crL c := by unfold crs crs; exact List.append_nil _
theorem crs_snoc (l : List Cr) (c : Cr) : crs l ++ crL c = crs (l ++ [c]) := by rw [crs_append, crs_one]
theorem crs_get : ∀ (l : List Cr) (k : Nat), k < l.length → ((crs l).drop (k * 10)).take 10 = crL (l.getD k c0)
  | [], k, h => absurd h (Nat.not_lt_zero _)
  | c :: l, 0, h => by
    unfold crs
    rfl
  | c :: l, k + 1, h => by
    unfold crs
    rw [List.drop_append, show (k + 1) * 10 = 10 + k * 10 by omega]
    have h1 : (crL c).drop (10 + k * 10) = [] := List.drop_eq_nil_of_le (by show 10 ≤ _; omega)
    rw [h1, show 10 + k * 10 - (crL c).length = k * 10 by show 10 + k * 10 - 10 = _; omega, List.nil_append, crs_get l k (by simpa using h)]
    rfl
theorem crs_plains : ∀ l : List Cr, plains (crs l) = true
  | [] => rfl
  | c :: l => by
    have := crs_plains l
    simp only [crs, crL, List.cons_append, List.nil_append, plains, plain, this, Bool.and_self]
theorem crs_all : ∀ l : List Cr, (crs l).all one = true
  | [] => rfl
  | c :: l => by
    have := crs_all l
    simp only [crs, crL, List.cons_append, List.nil_append, List.all_cons, one, this, Bool.and_self]
theorem crs_take (l : List Cr) : ((crs l).drop 0).take (l.length * 10) = crs l := by
  rw [List.drop_zero, ← crs_length, List.take_length]

def mayR (c : Cr) : Prop := mayC c.x c.y c.z c.w c.a c.b c.c c.d c.e c.f
abbrev farC (k : Int) (c : Cr) : Int := farI k c.x c.y c.z c.w
def cutC (k : Int) (a b : Cr) : Cr :=
  let D := farC k a
  let E := farC k b
  ⟨mx k (bet a.x b.x D E) (bet a.w b.w D E), my k (bet a.y b.y D E) (bet a.w b.w D E), mz k (bet a.z b.z D E) (bet a.w b.w D E), mw k (bet a.w b.w D E), bet a.a b.a D E, bet a.b b.b D E, bet a.c b.c D E, bet a.d b.d D E, bet a.e b.e D E, bet a.f b.f D E⟩
/-- What a corner and the next one give. -/
def stepAt (k : Int) (a b : Cr) : List Cr :=
  if 0 ≤ farC k a then (if 0 ≤ farC k b then [a] else [a, cutC k a b]) else (if 0 ≤ farC k b then [cutC k b a] else [])
def flat (k : Int) (ps : List Cr) : Nat → Nat → List Cr
  | 0, _ => []
  | d + 1, i => stepAt k (ps.getD i c0) (ps.getD ((i + 1) % ps.length) c0) ++ flat k ps d (i + 1)
def atL (k : Int) (ps : List Cr) : List Cr := flat k ps ps.length 0
def outV (b : Nat) : List Cr → Value
  | [] => .slice none 0 0
  | _ :: l => .slice (some ⟨b, 0, none⟩) (l.length + 1) (l.length + 1)
def outM : List Cr → List Blk
  | [] => []
  | c :: l => [.cells (crs (c :: l)) 10 true]
abbrev A0 : Option Addr := some ⟨0, 0, none⟩
abbrev A1 : Option Addr := some ⟨1, 0, none⟩
abbrev sl (a : Option Addr) (n : Nat) : Value := .slice a n n
abbrev num (n : Int) : Value := .int .i64 n

end Go.Proofs.Ytfkmhhbpomkakaa.Pol
