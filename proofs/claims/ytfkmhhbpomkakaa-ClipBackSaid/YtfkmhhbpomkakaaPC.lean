/- Polygons: checks, sameness, counts; what the two ways of cutting off answer. -/
import Derived.Test.YtfkmhhbpomkakaaPB
namespace Go.Proofs.Ytfkmhhbpomkakaa.Pol
open Go Go.Dt Go.Proofs Go.Proofs.Ytfkmhhbpomkakaa.Clip Go.Proofs.Ytfkmhhbpomkakaa.Wide
set_option linter.unusedVariables false
set_option linter.unusedSimpArgs false

def mayB (c : Cr) : Bool := decide (mayC c.x c.y c.z c.w c.a c.b c.c c.d c.e c.f)
theorem mayB_iff {c : Cr} : mayB c = true ↔ mayR c := decide_eq_true_iff
def eqC (p c : Cr) : Bool := (p.x == c.x && (p.y == c.y && (p.z == c.z && (p.w == c.w && true)))) && ((p.a == c.a && (p.b == c.b && (p.c == c.c && (p.d == c.d && (p.e == c.e && (p.f == c.f && true)))))) && true)
theorem eqC_self (c : Cr) : eqC c c = true := by simp [eqC]
theorem eqC_iff {p c : Cr} : eqC p c = true ↔ p = c := by
  constructor
  · intro h
    simp only [eqC, Bool.and_true, Bool.and_eq_true, beq_iff_eq] at h
    cases p; cases c
    simp_all
  · rintro rfl; exact eqC_self _
def mF (ps : List Cr) : Nat → Nat → Bool
  | 0, _ => true
  | d + 1, i => bif mayB (ps.getD i c0) then mF ps d (i + 1) else false
def hasF (ps : List Cr) (c : Cr) : Nat → Nat → Int → Int
  | 0, _, n => n
  | d + 1, i, n => bif eqC (ps.getD i c0) c then hasF ps c d (i + 1) (IntKind.i64.wrap (n + 1)) else hasF ps c d (i + 1) n
theorem mF_all {ps : List Cr} : ∀ (d i : Nat), mF ps d i = true ↔ ∀ j, i ≤ j → j < i + d → mayR (ps.getD j c0)
  | 0, i => ⟨fun _ j h1 h2 => by omega, fun _ => rfl⟩
  | d + 1, i => by
    unfold mF
    cases h : mayB (ps.getD i c0) with
    | true =>
      rw [cond_true, mF_all d (i + 1)]
      refine ⟨fun h2 j h3 h4 => ?_, fun h2 j h3 h4 => h2 j (by omega) (by omega)⟩
      rcases Nat.eq_or_lt_of_le h3 with e | e
      · subst e; exact mayB_iff.1 h
      · exact h2 j e (by omega)
    | false =>
      rw [cond_false]
      exact ⟨fun h2 => (by cases h2), fun h2 => absurd (mayB_iff.2 (h2 i (by omega) (by omega))) (by rw [h]; decide)⟩
def chkE (ps : List Cr) : Int := if ps.length > 16 then 4 else if mF ps ps.length 0 = true then 0 else 3
def H52 (P : Program) (fn : Func) (ps : List Cr) (i : Int) : VS := puts [(10, num i)] (keepS [8, 9, 10] (vadv P 11 (goC (vadv P 11 (entry fn [sl A0 ps.length] [.cells (crs ps) 0 false])) false)))
def H20 (P : Program) (fn : Func) (ps : List Cr) (i : Int) : VS := puts [(3, num i)] (keepS [0, 3] (vadv P 10 (goC (vadv P 11 (entry fn [sl A0 ps.length] [.cells (crs ps) 0 false])) false)))
def H21 (P : Program) (fn : Func) (ps qs : List Cr) (i : Int) : VS := puts [(5, num i)] (keepS [0, 1, 5] (vadv P 10 (goC (vadv P 13 (entry fn [sl A0 ps.length, sl A1 qs.length] [.cells (crs ps) 0 false, .cells (crs qs) 0 false])) false)))
def H23 (P : Program) (fn : Func) (ps : List Cr) (c : Cr) (n i : Int) : VS := puts [(5, num n), (6, num i)] (keepS [0, 3, 5, 6] (vadv P 18 (entry fn [sl A0 ps.length, crV c] [.cells (crs ps) 0 false])))

theorem chk52_loop {ps : List Cr} (hn : ps.length ≤ 100000) : ∀ (d i : Nat), i + d = ps.length → RunsE Try.prog 52 1 (H52 Try.prog Try.f52 ps i) (num (if mF ps d i = true then 0 else 3)) := by
  intro d
  induction d with
  | zero =>
    intro i hi
    exact R.cond mixed 4 (decide ((↑i : Int) < (↑ps.length : Int))) false (by simp; omega) (by kernel_rfl) <|
      R.finIs mixed Try.func52 (Value.int IntKind.i64 0) (by kernel_rfl) (by rfl)
  | succ d ih =>
    intro i hi
    exact R.cond mixed 4 (decide ((↑i : Int) < (↑ps.length : Int))) true (by simp; omega) (by kernel_rfl) <|
      R.idx mixed 5 0 (0) (ps.length) 10 IntKind.i64 ((↑i : Int)) (i * 10) (by kernel_rfl) (by omega) (by omega) (by first | omega | simp) <|
      R.loadN mixed 0 10 0 (i * 10) (crs ps) [Value.int IntKind.i64 (ps.getD i c0).x, Value.int IntKind.i64 (ps.getD i c0).y, Value.int IntKind.i64 (ps.getD i c0).z, Value.int IntKind.i64 (ps.getD i c0).w, Value.int IntKind.i64 (ps.getD i c0).a, Value.int IntKind.i64 (ps.getD i c0).b, Value.int IntKind.i64 (ps.getD i c0).c, Value.int IntKind.i64 (ps.getD i c0).d, Value.int IntKind.i64 (ps.getD i c0).e, Value.int IntKind.i64 (ps.getD i c0).f] (by kernel_rfl) (by rw [crs_length]; omega) (by exact crs_get _ _ (by omega)) <|
      R.call mixed (show Con Try.prog 48 [Value.agg ⟨[Value.int IntKind.i64 (ps.getD i c0).x, Value.int IntKind.i64 (ps.getD i c0).y, Value.int IntKind.i64 (ps.getD i c0).z, Value.int IntKind.i64 (ps.getD i c0).w, Value.int IntKind.i64 (ps.getD i c0).a, Value.int IntKind.i64 (ps.getD i c0).b, Value.int IntKind.i64 (ps.getD i c0).c, Value.int IntKind.i64 (ps.getD i c0).d, Value.int IntKind.i64 (ps.getD i c0).e, Value.int IntKind.i64 (ps.getD i c0).f]⟩] (Value.bool (decide (mayC (ps.getD i c0).x (ps.getD i c0).y (ps.getD i c0).z (ps.getD i c0).w (ps.getD i c0).a (ps.getD i c0).b (ps.getD i c0).c (ps.getD i c0).d (ps.getD i c0).e (ps.getD i c0).f))) from c_may _ _ _ _ _ _ _ _ _ _) (by kernel_rfl) <|
      R.branch mixed 2 (!decide (mayC (ps.getD i c0).x (ps.getD i c0).y (ps.getD i c0).z (ps.getD i c0).w (ps.getD i c0).a (ps.getD i c0).b (ps.getD i c0).c (ps.getD i c0).d (ps.getD i c0).e (ps.getD i c0).f)) (by kernel_rfl)
       (fun h1 =>
         R.finIs mixed Try.func52 (Value.int IntKind.i64 3) (by kernel_rfl) (by (have h : mayB (ps.getD i c0) = false := (by have g : (!mayB (ps.getD i c0)) = true := h1; simpa using g)); (have e : mF ps (d + 1) i = false := by unfold mF; rw [h]; rfl); rw [e]; rfl)
       )
       (fun h1 =>
         R.atG mixed 8 [8, 9, 10] [.view 0] [crs ps] (st := H52 Try.prog Try.f52 ps (IntKind.i64.wrap ((i : Int) + 1))) (by kernel_rfl) (by kernel_rfl) (by kernel_rfl) ⟨crs_plains _, trivial⟩ (by kernel_rfl) (by kernel_rfl) (by
           have e : mF ps (d + 1) i = mF ps d (i + 1) := by unfold mF; rw [show mayB (ps.getD i c0) = true by have g : (!mayB (ps.getD i c0)) = false := h1; simpa using g, cond_true]; cases d <;> rfl
           rw [e, wrap_succ (by omega)]; exact ih (i + 1) (by omega))
       )
theorem c_chk52 {ps : List Cr} : ConM Try.prog 52 [sl A0 ps.length] [.cells (crs ps) 0 false] (num (chkE ps)) (List.replicate 1 .gone) := by
  refine ConM.reads Try.func52 (by kernel_rfl) rfl ?_
  unfold chkE
  rcases Nat.lt_or_ge 16 ps.length with h | h
  · rw [if_pos h]
    exact R.cond mixed 11 (decide ((ps.length : Int) > 16)) true (by simp; omega) (by kernel_rfl) <| R.fin mixed Try.func52 (by kernel_rfl)
  · rw [if_neg (by omega)]
    exact R.cond mixed 11 (decide ((ps.length : Int) > 16)) false (by simp; omega) (by kernel_rfl) <| R.at mixed 11 [8, 9, 10] (st := H52 Try.prog Try.f52 ps (0 : Nat)) (by kernel_rfl) (chk52_loop (by omega) ps.length 0 (by omega))
theorem c_chk52N : ConM Try.prog 52 [sl none 0] [.cells [] 0 false] (num 0) (List.replicate 1 .gone) := ConM.reads Try.func52 (by kernel_rfl) rfl <| R.fin mixed Try.func52 (by kernel_rfl)

theorem chk20_loop {ps : List Cr} (hn : ps.length ≤ 100000) : ∀ (d i : Nat), i + d = ps.length → RunsE Try.prog 20 1 (H20 Try.prog Try.f20 ps i) (num (if mF ps d i = true then 0 else 3)) := by
  intro d
  induction d with
  | zero =>
    intro i hi
    exact R.cond mixed 6 (decide ((↑i : Int) < (↑ps.length : Int))) false (by simp; omega) (by kernel_rfl) <|
      R.finIs mixed Try.func20 (Value.int IntKind.i64 0) (by kernel_rfl) (by rfl)
  | succ d ih =>
    intro i hi
    exact R.cond mixed 6 (decide ((↑i : Int) < (↑ps.length : Int))) true (by simp; omega) (by kernel_rfl) <|
      R.idx mixed 7 0 (0) (ps.length) 10 IntKind.i64 ((↑i : Int)) (i * 10) (by kernel_rfl) (by omega) (by omega) (by first | omega | simp) <|
      R.loadN mixed 0 10 0 (i * 10) (crs ps) [Value.int IntKind.i64 (ps.getD i c0).x, Value.int IntKind.i64 (ps.getD i c0).y, Value.int IntKind.i64 (ps.getD i c0).z, Value.int IntKind.i64 (ps.getD i c0).w, Value.int IntKind.i64 (ps.getD i c0).a, Value.int IntKind.i64 (ps.getD i c0).b, Value.int IntKind.i64 (ps.getD i c0).c, Value.int IntKind.i64 (ps.getD i c0).d, Value.int IntKind.i64 (ps.getD i c0).e, Value.int IntKind.i64 (ps.getD i c0).f] (by kernel_rfl) (by rw [crs_length]; omega) (by exact crs_get _ _ (by omega)) <|
      R.call mixed (show Con Try.prog 16 [Value.agg ⟨[Value.int IntKind.i64 (ps.getD i c0).x, Value.int IntKind.i64 (ps.getD i c0).y, Value.int IntKind.i64 (ps.getD i c0).z, Value.int IntKind.i64 (ps.getD i c0).w, Value.int IntKind.i64 (ps.getD i c0).a, Value.int IntKind.i64 (ps.getD i c0).b, Value.int IntKind.i64 (ps.getD i c0).c, Value.int IntKind.i64 (ps.getD i c0).d, Value.int IntKind.i64 (ps.getD i c0).e, Value.int IntKind.i64 (ps.getD i c0).f]⟩] (Value.bool (decide (mayC (ps.getD i c0).x (ps.getD i c0).y (ps.getD i c0).z (ps.getD i c0).w (ps.getD i c0).a (ps.getD i c0).b (ps.getD i c0).c (ps.getD i c0).d (ps.getD i c0).e (ps.getD i c0).f))) from c_rmayC _ _ _ _ _ _ _ _ _ _) (by kernel_rfl) <|
      R.branch mixed 2 (!decide (mayC (ps.getD i c0).x (ps.getD i c0).y (ps.getD i c0).z (ps.getD i c0).w (ps.getD i c0).a (ps.getD i c0).b (ps.getD i c0).c (ps.getD i c0).d (ps.getD i c0).e (ps.getD i c0).f)) (by kernel_rfl)
       (fun h1 =>
         R.finIs mixed Try.func20 (Value.int IntKind.i64 3) (by kernel_rfl) (by (have h : mayB (ps.getD i c0) = false := (by have g : (!mayB (ps.getD i c0)) = true := h1; simpa using g)); (have e : mF ps (d + 1) i = false := by unfold mF; rw [h]; rfl); rw [e]; rfl)
       )
       (fun h1 =>
         R.at mixed 10 [0, 3] (st := H20 Try.prog Try.f20 ps (IntKind.i64.wrap ((i : Int) + 1))) (by kernel_rfl) (by
           have e : mF ps (d + 1) i = mF ps d (i + 1) := by unfold mF; rw [show mayB (ps.getD i c0) = true by have g : (!mayB (ps.getD i c0)) = false := h1; simpa using g, cond_true]; cases d <;> rfl
           rw [e, wrap_succ (by omega)]; exact ih (i + 1) (by omega))
       )
theorem c_chk20 {ps : List Cr} : ConM Try.prog 20 [sl A0 ps.length] [.cells (crs ps) 0 false] (num (chkE ps)) (List.replicate 1 .gone) := by
  refine ConM.reads Try.func20 (by kernel_rfl) rfl ?_
  unfold chkE
  rcases Nat.lt_or_ge 16 ps.length with h | h
  · rw [if_pos h]
    exact R.cond mixed 11 (decide ((ps.length : Int) > 16)) true (by simp; omega) (by kernel_rfl) <| R.fin mixed Try.func20 (by kernel_rfl)
  · rw [if_neg (by omega)]
    exact R.cond mixed 11 (decide ((ps.length : Int) > 16)) false (by simp; omega) (by kernel_rfl) <| R.at mixed 10 [0, 3] (st := H20 Try.prog Try.f20 ps (0 : Nat)) (by kernel_rfl) (chk20_loop (by omega) ps.length 0 (by omega))
theorem c_chk20N : ConM Try.prog 20 [sl none 0] [.cells [] 0 false] (num 0) (List.replicate 1 .gone) := ConM.reads Try.func20 (by kernel_rfl) rfl <| R.fin mixed Try.func20 (by kernel_rfl)

theorem same_loop {ps : List Cr} (hn : ps.length ≤ 100000) : ∀ (d i : Nat), i + d = ps.length → RunsE Try.prog 21 2 (H21 Try.prog Try.f21 ps ps i) (.bool true) := by
  intro d
  induction d with
  | zero =>
    intro i hi
    exact R.cond mixed 6 (decide ((↑i : Int) < (↑ps.length : Int))) false (by simp; omega) (by kernel_rfl) <|
      R.finIs mixed Try.func21 (Value.bool true) (by kernel_rfl) (by rfl)
  | succ d ih =>
    intro i hi
    exact R.cond mixed 6 (decide ((↑i : Int) < (↑ps.length : Int))) true (by simp; omega) (by kernel_rfl) <|
      R.idx mixed 7 0 (0) (ps.length) 10 IntKind.i64 ((↑i : Int)) (i * 10) (by kernel_rfl) (by omega) (by omega) (by first | omega | simp) <|
      R.loadN mixed 0 10 0 (i * 10) (crs ps) [Value.int IntKind.i64 (ps.getD i c0).x, Value.int IntKind.i64 (ps.getD i c0).y, Value.int IntKind.i64 (ps.getD i c0).z, Value.int IntKind.i64 (ps.getD i c0).w, Value.int IntKind.i64 (ps.getD i c0).a, Value.int IntKind.i64 (ps.getD i c0).b, Value.int IntKind.i64 (ps.getD i c0).c, Value.int IntKind.i64 (ps.getD i c0).d, Value.int IntKind.i64 (ps.getD i c0).e, Value.int IntKind.i64 (ps.getD i c0).f] (by kernel_rfl) (by rw [crs_length]; omega) (by exact crs_get _ _ (by omega)) <|
      R.idx mixed 2 1 (0) (ps.length) 10 IntKind.i64 ((↑i : Int)) (i * 10) (by kernel_rfl) (by omega) (by omega) (by first | omega | simp) <|
      R.loadN mixed 0 10 1 (i * 10) (crs ps) [Value.int IntKind.i64 (ps.getD i c0).x, Value.int IntKind.i64 (ps.getD i c0).y, Value.int IntKind.i64 (ps.getD i c0).z, Value.int IntKind.i64 (ps.getD i c0).w, Value.int IntKind.i64 (ps.getD i c0).a, Value.int IntKind.i64 (ps.getD i c0).b, Value.int IntKind.i64 (ps.getD i c0).c, Value.int IntKind.i64 (ps.getD i c0).d, Value.int IntKind.i64 (ps.getD i c0).e, Value.int IntKind.i64 (ps.getD i c0).f] (by kernel_rfl) (by rw [crs_length]; omega) (by exact crs_get _ _ (by omega)) <|
      R.cond mixed 2 (bif true then !((ps.getD i c0).x == (ps.getD i c0).x && ((ps.getD i c0).y == (ps.getD i c0).y && ((ps.getD i c0).z == (ps.getD i c0).z && ((ps.getD i c0).w == (ps.getD i c0).w && true))) && ((ps.getD i c0).a == (ps.getD i c0).a && ((ps.getD i c0).b == (ps.getD i c0).b && ((ps.getD i c0).c == (ps.getD i c0).c && ((ps.getD i c0).d == (ps.getD i c0).d && ((ps.getD i c0).e == (ps.getD i c0).e && ((ps.getD i c0).f == (ps.getD i c0).f && true))))) && true)) else (ps.getD i c0).x == (ps.getD i c0).x && ((ps.getD i c0).y == (ps.getD i c0).y && ((ps.getD i c0).z == (ps.getD i c0).z && ((ps.getD i c0).w == (ps.getD i c0).w && true))) && ((ps.getD i c0).a == (ps.getD i c0).a && ((ps.getD i c0).b == (ps.getD i c0).b && ((ps.getD i c0).c == (ps.getD i c0).c && ((ps.getD i c0).d == (ps.getD i c0).d && ((ps.getD i c0).e == (ps.getD i c0).e && ((ps.getD i c0).f == (ps.getD i c0).f && true))))) && true)) false (by show (!eqC (ps.getD i c0) (ps.getD i c0)) = false; rw [eqC_self]; rfl) (by kernel_rfl) <|
      R.at mixed 10 [0, 1, 5] (st := H21 Try.prog Try.f21 ps ps (IntKind.i64.wrap ((i : Int) + 1))) (by kernel_rfl) (by rw [wrap_succ (by omega)]; exact ih (i + 1) (by omega))
theorem c_same {ps : List Cr} (hn : ps.length ≤ 100000) : ConM Try.prog 21 [sl A0 ps.length, sl A1 ps.length] [.cells (crs ps) 0 false, .cells (crs ps) 0 false] (.bool true) (List.replicate 2 .gone) :=
  ConM.reads Try.func21 (by kernel_rfl) rfl <| R.cond mixed 13 ((ps.length : Int) != (ps.length : Int)) false (by simp) (by kernel_rfl) <| R.at mixed 10 [0, 1, 5] (st := H21 Try.prog Try.f21 ps ps (0 : Nat)) (by kernel_rfl) (same_loop hn ps.length 0 (by omega))
theorem c_same00 : Con Try.prog 21 [sl none 0, sl none 0] (.bool true) := Con.run Try.func21 (by kernel_rfl) rfl (R.fin mixed Try.func21 (by kernel_rfl))
theorem c_same01 : ConM Try.prog 21 [sl none 0, sl A0 0] [.cells [] 0 false] (.bool true) (List.replicate 1 .gone) := ConM.reads Try.func21 (by kernel_rfl) rfl (R.fin mixed Try.func21 (by kernel_rfl))

theorem has_loop {ps : List Cr} {c : Cr} (hn : ps.length ≤ 100000) : ∀ (d i : Nat) (n : Int), i + d = ps.length → RunsE Try.prog 23 1 (H23 Try.prog Try.f23 ps c n i) (num (hasF ps c d i n)) := by
  intro d
  induction d with
  | zero =>
    intro i n hi
    exact R.cond mixed 6 (decide ((↑i : Int) < (↑ps.length : Int))) false (by simp; omega) (by kernel_rfl) <|
      R.finIs mixed Try.func23 (Value.int IntKind.i64 n) (by kernel_rfl) (by rfl)
  | succ d ih =>
    intro i n hi
    exact R.cond mixed 6 (decide ((↑i : Int) < (↑ps.length : Int))) true (by simp; omega) (by kernel_rfl) <|
      R.idx mixed 7 0 (0) (ps.length) 10 IntKind.i64 ((↑i : Int)) (i * 10) (by kernel_rfl) (by omega) (by omega) (by first | omega | simp) <|
      R.loadN mixed 0 10 0 (i * 10) (crs ps) [Value.int IntKind.i64 (ps.getD i c0).x, Value.int IntKind.i64 (ps.getD i c0).y, Value.int IntKind.i64 (ps.getD i c0).z, Value.int IntKind.i64 (ps.getD i c0).w, Value.int IntKind.i64 (ps.getD i c0).a, Value.int IntKind.i64 (ps.getD i c0).b, Value.int IntKind.i64 (ps.getD i c0).c, Value.int IntKind.i64 (ps.getD i c0).d, Value.int IntKind.i64 (ps.getD i c0).e, Value.int IntKind.i64 (ps.getD i c0).f] (by kernel_rfl) (by rw [crs_length]; omega) (by exact crs_get _ _ (by omega)) <|
      R.branch mixed 3 (bif false then !((ps.getD i c0).x == c.x && ((ps.getD i c0).y == c.y && ((ps.getD i c0).z == c.z && ((ps.getD i c0).w == c.w && true))) && ((ps.getD i c0).a == c.a && ((ps.getD i c0).b == c.b && ((ps.getD i c0).c == c.c && ((ps.getD i c0).d == c.d && ((ps.getD i c0).e == c.e && ((ps.getD i c0).f == c.f && true))))) && true)) else (ps.getD i c0).x == c.x && ((ps.getD i c0).y == c.y && ((ps.getD i c0).z == c.z && ((ps.getD i c0).w == c.w && true))) && ((ps.getD i c0).a == c.a && ((ps.getD i c0).b == c.b && ((ps.getD i c0).c == c.c && ((ps.getD i c0).d == c.d && ((ps.getD i c0).e == c.e && ((ps.getD i c0).f == c.f && true))))) && true)) (by kernel_rfl)
       (fun h1 =>
         R.at mixed 14 [0, 3, 5, 6] (st := H23 Try.prog Try.f23 ps c (IntKind.i64.wrap (n + 1)) (IntKind.i64.wrap ((i : Int) + 1))) (by kernel_rfl) (by
           have h : eqC (ps.getD i c0) c = true := h1
           have e : hasF ps c (d + 1) i n = hasF ps c d (i + 1) (IntKind.i64.wrap (n + 1)) := by unfold hasF; rw [h, cond_true]; cases d <;> rfl
           rw [e, wrap_succ (by omega)]; exact ih (i + 1) _ (by omega))
       )
       (fun h1 =>
         R.at mixed 10 [0, 3, 5, 6] (st := H23 Try.prog Try.f23 ps c n (IntKind.i64.wrap ((i : Int) + 1))) (by kernel_rfl) (by
           have h : eqC (ps.getD i c0) c = false := h1
           have e : hasF ps c (d + 1) i n = hasF ps c d (i + 1) n := by unfold hasF; rw [h, cond_false]; cases d <;> rfl
           rw [e, wrap_succ (by omega)]; exact ih (i + 1) _ (by omega))
       )
theorem c_has23 {ps : List Cr} {c : Cr} (hn : ps.length ≤ 100000) : ConM Try.prog 23 [sl A0 ps.length, crV c] [.cells (crs ps) 0 false] (num (hasF ps c ps.length 0 0)) (List.replicate 1 .gone) :=
  ConM.reads Try.func23 (by kernel_rfl) rfl <| R.at mixed 18 [0, 3, 5, 6] (st := H23 Try.prog Try.f23 ps c 0 (0 : Nat)) (by kernel_rfl) (has_loop hn ps.length 0 0 (by omega))

theorem c_at53 {k : Int} {ps : List Cr} (hk : 0 ≤ k ∧ k ≤ 6) (hp : ∀ i, i < ps.length → mayR (ps.getD i c0)) (hn : ps.length ≤ 100000) : ConM Try.prog 53 [num k, sl A0 ps.length] [.cells (crs ps) 0 false] (outV 1 (atL k ps)) ([.cells (crs ps) 0 false] ++ outM (atL k ps)) :=
  ConM.makes Try.func53 (by kernel_rfl) <| Q.at mixed 18 [0, 1, 5, 11, 12, 13] (st := H53N Try.prog Try.f53 k ps (0 : Nat)) (by kernel_rfl) ((at53_loop hk hp hn ps.length).1 0 (by omega))
theorem c_at53N {k : Int} : ConM Try.prog 53 [num k, sl none 0] [.cells [] 0 false] (.slice none 0 0) (List.replicate 1 .gone) := ConM.reads Try.func53 (by kernel_rfl) rfl <| R.fin mixed Try.func53 (by kernel_rfl)

theorem c_at22 {k : Int} {ps : List Cr} (hk : 0 ≤ k ∧ k ≤ 6) (hp : ∀ i, i < ps.length → mayR (ps.getD i c0)) (hn : ps.length ≤ 100000) : ConM Try.prog 22 [num k, sl A0 ps.length] [.cells (crs ps) 0 false] (outV 1 (atL k ps)) ([.cells (crs ps) 0 false] ++ outM (atL k ps)) :=
  ConM.makes Try.func22 (by kernel_rfl) <| Q.at mixed 17 [0, 1, 5, 6] (st := H22N Try.prog Try.f22 k ps (0 : Nat)) (by kernel_rfl) ((at22_loop hk hp hn ps.length).1 0 (by omega))
theorem c_at22N {k : Int} : ConM Try.prog 22 [num k, sl none 0] [.cells [] 0 false] (.slice none 0 0) (List.replicate 1 .gone) := ConM.reads Try.func22 (by kernel_rfl) rfl <| R.fin mixed Try.func22 (by kernel_rfl)

end Go.Proofs.Ytfkmhhbpomkakaa.Pol
