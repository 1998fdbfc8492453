/- Orders of steps: what reads them. -/
import Derived.Test.YtjfodgjgpeiaaaaDt26
import Derived.Test.YtjfodgjgpeiaaaaDt20
namespace Go.Proofs.Ytjfodgjgpeiaaaa.Sl
open Go Go.Dt Go.Proofs
set_option linter.unusedVariables false
set_option linter.unusedSimpArgs false

theorem mixed : Try.prog.follows .mixedOrders = true := by kernel_rfl
abbrev A0 : Option Addr := some ⟨0, 0, none⟩
abbrev sl (a : Option Addr) (n : Nat) : Value := .slice a n n
abbrev num (n : Int) : Value := .int .i64 n
/-- Is it a thread's number? -/
def okx (t x : Int) : Bool := decide (0 ≤ x) && decide (x < t)
def isF (xs : Nat → Int) (t : Int) : Nat → Nat → Bool
  | 0, _ => true
  | d + 1, k => okx t (xs k) && isF xs t d (k + 1)
def maxI (a b : Int) : Int := if a > b then a else b
def gapF (xs : Nat → Int) (t : Int) : Nat → Nat → Int → Int → Int
  | 0, _, best, _ => best
  | d + 1, k, best, n => if xs k = t then gapF xs t d (k + 1) (maxI best 0) 0 else gapF xs t d (k + 1) (maxI best (IntKind.i64.wrap (n + 1))) (IntKind.i64.wrap (n + 1))
def idxF (xs : Nat → Int) (t : Int) : Nat → Nat → Int
  | 0, _ => -1
  | d + 1, k => bif okx t (xs k) then idxF xs t d (k + 1) else k
def H20 (P : Program) (fn : Func) (n : Nat) (xs : Nat → Int) (t k : Int) : VS := puts [(5, num k)] (keepS [0, 1] (vadv P 13 (entry fn [sl A0 n, num t] [.cells (row n xs) 0 false])))
def H21 (P : Program) (fn : Func) (n : Nat) (xs : Nat → Int) (t best m k : Int) : VS := puts [(5, num best), (6, num m), (7, num k)] (keepS [0, 1] (vadv P 21 (entry fn [sl A0 n, num t] [.cells (row n xs) 0 false])))
abbrev clo (g b : Nat) : Value := .func (.func g) ⟨[]⟩ ⟨[.pointer (some ⟨b, 0, none⟩)]⟩
def H90 (P : Program) (fn : Func) (n : Nat) (xs : Nat → Int) (t k : Int) : VS := puts [(8, num k)] (keepS [0, 1, 7] (vadv P 14 (entry fn [sl A0 n, clo 85 1] [.cells (row n xs) 0 false, .cells [num t] 0 false])))

theorem c_max {a b : Int} : Con Try.prog 57 [num a, num b] (num (maxI a b)) := by
  exact Con.run Try.func57 (by kernel_rfl) rfl <|
    R.branch mixed 11 (decide (a > b)) (by kernel_rfl)
     (fun h0 =>
       R.finIs mixed Try.func57 (Value.int IntKind.i64 a) (by kernel_rfl) (by simp_all [maxI]; try (intros; omega))
     )
     (fun h0 =>
       R.finIs mixed Try.func57 (Value.int IntKind.i64 b) (by kernel_rfl) (by simp_all [maxI]; try (intros; omega))
     )
theorem c_bad {t x : Int} : ConM Try.prog 85 [num x, .pointer (some ⟨0, 0, none⟩)] [.cells [num t] 0 false] (.bool (!okx t x)) (List.replicate 1 .gone) := by
  exact ConM.reads Try.func85 (by kernel_rfl) rfl <|
    R.guard mixed 9 (decide (x < 0)) (by kernel_rfl)
     (fun h0 =>
       R.finIs mixed Try.func85 (Value.bool true) (by kernel_rfl) (by first | (simp_all [okx]; done) | (have h := h0; simp [okx] at h ⊢; rw [Bool.eq_iff_iff]; simp; omega))
     )
     (fun h0 =>
       R.finIs mixed Try.func85 (Value.bool (bif false then true else decide (x ≥ t))) (by kernel_rfl) (by first | (simp_all [okx]; done) | (have h := h0; simp [okx] at h ⊢; rw [Bool.eq_iff_iff]; simp; omega))
     )
theorem is_loop {n : Nat} {xs : Nat → Int} {t : Int} : ∀ (d k : Nat), k + d = n → n ≤ 1000000 → RunsE Try.prog 20 1 (H20 Try.prog Try.f20 n xs t k) (.bool (isF xs t d k)) := by
  intro d
  induction d with
  | zero =>
    intro k hk hn
    exact R.cond mixed 6 (decide ((↑k : Int) < (↑n : Int))) false (by simp; omega) (by kernel_rfl) <|
      R.finIs mixed Try.func20 (Value.bool true) (by kernel_rfl) (by first | (simp_all [isF, gapF, idxF]; done) | (simp_all [isF, gapF, idxF, okx]; done) | (simp_all [isF, gapF, idxF, okx]; omega) | (simp_all [isF, gapF, idxF, okx, maxI]; intros; omega))
  | succ d ih =>
    intro k hk hn
    exact R.cond mixed 6 (decide ((↑k : Int) < (↑n : Int))) true (by simp; omega) (by kernel_rfl) <|
      R.idx mixed 7 0 (0) (n) 1 IntKind.i64 ((↑k : Int)) (k) (by kernel_rfl) (by omega) (by omega) (by omega) <|
      R.load1 mixed 0 1 0 (k) (row n xs) (Value.int IntKind.i64 (xs k)) (by kernel_rfl) (by exact rowV_get' (by omega) rfl) <|
      R.guard mixed 2 (decide (xs k < 0)) (by kernel_rfl)
       (fun h1 =>
         R.finIs mixed Try.func20 (Value.bool false) (by kernel_rfl) (by first | (simp_all [isF, gapF, idxF]; done) | (simp_all [isF, gapF, idxF, okx]; done) | (simp_all [isF, gapF, idxF, okx]; omega) | (simp_all [isF, gapF, idxF, okx, maxI]; intros; omega))
       )
       (fun h1 =>
         R.idx mixed 2 0 (0) (n) 1 IntKind.i64 ((↑k : Int)) (k) (by kernel_rfl) (by omega) (by omega) (by omega) <|
         R.load1 mixed 0 1 0 (k) (row n xs) (Value.int IntKind.i64 (xs k)) (by kernel_rfl) (by exact rowV_get' (by omega) rfl) <|
         R.branch mixed 4 (bif false then true else decide (xs k ≥ t)) (by kernel_rfl)
          (fun h2 =>
            R.finIs mixed Try.func20 (Value.bool false) (by kernel_rfl) (by first | (simp_all [isF, gapF, idxF]; done) | (simp_all [isF, gapF, idxF, okx]; done) | (simp_all [isF, gapF, idxF, okx]; omega) | (simp_all [isF, gapF, idxF, okx, maxI]; intros; omega))
          )
          (fun h2 =>
            R.at mixed 10 [0, 1, 5] (st := H20 Try.prog Try.f20 n xs t (IntKind.i64.wrap ((↑k : Int) + 1))) (by kernel_rfl) (by
              have e : isF xs t (d + 1) k = isF xs t d (k + 1) := by first | (simp_all [isF, gapF, idxF]; done) | (simp_all [isF, gapF, idxF, okx]; done) | (simp_all [isF, gapF, idxF, okx]; omega) | (simp_all [isF, gapF, idxF, okx, maxI]; intros; omega)
              rw [e, wrap_succ (by omega)]; exact ih (k + 1) (by omega) hn)
          )
       )
theorem c_is {n : Nat} {xs : Nat → Int} {t : Int} (hn : n ≤ 1000000) : ConM Try.prog 20 [sl A0 n, num t] [.cells (row n xs) 0 false] (.bool (isF xs t n 0)) (List.replicate 1 .gone) :=
  ConM.reads Try.func20 (by kernel_rfl) rfl <| R.at mixed 13 [0, 1, 5] (st := H20 Try.prog Try.f20 n xs t (0 : Nat)) (by kernel_rfl) (is_loop n 0 (by omega) hn)

theorem gap_loop {n : Nat} {xs : Nat → Int} {t : Int} : ∀ (d k : Nat) (best m : Int), k + d = n → n ≤ 1000000 → RunsE Try.prog 21 1 (H21 Try.prog Try.f21 n xs t best m k) (num (gapF xs t d k best m)) := by
  intro d
  induction d with
  | zero =>
    intro k best m hk hn
    exact R.cond mixed 6 (decide ((↑k : Int) < (↑n : Int))) false (by simp; omega) (by kernel_rfl) <|
      R.finIs mixed Try.func21 (Value.int IntKind.i64 best) (by kernel_rfl) (by first | (simp_all [isF, gapF, idxF]; done) | (simp_all [isF, gapF, idxF, okx]; done) | (simp_all [isF, gapF, idxF, okx]; omega) | (simp_all [isF, gapF, idxF, okx, maxI]; intros; omega))
  | succ d ih =>
    intro k best m hk hn
    exact R.cond mixed 6 (decide ((↑k : Int) < (↑n : Int))) true (by simp; omega) (by kernel_rfl) <|
      R.idx mixed 14 0 (0) (n) 1 IntKind.i64 ((↑k : Int)) (k) (by kernel_rfl) (by omega) (by omega) (by omega) <|
      R.load1 mixed 0 1 0 (k) (row n xs) (Value.int IntKind.i64 (xs k)) (by kernel_rfl) (by exact rowV_get' (by omega) rfl) <|
      R.branch mixed 3 (xs k == t) (by kernel_rfl)
       (fun h1 =>
         R.call mixed (show Con Try.prog 57 [Value.int IntKind.i64 best, Value.int IntKind.i64 0] (Value.int IntKind.i64 (maxI best 0)) from c_max) (by kernel_rfl) <|
         R.at mixed 11 [0, 1, 5, 6, 7] (st := H21 Try.prog Try.f21 n xs t (maxI best 0) 0 (IntKind.i64.wrap ((↑k : Int) + 1))) (by kernel_rfl) (by
           have e : gapF xs t (d + 1) k best m = gapF xs t d (k + 1) (maxI best 0) 0 := by first | (simp_all [isF, gapF, idxF]; done) | (simp_all [isF, gapF, idxF, okx]; done) | (simp_all [isF, gapF, idxF, okx]; omega) | (simp_all [isF, gapF, idxF, okx, maxI]; intros; omega)
           rw [e, wrap_succ (by omega)]; exact ih (k + 1) (maxI best 0) 0 (by omega) hn)
       )
       (fun h1 =>
         R.call mixed (show Con Try.prog 57 [Value.int IntKind.i64 best, Value.int IntKind.i64 (IntKind.i64.wrap (m + 1))] (Value.int IntKind.i64 (maxI best (IntKind.i64.wrap (m + 1)))) from c_max) (by kernel_rfl) <|
         R.at mixed 11 [0, 1, 5, 6, 7] (st := H21 Try.prog Try.f21 n xs t (maxI best (IntKind.i64.wrap (m + 1))) (IntKind.i64.wrap (m + 1)) (IntKind.i64.wrap ((↑k : Int) + 1))) (by kernel_rfl) (by
           have e : gapF xs t (d + 1) k best m = gapF xs t d (k + 1) (maxI best (IntKind.i64.wrap (m + 1))) (IntKind.i64.wrap (m + 1)) := by first | (simp_all [isF, gapF, idxF]; done) | (simp_all [isF, gapF, idxF, okx]; done) | (simp_all [isF, gapF, idxF, okx]; omega) | (simp_all [isF, gapF, idxF, okx, maxI]; intros; omega)
           rw [e, wrap_succ (by omega)]; exact ih (k + 1) (maxI best (IntKind.i64.wrap (m + 1))) (IntKind.i64.wrap (m + 1)) (by omega) hn)
       )
theorem c_gap {n : Nat} {xs : Nat → Int} {t : Int} (hn : n ≤ 1000000) : ConM Try.prog 21 [sl A0 n, num t] [.cells (row n xs) 0 false] (num (gapF xs t n 0 0 0)) (List.replicate 1 .gone) :=
  ConM.reads Try.func21 (by kernel_rfl) rfl <| R.at mixed 21 [0, 1, 5, 6, 7] (st := H21 Try.prog Try.f21 n xs t 0 0 (0 : Nat)) (by kernel_rfl) (gap_loop n 0 0 0 (by omega) hn)

theorem idx_loop {n : Nat} {xs : Nat → Int} {t : Int} : ∀ (d k : Nat), k + d = n → n ≤ 1000000 → RunsE Try.prog 90 2 (H90 Try.prog Try.f90 n xs t k) (num (idxF xs t d k)) := by
  intro d
  induction d with
  | zero =>
    intro k hk hn
    exact R.cond mixed 4 (decide ((↑k : Int) < (↑n : Int))) false (by simp; omega) (by kernel_rfl) <|
      R.finIs mixed Try.func90 (Value.int IntKind.i64 (-1)) (by kernel_rfl) (by first | (simp_all [isF, gapF, idxF]; done) | (simp_all [isF, gapF, idxF, okx]; done) | (simp_all [isF, gapF, idxF, okx]; omega) | (simp_all [isF, gapF, idxF, okx, maxI]; intros; omega))
  | succ d ih =>
    intro k hk hn
    exact R.cond mixed 4 (decide ((↑k : Int) < (↑n : Int))) true (by simp; omega) (by kernel_rfl) <|
      R.idx mixed 13 0 (0) (n) 1 IntKind.i64 ((↑k : Int)) (k) (by kernel_rfl) (by omega) (by omega) (by omega) <|
      R.load1 mixed 0 1 0 (k) (row n xs) (Value.int IntKind.i64 (xs k)) (by kernel_rfl) (by exact rowV_get' (by omega) rfl) <|
      R.callP mixed [Ent.win 1 0 1 false] [] [] (show ConM Try.prog 85 [Value.int IntKind.i64 (xs k), Value.pointer (some ⟨0, 0, none⟩)] [Blk.cells [Value.int IntKind.i64 t] 0 false] (Value.bool !okx t (xs k)) [Blk.gone] from c_bad) (by kernel_rfl) (by kernel_rfl) (by kernel_rfl) trivial trivial <|
      R.branch mixed 1 (!okx t (xs k)) (by kernel_rfl)
       (fun h1 =>
         R.finIs mixed Try.func90 (Value.int IntKind.i64 (↑k : Int)) (by kernel_rfl) (by first | (simp_all [isF, gapF, idxF]; done) | (simp_all [isF, gapF, idxF, okx]; done) | (simp_all [isF, gapF, idxF, okx]; omega) | (simp_all [isF, gapF, idxF, okx, maxI]; intros; omega))
       )
       (fun h1 =>
         R.at mixed 8 [0, 1, 7, 8] (st := H90 Try.prog Try.f90 n xs t (IntKind.i64.wrap ((↑k : Int) + 1))) (by kernel_rfl) (by
           have e : idxF xs t (d + 1) k = idxF xs t d (k + 1) := by first | (simp_all [isF, gapF, idxF]; done) | (simp_all [isF, gapF, idxF, okx]; done) | (simp_all [isF, gapF, idxF, okx]; omega) | (simp_all [isF, gapF, idxF, okx, maxI]; intros; omega)
           rw [e, wrap_succ (by omega)]; exact ih (k + 1) (by omega) hn)
       )
theorem c_idx {n : Nat} {xs : Nat → Int} {t : Int} (hn : n ≤ 1000000) : ConM Try.prog 90 [sl A0 n, clo 85 1] [.cells (row n xs) 0 false, .cells [num t] 0 false] (num (idxF xs t n 0)) (List.replicate 2 .gone) :=
  ConM.reads Try.func90 (by kernel_rfl) rfl <| R.at mixed 14 [0, 1, 7, 8] (st := H90 Try.prog Try.f90 n xs t (0 : Nat)) (by kernel_rfl) (idx_loop n 0 (by omega) hn)
theorem idx_is {xs : Nat → Int} {t : Int} : ∀ (d k : Nat), decide (idxF xs t d k ≥ 0) = !isF xs t d k
  | 0, _ => rfl
  | d + 1, k => by
    unfold idxF isF
    cases okx t (xs k) with
    | true => simpa using idx_is d (k + 1)
    | false => simp
theorem c_has {n : Nat} {xs : Nat → Int} {t : Int} (hn : n ≤ 1000000) : ConM Try.prog 84 [sl A0 n, clo 85 1] [.cells (row n xs) 0 false, .cells [num t] 0 false] (.bool (!isF xs t n 0)) (List.replicate 2 .gone) := by
  exact ConM.reads Try.func84 (by kernel_rfl) rfl <|
    R.callP mixed [Ent.view 0, Ent.win 1 0 1 false] [] [row n xs] (show ConM Try.prog 90 [Value.slice (some ⟨0, 0, none⟩) n n, Value.func (Fn.func 85) ⟨[]⟩ ⟨[Value.pointer (some ⟨1, 0, none⟩)]⟩] [Blk.cells (row n xs) 0 false, Blk.cells [Value.int IntKind.i64 t] 0 false] (Value.int IntKind.i64 (idxF xs t n 0)) [Blk.gone, Blk.gone] from c_idx hn) (by kernel_rfl) (by kernel_rfl) (by kernel_rfl) ⟨(by first | exact row_plains | exact rowV_plains (fun _ _ => rfl) | rfl), trivial⟩ trivial <|
    R.finIs mixed Try.func84 (Value.bool (decide (idxF xs t n 0 ≥ 0))) (by kernel_rfl) (by rw [idx_is])
def chkE (xs : Nat → Int) (n : Nat) (t : Int) : Int := if t < 1 ∨ t > 80 then 2 else if isF xs t n 0 = true then 0 else 10
theorem c_chk {n : Nat} {xs : Nat → Int} {t : Int} (hn : n ≤ 1000000) : ConM Try.prog 61 [sl A0 n, num t] [.cells (row n xs) 0 false] (num (chkE xs n t)) (List.replicate 1 .gone) := by
  exact ConM.reads Try.func61 (by kernel_rfl) rfl <|
    R.guard mixed 11 (decide (t < 1)) (by kernel_rfl)
     (fun h0 =>
       R.finIs mixed Try.func61 (Value.int IntKind.i64 2) (by kernel_rfl) (by simp_all [chkE])
     )
     (fun h0 =>
       R.branch mixed 4 (bif false then true else decide (t > 80)) (by kernel_rfl)
        (fun h1 =>
          R.finIs mixed Try.func61 (Value.int IntKind.i64 2) (by kernel_rfl) (by simp_all [chkE])
        )
        (fun h1 =>
          R.callP mixed [Ent.view 0, Ent.win 1 0 1 false] [] [row n xs] (show ConM Try.prog 84 [Value.slice (some ⟨0, 0, none⟩) n n, Value.func (Fn.func 85) ⟨[]⟩ ⟨[Value.pointer (some ⟨1, 0, none⟩)]⟩] [Blk.cells (row n xs) 0 false, Blk.cells [Value.int IntKind.i64 t] 0 false] (Value.bool !isF xs t n 0) [Blk.gone, Blk.gone] from c_has hn) (by kernel_rfl) (by kernel_rfl) (by kernel_rfl) ⟨(by first | exact row_plains | exact rowV_plains (fun _ _ => rfl) | rfl), trivial⟩ trivial <|
          R.branch mixed 1 (!isF xs t n 0) (by kernel_rfl)
           (fun h2 =>
             R.finIs mixed Try.func61 (Value.int IntKind.i64 10) (by kernel_rfl) (by simp_all [chkE])
           )
           (fun h2 =>
             R.finIs mixed Try.func61 (Value.int IntKind.i64 0) (by kernel_rfl) (by simp_all [chkE])
           )
        )
     )

end Go.Proofs.Ytjfodgjgpeiaaaa.Sl
