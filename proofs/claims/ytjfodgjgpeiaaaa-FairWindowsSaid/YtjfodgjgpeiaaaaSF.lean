/- Fair orders: windows and gaps. -/
import Derived.Test.YtjfodgjgpeiaaaaSC
import Derived.Test.YtjfodgjgpeiaaaaDt29
namespace Go.Proofs.Ytjfodgjgpeiaaaa.Sl
open Go Go.Dt Go.Proofs
set_option linter.unusedVariables false
set_option linter.unusedSimpArgs false

def cntF (xs : Nat → Int) (t : Int) : Nat → Nat → Int → Int
  | 0, _, c => c
  | d + 1, k, c => if xs k = t then cntF xs t d (k + 1) (IntKind.i64.wrap (c + 1)) else cntF xs t d (k + 1) c
def mxF (xs : Nat → Int) : Nat → Nat → Int → Int
  | 0, _, c => c
  | d + 1, k, c => mxF xs d (k + 1) (if xs k > c then xs k else c)
def inF (xs : Nat → Int) (u i : Nat) : Nat → Nat → Bool
  | 0, _ => true
  | d + 1, t => if cntF xs t u i 0 = 0 then false else inF xs u i d (t + 1)
def rfF (xs : Nat → Int) (u m : Nat) : Nat → Nat → Bool
  | 0, _ => true
  | d + 1, i => if inF xs u i m 0 = true then rfF xs u m d (i + 1) else false
def H65 (P : Program) (fn : Func) (n o l cp : Nat) (xs : Nat → Int) (t c k : Int) : VS := puts [(5, num c), (6, num k)] (keepS [0, 1] (vadv P 17 (entry fn [.slice (some ⟨0, o, none⟩) l cp, num t] [.cells (row n xs) 0 false])))
def H64 (P : Program) (fn : Func) (n : Nat) (xs : Nat → Int) (c k : Int) : VS := puts [(3, num c), (4, num k)] (keepS [0, 3, 4] (vadv P 11 (afterRd (vadv P 0 (afterOne (vadv P 4 (goC (vadv P 11 (entry fn [sl A0 n] [.cells (row n xs) 0 false])) false)) (.pointer (some ⟨0, Int.toNat 0, none⟩)))) 0 (Value.int IntKind.i64 (xs 0)))))
def H29 (P : Program) (fn : Func) (n m u : Nat) (xs : Nat → Int) (i : Int) : VS := puts [(7, num i)] (keepS [0, 1, 2, 7] (vadv P 13 (entry fn [sl A0 n, num m, num u] [.cells (row n xs) 0 false])))
def H29b (P : Program) (fn : Func) (n m u : Nat) (xs : Nat → Int) (i t : Int) : VS := puts [(7, num i), (8, num t)] (keepS [0, 1, 2, 7, 8] (vadv P 11 (goC (vadv P 8 (H29 P fn n m u xs 0)) true)))

theorem cnt_loop {n o l cp : Nat} {xs : Nat → Int} {t : Int} (hl : o + l ≤ n) (hn : n ≤ 1000000) : ∀ (d k : Nat) (c : Int), k + d = l → RunsE Try.prog 65 1 (H65 Try.prog Try.f65 n o l cp xs t c k) (num (cntF xs t d (o + k) c)) := by
  intro d
  induction d with
  | zero =>
    intro k c hk
    exact R.cond mixed 6 (decide ((↑k : Int) < (↑l : Int))) false (by simp; omega) (by kernel_rfl) <|
      R.finIs mixed Try.func65 (Value.int IntKind.i64 c) (by kernel_rfl) (by rfl)
  | succ d ih =>
    intro k c hk
    exact R.cond mixed 6 (decide ((↑k : Int) < (↑l : Int))) true (by simp; omega) (by kernel_rfl) <|
      R.idx mixed 7 0 (o) (l) 1 IntKind.i64 ((↑k : Int)) (o + k) (by kernel_rfl) (by omega) (by omega) (by omega) <|
      R.load1 mixed 0 1 0 (o + k) (row n xs) (Value.int IntKind.i64 (xs (o + k))) (by kernel_rfl) (by exact rowV_get' (by omega) rfl) <|
      R.branch mixed 3 (xs (o + k) == t) (by kernel_rfl)
       (fun h1 =>
         R.at mixed 14 [0, 1, 5, 6] (st := H65 Try.prog Try.f65 n o l cp xs t (IntKind.i64.wrap (c + 1)) (IntKind.i64.wrap ((k : Int) + 1))) (by kernel_rfl) (by
           have e : cntF xs t (d + 1) (o + k) c = cntF xs t d (o + (k + 1)) (IntKind.i64.wrap (c + 1)) := by simp_all [cntF, Nat.add_assoc]
           rw [e, wrap_succ (by omega)]; exact ih (k + 1) _ (by omega))
       )
       (fun h1 =>
         R.at mixed 10 [0, 1, 5, 6] (st := H65 Try.prog Try.f65 n o l cp xs t c (IntKind.i64.wrap ((k : Int) + 1))) (by kernel_rfl) (by
           have e : cntF xs t (d + 1) (o + k) c = cntF xs t d (o + (k + 1)) c := by simp_all [cntF, Nat.add_assoc]
           rw [e, wrap_succ (by omega)]; exact ih (k + 1) _ (by omega))
       )
theorem c_cnt {n o l cp : Nat} {xs : Nat → Int} {t : Int} (hl : o + l ≤ n) (hn : n ≤ 1000000) : ConM Try.prog 65 [.slice (some ⟨0, o, none⟩) l cp, num t] [.cells (row n xs) 0 false] (num (cntF xs t l o 0)) (List.replicate 1 .gone) :=
  ConM.reads Try.func65 (by kernel_rfl) rfl <| R.at mixed 17 [0, 1, 5, 6] (st := H65 Try.prog Try.f65 n o l cp xs t 0 (0 : Nat)) (by kernel_rfl) (cnt_loop hl hn l 0 0 (by omega))

theorem max_loop {n : Nat} {xs : Nat → Int} (hn : n ≤ 1000000) : ∀ (d k : Nat) (c : Int), k + d = n → RunsE Try.prog 64 1 (H64 Try.prog Try.f64 n xs c k) (num (mxF xs d k c)) := by
  intro d
  induction d with
  | zero =>
    intro k c hk
    exact R.cond mixed 6 (decide ((↑k : Int) < (↑n : Int))) false (by simp; omega) (by kernel_rfl) <|
      R.finIs mixed Try.func64 (Value.int IntKind.i64 c) (by kernel_rfl) (by rfl)
  | succ d ih =>
    intro k c hk
    exact R.cond mixed 6 (decide ((↑k : Int) < (↑n : Int))) true (by simp; omega) (by kernel_rfl) <|
      R.idx mixed 7 0 (0) (n) 1 IntKind.i64 ((↑k : Int)) (k) (by kernel_rfl) (by omega) (by omega) (by omega) <|
      R.load1 mixed 0 1 0 (k) (row n xs) (Value.int IntKind.i64 (xs k)) (by kernel_rfl) (by exact rowV_get' (by omega) rfl) <|
      R.at mixed 12 [0, 3, 4] (st := H64 Try.prog Try.f64 n xs (if xs k > c then xs k else c) (IntKind.i64.wrap ((k : Int) + 1))) (by kernel_rfl) (by rw [wrap_succ (by omega)]; exact ih (k + 1) _ (by omega))
theorem c_max64 {n : Nat} {xs : Nat → Int} (h1 : 1 ≤ n) (hn : n ≤ 1000000) : ConM Try.prog 64 [sl A0 n] [.cells (row n xs) 0 false] (num (mxF xs (n - 1) 1 (xs 0))) (List.replicate 1 .gone) := by
  refine ConM.reads Try.func64 (by kernel_rfl) rfl ?_
  exact R.cond mixed 11 (decide ((↑n : Int) < 1)) false (by simp; omega) (by kernel_rfl) <|
    R.idx mixed 4 0 (0) (n) 1 IntKind.i64 (0) (Int.toNat 0) (by kernel_rfl) (by decide) (by omega) (by rfl) <|
    R.load1 mixed 0 1 0 (0) (row n xs) (Value.int IntKind.i64 (xs 0)) (by kernel_rfl) (by exact rowV_get' (by omega) rfl) <|
    R.at mixed 11 [0, 3, 4] (st := H64 Try.prog Try.f64 n xs (xs 0) (1 : Nat)) (by kernel_rfl) (max_loop hn (n - 1) 1 _ (by omega))

theorem in_loop {n m u i : Nat} {xs : Nat → Int} {v : Value} (hn : n ≤ 1000000) (hm : m ≤ 80) (hi : i + u ≤ n) : ∀ (d k : Nat), k + d = m → (inF xs u i d k = true → RunsE Try.prog 29 1 (H29 Try.prog Try.f29 n m u xs (IntKind.i64.wrap ((i : Int) + 1))) v) → (inF xs u i d k = false → v = .bool false) → RunsE Try.prog 29 1 (H29b Try.prog Try.f29 n m u xs i k) v := by
  intro d
  induction d with
  | zero =>
    intro k hk h0 h1
    exact R.cond mixed 5 (decide ((↑k : Int) < (↑m : Int))) false (by simp; omega) (by kernel_rfl) <|
      R.at mixed 10 [0, 1, 2, 7] (st := H29 Try.prog Try.f29 n m u xs (IntKind.i64.wrap ((i : Int) + 1))) (by kernel_rfl) (h0 rfl)
  | succ d ih =>
    intro k hk h0 h1
    exact R.cond mixed 5 (decide ((↑k : Int) < (↑m : Int))) true (by simp; omega) (by kernel_rfl) <|
      R.slice mixed 10 0 (0) (n) (n) 1 (some (↑i : Int)) (some (IntKind.i64.wrap ((↑i : Int) + (↑u : Int)))) ((↑i : Int).toNat) ((↑i : Int).toNat + u) (Value.slice (some ⟨0, (↑i : Int).toNat, none⟩) u (n - i)) (by kernel_rfl) (by rfl) (by (show IntKind.i64.wrap ((i : Int) + (u : Int)) = _; rw [wrap_i64_of (by omega) (by omega)]; simp)) (by simp) (by omega) (by first | rfl | (simp; done) | (simp; omega)) <|
      R.callP mixed [Ent.view 0] [] [row n xs] (show ConM Try.prog 65 [Value.slice (some ⟨0, i, none⟩) u (n - i), Value.int IntKind.i64 (↑k : Int)] [Blk.cells (row n xs) 0 false] (Value.int IntKind.i64 (cntF xs (↑k : Int) u i 0)) [Blk.gone] from c_cnt (by omega) hn) (by kernel_rfl) (by kernel_rfl) (by kernel_rfl) ⟨(by first | exact row_plains | exact rowV_plains (fun _ _ => rfl) | rfl), trivial⟩ trivial <|
      R.branch mixed 2 (cntF xs (↑k : Int) u i 0 == 0) (by kernel_rfl)
       (fun g1 =>
         R.finIs mixed Try.func29 (Value.bool false) (by kernel_rfl) (by exact (h1 (by simp_all [inF])).symm)
       )
       (fun g1 =>
         R.at mixed 10 [0, 1, 2, 7, 8] (st := H29b Try.prog Try.f29 n m u xs i (IntKind.i64.wrap ((k : Int) + 1))) (by kernel_rfl) (by
           have e : inF xs u i (d + 1) k = inF xs u i d (k + 1) := by simp_all [inF]
           rw [e] at h0 h1; rw [wrap_succ (by omega)]; exact ih (k + 1) (by omega) h0 h1)
       )

theorem rf_loop {n m u : Nat} {xs : Nat → Int} (hn : n ≤ 1000000) (hm : m ≤ 80) (hu : u ≤ 9223372036854775807) : ∀ (d i : Nat), i + d = n + 1 - u → RunsE Try.prog 29 1 (H29 Try.prog Try.f29 n m u xs i) (.bool (rfF xs u m d i)) := by
  intro d
  induction d with
  | zero =>
    intro i hk
    exact R.cond mixed 8 (decide ((↑i : Int) ≤ IntKind.i64.wrap ((↑n : Int) - (↑u : Int)))) false (by rw [wrap_i64_of (by omega) (by omega)]; simp; omega) (by kernel_rfl) <|
      R.finIs mixed Try.func29 (Value.bool true) (by kernel_rfl) (by rfl)
  | succ d ih =>
    intro i hk
    exact R.cond mixed 8 (decide ((↑i : Int) ≤ IntKind.i64.wrap ((↑n : Int) - (↑u : Int)))) true (by rw [wrap_i64_of (by omega) (by omega)]; simp; omega) (by kernel_rfl) <|
      R.at mixed 11 [0, 1, 2, 7, 8] (st := H29b Try.prog Try.f29 n m u xs i (0 : Nat)) (by kernel_rfl) (in_loop hn hm (by omega) m 0 (by omega) (fun h => by rw [wrap_succ (by omega)]; have e : rfF xs u m (d + 1) i = rfF xs u m d (i + 1) := (by simp [rfF, h]); rw [e]; exact ih (i + 1) (by omega)) (fun h => by simp [rfF, h]))
theorem c_rf {n m u : Nat} {xs : Nat → Int} (hn : n ≤ 1000000) (hm : m ≤ 80) (hu : u ≤ 9223372036854775807) : ConM Try.prog 29 [sl A0 n, num m, num u] [.cells (row n xs) 0 false] (.bool (rfF xs u m (n + 1 - u) 0)) (List.replicate 1 .gone) :=
  ConM.reads Try.func29 (by kernel_rfl) rfl <| R.at mixed 13 [0, 1, 2, 7] (st := H29 Try.prog Try.f29 n m u xs (0 : Nat)) (by kernel_rfl) (rf_loop hn hm hu _ 0 (by omega))
theorem c_rfN {m u : Nat} (h1 : 1 ≤ u) (hu : u ≤ 9223372036854775807) : ConM Try.prog 29 [sl none 0, num m, num u] [.cells [] 0 false] (.bool true) (List.replicate 1 .gone) :=
  ConM.reads Try.func29 (by kernel_rfl) rfl <| R.cond mixed 21 (decide ((0 : Int) ≤ IntKind.i64.wrap ((0 : Int) - (u : Int)))) false (by rw [wrap_i64_of (by omega) (by omega)]; simp; omega) (by kernel_rfl) <| R.fin mixed Try.func29 (by kernel_rfl)

end Go.Proofs.Ytjfodgjgpeiaaaa.Sl
