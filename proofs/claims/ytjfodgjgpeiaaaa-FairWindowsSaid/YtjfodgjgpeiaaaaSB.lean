/- A thread's gap: what fair.Gaps makes. -/
import Derived.Test.YtjfodgjgpeiaaaaSA
namespace Go.Proofs.Ytjfodgjgpeiaaaa.Sl
open Go Go.Dt Go.Proofs
set_option linter.unusedVariables false
set_option linter.unusedSimpArgs false

abbrev A1 : Option Addr := some ⟨1, 0, none⟩
abbrev A2 : Option Addr := some ⟨2, 0, none⟩
def maxV (a b : Int) : Int := if b > a then b else a
def seeF (out last : Nat → Int) (t : Nat) (a : Int) : Nat → Int := upI out t (maxV (out t) (IntKind.i64.wrap (a - last t)))
def lastF (xs : Nat → Int) : Nat → Nat → (Nat → Int) → (Nat → Int)
  | 0, _, last => last
  | d + 1, k, last => lastF xs d (k + 1) (upI last (xs k).toNat ((k + 1 : Nat) : Int))
def outF (xs : Nat → Int) : Nat → Nat → (Nat → Int) → (Nat → Int) → (Nat → Int)
  | 0, _, out, _ => out
  | d + 1, k, out, last => outF xs d (k + 1) (seeF out last (xs k).toNat k) (upI last (xs k).toNat ((k + 1 : Nat) : Int))
def endF (n : Int) (last : Nat → Int) : Nat → Nat → (Nat → Int) → (Nat → Int)
  | 0, _, out => out
  | d + 1, k, out => endF n last d (k + 1) (seeF out last k n)
def H19a (P : Program) (fn : Func) (n m : Nat) (xs out last : Nat → Int) (k : Int) : VS := puts [(26, num k)] (putM [.cells (row n xs) 0 false, .cells (row m last) 1 true, .cells (row m out) 1 true, .cells [sl A1 m] 0 true, .cells [sl A2 m] 0 true] (keepS [0, 1, 7, 8, 9, 24, 25, 26] (vadv P 20 (afterAp (vadv P 1 (afterAp (vadv P 12 (afterM [Ent.view 0] [] (go P (entry fn [sl A0 n, num m] [.cells (row n xs) 0 false])) (Value.int IntKind.i64 0) [Blk.gone])) (.slice (some ⟨(vadv P 12 (afterM [Ent.view 0] [] (go P (entry fn [sl A0 n, num m] [.cells (row n xs) 0 false])) (Value.int IntKind.i64 0) [Blk.gone])).mem.length, 0, none⟩) ((↑m : Int) : Int).toNat ((↑m : Int) : Int).toNat) ((vadv P 12 (afterM [Ent.view 0] [] (go P (entry fn [sl A0 n, num m] [.cells (row n xs) 0 false])) (Value.int IntKind.i64 0) [Blk.gone])).mem ++ [.cells (List.replicate ((↑m : Int) : Int).toNat (Value.int IntKind.i64 0)) 1 true]) ⟨[], []⟩)) (.slice (some ⟨(vadv P 1 (afterAp (vadv P 12 (afterM [Ent.view 0] [] (go P (entry fn [sl A0 n, num m] [.cells (row n xs) 0 false])) (Value.int IntKind.i64 0) [Blk.gone])) (.slice (some ⟨(vadv P 12 (afterM [Ent.view 0] [] (go P (entry fn [sl A0 n, num m] [.cells (row n xs) 0 false])) (Value.int IntKind.i64 0) [Blk.gone])).mem.length, 0, none⟩) ((↑m : Int) : Int).toNat ((↑m : Int) : Int).toNat) ((vadv P 12 (afterM [Ent.view 0] [] (go P (entry fn [sl A0 n, num m] [.cells (row n xs) 0 false])) (Value.int IntKind.i64 0) [Blk.gone])).mem ++ [.cells (List.replicate ((↑m : Int) : Int).toNat (Value.int IntKind.i64 0)) 1 true]) ⟨[], []⟩)).mem.length, 0, none⟩) ((↑m : Int) : Int).toNat ((↑m : Int) : Int).toNat) ((vadv P 1 (afterAp (vadv P 12 (afterM [Ent.view 0] [] (go P (entry fn [sl A0 n, num m] [.cells (row n xs) 0 false])) (Value.int IntKind.i64 0) [Blk.gone])) (.slice (some ⟨(vadv P 12 (afterM [Ent.view 0] [] (go P (entry fn [sl A0 n, num m] [.cells (row n xs) 0 false])) (Value.int IntKind.i64 0) [Blk.gone])).mem.length, 0, none⟩) ((↑m : Int) : Int).toNat ((↑m : Int) : Int).toNat) ((vadv P 12 (afterM [Ent.view 0] [] (go P (entry fn [sl A0 n, num m] [.cells (row n xs) 0 false])) (Value.int IntKind.i64 0) [Blk.gone])).mem ++ [.cells (List.replicate ((↑m : Int) : Int).toNat (Value.int IntKind.i64 0)) 1 true]) ⟨[], []⟩)).mem ++ [.cells (List.replicate ((↑m : Int) : Int).toNat (Value.int IntKind.i64 0)) 1 true]) ⟨[], []⟩))))
def H19b (P : Program) (fn : Func) (n m : Nat) (xs out last : Nat → Int) (k : Int) : VS := puts [(42, num k)] (putM [.cells (row n xs) 0 false, .cells (row m last) 1 true, .cells (row m out) 1 true, .cells [sl A1 m] 0 true, .cells [sl A2 m] 0 true] (keepS [0, 8, 9, 41, 42] (vadv P 10 (goC (vadv P 4 (H19a P fn n m xs out last n)) false))))

theorem c_see {m p : Nat} {out last : Nat → Int} {t a : Int} (e : t = p) (ht : p < m) : ConM Try.prog 62 [num t, num a, .pointer (some ⟨2, 0, none⟩), .pointer (some ⟨3, 0, none⟩)] [.cells (row m out) 1 true, .cells (row m last) 0 false, .cells [sl A0 m] 0 false, .cells [sl A1 m] 0 false] (.tuple ⟨[]⟩) [.cells (row m (seeF out last p a)) 1 true, .cells (row m last) 0 false, .cells [sl A0 m] 0 false, .cells [sl A1 m] 0 false] := by
  subst e
  exact ConM.makes Try.func62 (by kernel_rfl) <|
    Q.idx mixed 5 0 (0) (m) 1 IntKind.i64 ((p : Int)) (p) (by kernel_rfl) (by omega) (by omega) (by omega) <|
    Q.load1 mixed 0 1 0 (p) (row m out) (Value.int IntKind.i64 (out p)) (by kernel_rfl) (by exact rowV_get' (by omega) rfl) <|
    Q.idx mixed 3 1 (0) (m) 1 IntKind.i64 ((p : Int)) (p) (by kernel_rfl) (by omega) (by omega) (by omega) <|
    Q.load1 mixed 0 1 1 (p) (row m last) (Value.int IntKind.i64 (last p)) (by kernel_rfl) (by exact rowV_get' (by omega) rfl) <|
    Q.idx mixed 2 0 (0) (m) 1 IntKind.i64 ((p : Int)) (p) (by kernel_rfl) (by omega) (by omega) (by omega) <|
    Q.store mixed 0 (Value.int IntKind.i64 (if IntKind.i64.wrap (a - last p) > out p then IntKind.i64.wrap (a - last p) else out p)) 1 0 (p) (row m out) (row m (upI out p (if IntKind.i64.wrap (a - last p) > out p then IntKind.i64.wrap (a - last p) else out p))) 1 (by kernel_rfl) rfl rfl (by rw [rowV_length]; omega) (by exact row_splice1 (by omega)) <|
    Q.finIs mixed Try.func62 (Value.tuple ⟨[]⟩) (by kernel_rfl) (by rfl) [Blk.cells (row m (upI out p (if IntKind.i64.wrap (a - last p) > out p then IntKind.i64.wrap (a - last p) else out p))) 1 true, Blk.cells (row m last) 0 false, Blk.cells [sl A0 m] 0 false, Blk.cells [sl A1 m] 0 false] (by kernel_rfl) (by rfl)

theorem g2_loop {n m : Nat} {xs last : Nat → Int} (hm : m ≤ 80) : ∀ (d k : Nat) (out : Nat → Int), k + d = m → RunsQ (fun x => x = [.cells (row n xs) 0 false, .cells (row m last) 1 true, .cells (row m (endF n last d k out)) 1 true, .cells [sl A1 m] 0 true, .cells [sl A2 m] 0 true]) Try.prog 19 1 (H19b Try.prog Try.f19 n m xs out last k) (.tuple ⟨[sl A2 m, num 0]⟩) := by
  intro d
  induction d with
  | zero =>
    intro k out hk
    exact Q.cond mixed 4 (decide ((↑k : Int) < (↑m : Int))) false (by simp; omega) (by kernel_rfl) <|
      Q.finIs mixed Try.func19 (Value.tuple ⟨[Value.slice (some ⟨2, 0, none⟩) m m, Value.int IntKind.i64 0]⟩) (by kernel_rfl) (by rfl) [Blk.cells (row n xs) 0 false, Blk.cells (row m last) 1 true, Blk.cells (row m out) 1 true, Blk.cells [sl A1 m] 0 true, Blk.cells [sl A2 m] 0 true] (by kernel_rfl) (by rfl)
  | succ d ih =>
    intro k out hk
    exact Q.cond mixed 4 (decide ((↑k : Int) < (↑m : Int))) true (by simp; omega) (by kernel_rfl) <|
      Q.callP mixed [Ent.ownp 2, Ent.view 1, Ent.win 4 0 1 false, Ent.win 3 0 1 false] [0] [row m out, row m last] (show ConM Try.prog 62 [Value.int IntKind.i64 (↑k : Int), Value.int IntKind.i64 (↑n : Int), Value.pointer (some ⟨2, 0, none⟩), Value.pointer (some ⟨3, 0, none⟩)] [Blk.cells (row m out) 1 true, Blk.cells (row m last) 0 false, Blk.cells [Value.slice (some ⟨0, 0, none⟩) m m] 0 false, Blk.cells [Value.slice (some ⟨1, 0, none⟩) m m] 0 false] (Value.tuple ⟨[]⟩) [Blk.cells (row m (seeF out last (↑k : Int).toNat (↑n : Int))) 1 true, Blk.cells (row m last) 0 false, Blk.cells [Value.slice (some ⟨0, 0, none⟩) m m] 0 false, Blk.cells [Value.slice (some ⟨1, 0, none⟩) m m] 0 false] from c_see (p := ((k : Int).toNat)) (by omega) (by omega)) (by kernel_rfl) (by kernel_rfl) (by kernel_rfl) ⟨(by first | exact row_plains | exact rowV_plains (fun _ _ => rfl) | rfl), (by first | exact row_plains | exact rowV_plains (fun _ _ => rfl) | rfl), trivial⟩ ⟨(by first | exact row_plains | exact rowV_plains (fun _ _ => rfl) | rfl), trivial⟩ <|
      Q.at mixed 8 [0, 8, 9, 41, 42] (st := H19b Try.prog Try.f19 n m xs (seeF out last k n) last (IntKind.i64.wrap ((k : Int) + 1))) (by kernel_rfl) (by
        rw [wrap_succ (by omega)]; exact ih (k + 1) _ (by omega))

theorem g1_loop {n m : Nat} {xs : Nat → Int} (hm : m ≤ 80) (hn : n ≤ 1000000) (hx : ∀ k, k < n → 0 ≤ xs k ∧ xs k < m) : ∀ (d k : Nat) (out last : Nat → Int), k + d = n → RunsQ (fun x => x = [.cells (row n xs) 0 false, .cells (row m (lastF xs d k last)) 1 true, .cells (row m (endF n (lastF xs d k last) m 0 (outF xs d k out last))) 1 true, .cells [sl A1 m] 0 true, .cells [sl A2 m] 0 true]) Try.prog 19 1 (H19a Try.prog Try.f19 n m xs out last k) (.tuple ⟨[sl A2 m, num 0]⟩) := by
  intro d
  induction d with
  | zero =>
    intro k out last hk
    exact Q.cond mixed 4 (decide ((↑k : Int) < (↑n : Int))) false (by simp; omega) (by kernel_rfl) <|
      Q.at mixed 10 [0, 8, 9, 41, 42] (st := H19b Try.prog Try.f19 n m xs out last (0 : Nat)) (by kernel_rfl) (g2_loop hm m 0 out (by omega))
  | succ d ih =>
    intro k out last hk
    exact Q.cond mixed 4 (decide ((↑k : Int) < (↑n : Int))) true (by simp; omega) (by kernel_rfl) <|
      Q.idx mixed 6 0 (0) (n) 1 IntKind.i64 ((↑k : Int)) (k) (by kernel_rfl) (by omega) (by omega) (by omega) <|
      Q.load1 mixed 0 1 0 (k) (row n xs) (Value.int IntKind.i64 (xs k)) (by kernel_rfl) (by exact rowV_get' (by omega) rfl) <|
      Q.callP mixed [Ent.ownp 2, Ent.view 1, Ent.win 4 0 1 false, Ent.win 3 0 1 false] [0] [row m out, row m last] (show ConM Try.prog 62 [Value.int IntKind.i64 (xs k), Value.int IntKind.i64 (↑k : Int), Value.pointer (some ⟨2, 0, none⟩), Value.pointer (some ⟨3, 0, none⟩)] [Blk.cells (row m out) 1 true, Blk.cells (row m last) 0 false, Blk.cells [Value.slice (some ⟨0, 0, none⟩) m m] 0 false, Blk.cells [Value.slice (some ⟨1, 0, none⟩) m m] 0 false] (Value.tuple ⟨[]⟩) [Blk.cells (row m (seeF out last (xs k).toNat (↑k : Int))) 1 true, Blk.cells (row m last) 0 false, Blk.cells [Value.slice (some ⟨0, 0, none⟩) m m] 0 false, Blk.cells [Value.slice (some ⟨1, 0, none⟩) m m] 0 false] from c_see (p := (xs k).toNat) (by have := hx k (by omega); omega) (by have := hx k (by omega); omega)) (by kernel_rfl) (by kernel_rfl) (by kernel_rfl) ⟨(by first | exact row_plains | exact rowV_plains (fun _ _ => rfl) | rfl), (by first | exact row_plains | exact rowV_plains (fun _ _ => rfl) | rfl), trivial⟩ ⟨(by first | exact row_plains | exact rowV_plains (fun _ _ => rfl) | rfl), trivial⟩ <|
      Q.idx mixed 6 1 (0) (m) 1 IntKind.i64 (xs k) ((xs k).toNat) (by kernel_rfl) (by have := hx k (by omega); omega) (by have := hx k (by omega); omega) (by omega) <|
      Q.store mixed 0 (Value.int IntKind.i64 (IntKind.i64.wrap ((↑k : Int) + 1))) 1 1 ((xs k).toNat) (row m last) (row m (upI last (xs k).toNat (IntKind.i64.wrap ((↑k : Int) + 1)))) 1 (by kernel_rfl) rfl rfl (by rw [rowV_length]; have := hx k (by omega); omega) (by exact row_splice1 (by have := hx k (by omega); omega)) <|
      Q.at mixed 8 [0, 1, 7, 8, 9, 24, 25, 26] (st := H19a Try.prog Try.f19 n m xs (seeF out last (xs k).toNat k) (upI last (xs k).toNat (IntKind.i64.wrap ((k : Int) + 1))) (IntKind.i64.wrap ((k : Int) + 1))) (by kernel_rfl) (by
        rw [wrap_succ (by omega)]; exact ih (k + 1) _ _ (by omega))

def gapsF (xs : Nat → Int) (n m : Nat) : Nat → Int := endF n (lastF xs n 0 fun _ => 0) m 0 (outF xs n 0 (fun _ => 0) fun _ => 0)
theorem c_gaps {n m : Nat} {xs : Nat → Int} (hm : 1 ≤ m ∧ m ≤ 80) (hn : n ≤ 1000000) (hx : ∀ k, k < n → 0 ≤ xs k ∧ xs k < m) (he : chkE xs n m = 0) : ConM Try.prog 19 [sl A0 n, num m] [.cells (row n xs) 0 false] (.tuple ⟨[sl A1 m, num 0]⟩) [.cells (row n xs) 0 false, .cells (row m (gapsF xs n m)) 1 true] := by
  refine ConM.keep (m1 := [.cells (row n xs) 0 false, .cells (row m (lastF xs n 0 fun _ => 0)) 1 true, .cells (row m (gapsF xs n m)) 1 true, .cells [sl A1 m] 0 true, .cells [sl A2 m] 0 true]) [0, 2] [0, 2] Try.func19 (by kernel_rfl) rfl (by decide) ⟨row_plains, row_plains, trivial⟩ (v := .tuple ⟨[sl A2 m, num 0]⟩) (by kernel_rfl) (by kernel_rfl) ?_
  exact
    Q.callP mixed [Ent.view 0] [] [row n xs] (show ConM Try.prog 61 [Value.slice (some ⟨0, 0, none⟩) n n, Value.int IntKind.i64 (↑m : Int)] [Blk.cells (row n xs) 0 false] (Value.int IntKind.i64 0) [Blk.gone] from (c_chk hn).val (congrArg num he)) (by kernel_rfl) (by kernel_rfl) (by kernel_rfl) ⟨(by first | exact row_plains | exact rowV_plains (fun _ _ => rfl) | rfl), trivial⟩ trivial <|
    Q.make mixed 12 (Value.int IntKind.i64 0) ((↑m : Int)) ((↑m : Int)) 8 (by kernel_rfl) (by omega) (by omega) (by omega) (by omega) rfl <|
    Q.make mixed 1 (Value.int IntKind.i64 0) ((↑m : Int)) ((↑m : Int)) 8 (by kernel_rfl) (by omega) (by omega) (by omega) (by omega) rfl <|
    Q.at mixed 20 [0, 1, 7, 8, 9, 24, 25, 26] (st := H19a Try.prog Try.f19 n m xs (fun _ => 0) (fun _ => 0) (0 : Nat)) (by rw [replicate_row]; kernel_rfl) (g1_loop (by omega) (by omega) hx n 0 _ _ (by omega))

end Go.Proofs.Ytjfodgjgpeiaaaa.Sl
