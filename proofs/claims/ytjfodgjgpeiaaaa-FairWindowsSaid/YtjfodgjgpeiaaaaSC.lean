/- Threads' gaps: the law's walk. -/
import Derived.Test.YtjfodgjgpeiaaaaSB
namespace Go.Proofs.Ytjfodgjgpeiaaaa.Sl
open Go Go.Dt Go.Proofs
set_option linter.unusedVariables false
set_option linter.unusedSimpArgs false

/-! ### What fair.Gaps makes is each thread's gap -/
theorem endF_at {n : Int} {last : Nat → Int} {t : Nat} : ∀ (d k : Nat) (out : Nat → Int), k ≤ t → t < k + d → endF n last d k out t = maxV (out t) (IntKind.i64.wrap (n - last t))
  | 0, k, out, h0, h1 => by omega
  | d + 1, k, out, h0, h1 => by
    unfold endF
    rcases Nat.eq_or_lt_of_le h0 with h | h
    · subst h
      have keep : ∀ (d j : Nat) (out : Nat → Int), k < j → endF n last d j out k = out k := by
        intro d
        induction d with
        | zero => intro j out _; rfl
        | succ d ih =>
          intro j out hj
          unfold endF
          rw [ih (j + 1) _ (by omega)]
          exact upI_other (by omega)
      rw [keep d (k + 1) _ (by omega)]
      exact upI_same
    · rw [endF_at d (k + 1) _ (by omega) (by omega)]
      have : seeF out last k n t = out t := upI_other (by omega)
      rw [this]
theorem gaps_inv {n m : Nat} {xs : Nat → Int} {t : Nat} (ht : t < m) (hn : n ≤ 1000000) (hx : ∀ k, k < n → 0 ≤ xs k ∧ xs k < m) : ∀ (d k : Nat) (out last : Nat → Int) (best g : Int), k + d = n → 0 ≤ last t → last t ≤ k → 0 ≤ out t → g = k - last t → best = maxV (out t) (k - last t) →
    endF n (lastF xs d k last) m 0 (outF xs d k out last) t = gapF xs t d k best g
  | 0, k, out, last, best, g, hk, h0, h1, h2, hg, hb => by
    unfold lastF outF gapF
    rw [endF_at m 0 out (by omega) (by omega), hb]
    have : k = n := by omega
    subst this
    rw [wrap_i64_of (by omega) (by omega)]
  | d + 1, k, out, last, best, g, hk, h0, h1, h2, hg, hb => by
    unfold lastF outF gapF
    have hxk := hx k (by omega)
    by_cases e : xs k = t
    · have et : (xs k).toNat = t := by omega
      rw [if_pos e, et]
      have s1 : seeF out last t k t = maxV (out t) (k - last t) := by unfold seeF; rw [upI_same, wrap_i64_of (by omega) (by omega)]
      refine gaps_inv ht hn hx d (k + 1) _ _ _ _ (by omega) ?_ ?_ ?_ ?_ ?_
      · rw [upI_same]; omega
      · rw [upI_same]; omega
      · rw [s1]; unfold maxV; split <;> omega
      · rw [upI_same]; omega
      · rw [s1, upI_same, hb]; unfold maxI maxV; split <;> split <;> (try split) <;> omega
    · have et : t ≠ (xs k).toNat := by omega
      rw [if_neg e]
      have s1 : seeF out last (xs k).toNat k t = out t := upI_other et
      have s2 : upI last (xs k).toNat ((k + 1 : Nat) : Int) t = last t := upI_other et
      have hw : IntKind.i64.wrap (g + 1) = ((k + 1 : Nat) : Int) - last t := by rw [wrap_i64_of (by omega) (by omega)]; omega
      refine gaps_inv ht hn hx d (k + 1) _ _ _ _ (by omega) ?_ ?_ ?_ ?_ ?_
      · rw [s2]; exact h0
      · rw [s2]; omega
      · rw [s1]; exact h2
      · rw [s2, hw]
      · rw [s1, s2, hw, hb]; unfold maxI maxV; split <;> split <;> (try split) <;> omega
theorem gaps_is {n m : Nat} {xs : Nat → Int} {t : Nat} (ht : t < m) (hn : n ≤ 1000000) (hx : ∀ k, k < n → 0 ≤ xs k ∧ xs k < m) : gapsF xs n m t = gapF xs t n 0 0 0 :=
  gaps_inv ht hn hx n 0 _ _ 0 0 (by omega) (by omega) (by omega) (by omega) (by omega) rfl
theorem isF_all {xs : Nat → Int} {t : Int} : ∀ (d k : Nat), isF xs t d k = true → ∀ j, k ≤ j → j < k + d → 0 ≤ xs j ∧ xs j < t
  | 0, k, _, j, h1, h2 => by omega
  | d + 1, k, h, j, h1, h2 => by
    unfold isF okx at h
    simp only [Bool.and_eq_true, decide_eq_true_eq] at h
    rcases Nat.eq_or_lt_of_le h1 with e | e
    · subst e; exact h.1
    · exact isF_all d (k + 1) h.2 j e (by omega)

theorem awake42 : FnEq Try.prog 18 [] [] (.bool true) [] := FnEq.eval mixed (X := []) (fun f e h => by simp at h) 3000 Try.func18 (by kernel_rfl) rfl (by kernel_rfl)
theorem c_awake42 : Con Try.prog 18 [] (.bool true) := Con.of Try.func18 rfl rfl awake42
def H19N (P : Program) (fn : Func) (m : Nat) (xs out last : Nat → Int) (k : Int) : VS := puts [(42, num k)] (putM [.cells (([] : List Value)) 0 false, .cells (row m last) 1 true, .cells (row m out) 1 true, .cells [sl A1 m] 0 true, .cells [sl A2 m] 0 true] (keepS [0, 8, 9, 41, 42] (vadv P 35 (afterAp (vadv P 1 (afterAp (vadv P 12 (afterM [Ent.view 0] [] (go P (entry fn [sl none 0, num m] [.cells (([] : List Value)) 0 false])) (Value.int IntKind.i64 0) [Blk.gone])) (.slice (some ⟨(vadv P 12 (afterM [Ent.view 0] [] (go P (entry fn [sl none 0, num m] [.cells (([] : List Value)) 0 false])) (Value.int IntKind.i64 0) [Blk.gone])).mem.length, 0, none⟩) ((↑m : Int) : Int).toNat ((↑m : Int) : Int).toNat) ((vadv P 12 (afterM [Ent.view 0] [] (go P (entry fn [sl none 0, num m] [.cells (([] : List Value)) 0 false])) (Value.int IntKind.i64 0) [Blk.gone])).mem ++ [.cells (List.replicate ((↑m : Int) : Int).toNat (Value.int IntKind.i64 0)) 1 true]) ⟨[], []⟩)) (.slice (some ⟨(vadv P 1 (afterAp (vadv P 12 (afterM [Ent.view 0] [] (go P (entry fn [sl none 0, num m] [.cells (([] : List Value)) 0 false])) (Value.int IntKind.i64 0) [Blk.gone])) (.slice (some ⟨(vadv P 12 (afterM [Ent.view 0] [] (go P (entry fn [sl none 0, num m] [.cells (([] : List Value)) 0 false])) (Value.int IntKind.i64 0) [Blk.gone])).mem.length, 0, none⟩) ((↑m : Int) : Int).toNat ((↑m : Int) : Int).toNat) ((vadv P 12 (afterM [Ent.view 0] [] (go P (entry fn [sl none 0, num m] [.cells (([] : List Value)) 0 false])) (Value.int IntKind.i64 0) [Blk.gone])).mem ++ [.cells (List.replicate ((↑m : Int) : Int).toNat (Value.int IntKind.i64 0)) 1 true]) ⟨[], []⟩)).mem.length, 0, none⟩) ((↑m : Int) : Int).toNat ((↑m : Int) : Int).toNat) ((vadv P 1 (afterAp (vadv P 12 (afterM [Ent.view 0] [] (go P (entry fn [sl none 0, num m] [.cells (([] : List Value)) 0 false])) (Value.int IntKind.i64 0) [Blk.gone])) (.slice (some ⟨(vadv P 12 (afterM [Ent.view 0] [] (go P (entry fn [sl none 0, num m] [.cells (([] : List Value)) 0 false])) (Value.int IntKind.i64 0) [Blk.gone])).mem.length, 0, none⟩) ((↑m : Int) : Int).toNat ((↑m : Int) : Int).toNat) ((vadv P 12 (afterM [Ent.view 0] [] (go P (entry fn [sl none 0, num m] [.cells (([] : List Value)) 0 false])) (Value.int IntKind.i64 0) [Blk.gone])).mem ++ [.cells (List.replicate ((↑m : Int) : Int).toNat (Value.int IntKind.i64 0)) 1 true]) ⟨[], []⟩)).mem ++ [.cells (List.replicate ((↑m : Int) : Int).toNat (Value.int IntKind.i64 0)) 1 true]) ⟨[], []⟩))))

theorem c_isN {t : Int} : ConM Try.prog 20 [sl none 0, num t] [.cells [] 0 false] (.bool true) (List.replicate 1 .gone) := ConM.reads Try.func20 (by kernel_rfl) rfl <| R.fin mixed Try.func20 (by kernel_rfl)
theorem c_gapN {t : Int} {xs : Nat → Int} : ConM Try.prog 21 [sl none 0, num t] [.cells [] 0 false] (num (gapF xs t 0 0 0 0)) (List.replicate 1 .gone) := ConM.reads Try.func21 (by kernel_rfl) rfl <| R.fin mixed Try.func21 (by kernel_rfl)
theorem c_idxN {t : Int} : ConM Try.prog 90 [sl none 0, clo 85 1] [.cells [] 0 false, .cells [num t] 0 false] (num (-1)) (List.replicate 2 .gone) := ConM.reads Try.func90 (by kernel_rfl) rfl <| R.fin mixed Try.func90 (by kernel_rfl)
theorem c_hasN {t : Int} : ConM Try.prog 84 [sl none 0, clo 85 1] [.cells [] 0 false, .cells [num t] 0 false] (.bool false) (List.replicate 2 .gone) := by
  exact ConM.reads Try.func84 (by kernel_rfl) rfl <|
    R.callP mixed [Ent.view 0, Ent.win 1 0 1 false] [] [[]] (show ConM Try.prog 90 [Value.slice none 0 0, Value.func (Fn.func 85) ⟨[]⟩ ⟨[Value.pointer (some ⟨1, 0, none⟩)]⟩] [Blk.cells [] 0 false, Blk.cells [Value.int IntKind.i64 t] 0 false] (Value.int IntKind.i64 (-1)) [Blk.gone, Blk.gone] from c_idxN) (by kernel_rfl) (by kernel_rfl) (by kernel_rfl) ⟨(by first | exact row_plains | exact rowV_plains (fun _ _ => rfl) | rfl), trivial⟩ trivial <|
    R.finIs mixed Try.func84 (Value.bool false) (by kernel_rfl) (by rfl)
theorem c_chkN {xs : Nat → Int} {t : Int} : ConM Try.prog 61 [sl none 0, num t] [.cells [] 0 false] (num (chkE xs 0 t)) (List.replicate 1 .gone) := by
  exact ConM.reads Try.func61 (by kernel_rfl) rfl <|
    R.guard mixed 11 (decide (t < 1)) (by kernel_rfl)
     (fun h0 =>
       R.finIs mixed Try.func61 (Value.int IntKind.i64 2) (by kernel_rfl) (by simp_all [chkE, isF])
     )
     (fun h0 =>
       R.branch mixed 4 (bif false then true else decide (t > 80)) (by kernel_rfl)
        (fun h1 =>
          R.finIs mixed Try.func61 (Value.int IntKind.i64 2) (by kernel_rfl) (by simp_all [chkE, isF])
        )
        (fun h1 =>
          R.callP mixed [Ent.view 0, Ent.win 1 0 1 false] [] [[]] (show ConM Try.prog 84 [Value.slice none 0 0, Value.func (Fn.func 85) ⟨[]⟩ ⟨[Value.pointer (some ⟨1, 0, none⟩)]⟩] [Blk.cells [] 0 false, Blk.cells [Value.int IntKind.i64 t] 0 false] (Value.bool false) [Blk.gone, Blk.gone] from c_hasN) (by kernel_rfl) (by kernel_rfl) (by kernel_rfl) ⟨(by first | exact row_plains | exact rowV_plains (fun _ _ => rfl) | rfl), trivial⟩ trivial <|
          R.finIs mixed Try.func61 (Value.int IntKind.i64 0) (by kernel_rfl) (by simp_all [chkE, isF])
        )
     )
theorem g2N_loop {m : Nat} {xs last : Nat → Int} (hm : m ≤ 80) : ∀ (d k : Nat) (out : Nat → Int), k + d = m → RunsQ (fun x => x = [.cells (([] : List Value)) 0 false, .cells (row m last) 1 true, .cells (row m (endF 0 last d k out)) 1 true, .cells [sl A1 m] 0 true, .cells [sl A2 m] 0 true]) Try.prog 19 1 (H19N Try.prog Try.f19 m xs out last k) (.tuple ⟨[sl A2 m, num 0]⟩) := by
  intro d
  induction d with
  | zero =>
    intro k out hk
    exact Q.cond mixed 4 (decide ((↑k : Int) < (↑m : Int))) false (by simp; omega) (by kernel_rfl) <|
      Q.finIs mixed Try.func19 (Value.tuple ⟨[Value.slice (some ⟨2, 0, none⟩) m m, Value.int IntKind.i64 0]⟩) (by kernel_rfl) (by rfl) [Blk.cells [] 0 false, Blk.cells (row m last) 1 true, Blk.cells (row m out) 1 true, Blk.cells [sl A1 m] 0 true, Blk.cells [sl A2 m] 0 true] (by kernel_rfl) (by rfl)
  | succ d ih =>
    intro k out hk
    exact Q.cond mixed 4 (decide ((↑k : Int) < (↑m : Int))) true (by simp; omega) (by kernel_rfl) <|
      Q.callP mixed [Ent.ownp 2, Ent.view 1, Ent.win 4 0 1 false, Ent.win 3 0 1 false] [0] [row m out, row m last] (show ConM Try.prog 62 [Value.int IntKind.i64 (↑k : Int), Value.int IntKind.i64 0, Value.pointer (some ⟨2, 0, none⟩), Value.pointer (some ⟨3, 0, none⟩)] [Blk.cells (row m out) 1 true, Blk.cells (row m last) 0 false, Blk.cells [Value.slice (some ⟨0, 0, none⟩) m m] 0 false, Blk.cells [Value.slice (some ⟨1, 0, none⟩) m m] 0 false] (Value.tuple ⟨[]⟩) [Blk.cells (row m (seeF out last (↑k : Int).toNat 0)) 1 true, Blk.cells (row m last) 0 false, Blk.cells [Value.slice (some ⟨0, 0, none⟩) m m] 0 false, Blk.cells [Value.slice (some ⟨1, 0, none⟩) m m] 0 false] from c_see (p := ((k : Int).toNat)) (by omega) (by omega)) (by kernel_rfl) (by kernel_rfl) (by kernel_rfl) ⟨(by first | exact row_plains | exact rowV_plains (fun _ _ => rfl) | rfl), (by first | exact row_plains | exact rowV_plains (fun _ _ => rfl) | rfl), trivial⟩ ⟨(by first | exact row_plains | exact rowV_plains (fun _ _ => rfl) | rfl), trivial⟩ <|
      Q.at mixed 8 [0, 8, 9, 41, 42] (st := H19N Try.prog Try.f19 m xs (seeF out last k 0) last (IntKind.i64.wrap ((k : Int) + 1))) (by kernel_rfl) (by
        rw [wrap_succ (by omega)]; exact ih (k + 1) _ (by omega))
theorem c_gapsN {m : Nat} {xs : Nat → Int} (hm : 1 ≤ m ∧ m ≤ 80) (he : chkE xs 0 m = 0) : ConM Try.prog 19 [sl none 0, num m] [.cells [] 0 false] (.tuple ⟨[sl A1 m, num 0]⟩) [.cells [] 0 false, .cells (row m (gapsF xs 0 m)) 1 true] := by
  refine ConM.keep (m1 := [.cells (([] : List Value)) 0 false, .cells (row m (fun _ => 0)) 1 true, .cells (row m (gapsF xs 0 m)) 1 true, .cells [sl A1 m] 0 true, .cells [sl A2 m] 0 true]) [0, 2] [0, 2] Try.func19 (by kernel_rfl) rfl (by decide) ⟨rfl, row_plains, trivial⟩ (v := .tuple ⟨[sl A2 m, num 0]⟩) (by kernel_rfl) (by kernel_rfl) ?_
  exact
    Q.callP mixed [Ent.view 0] [] [[]] (show ConM Try.prog 61 [Value.slice none 0 0, Value.int IntKind.i64 (↑m : Int)] [Blk.cells [] 0 false] (Value.int IntKind.i64 0) [Blk.gone] from c_chkN.val (congrArg num he)) (by kernel_rfl) (by kernel_rfl) (by kernel_rfl) ⟨(by first | exact row_plains | exact rowV_plains (fun _ _ => rfl) | rfl), trivial⟩ trivial <|
    Q.make mixed 12 (Value.int IntKind.i64 0) ((↑m : Int)) ((↑m : Int)) 8 (by kernel_rfl) (by omega) (by omega) (by omega) (by omega) rfl <|
    Q.make mixed 1 (Value.int IntKind.i64 0) ((↑m : Int)) ((↑m : Int)) 8 (by kernel_rfl) (by omega) (by omega) (by omega) (by omega) rfl <|
    Q.at mixed 35 [0, 8, 9, 41, 42] (st := H19N Try.prog Try.f19 m xs (fun _ => 0) (fun _ => 0) (0 : Nat)) (by rw [replicate_row]; kernel_rfl) (g2N_loop (by omega) m 0 (fun _ => 0) (by omega))
theorem c_gapsEN {xs : Nat → Int} {t e : Int} (he : chkE xs 0 t = e) (h0 : e ≠ 0) : ConM Try.prog 19 [sl none 0, num t] [.cells [] 0 false] (.tuple ⟨[.slice none 0 0, num e]⟩) (List.replicate 1 .gone) :=
  ConM.reads Try.func19 (by kernel_rfl) rfl <| R.callP mixed [.view 0] [] [[]] (c_chkN.val (congrArg num he)) (by kernel_rfl) (by kernel_rfl) (by kernel_rfl) ⟨rfl, trivial⟩ trivial <| R.cond mixed 7 (e != 0) true (by simpa using h0) (by kernel_rfl) <| R.fin mixed Try.func19 (by kernel_rfl)
theorem c_gapsE {n : Nat} {xs : Nat → Int} {t e : Int} (hn : n ≤ 1000000) (he : chkE xs n t = e) (h0 : e ≠ 0) : ConM Try.prog 19 [sl A0 n, num t] [.cells (row n xs) 0 false] (.tuple ⟨[.slice none 0 0, num e]⟩) (List.replicate 1 .gone) :=
  ConM.reads Try.func19 (by kernel_rfl) rfl <| R.callP mixed [.view 0] [] [row n xs] ((c_chk hn).val (congrArg num he)) (by kernel_rfl) (by kernel_rfl) (by kernel_rfl) ⟨row_plains, trivial⟩ trivial <| R.cond mixed 7 (e != 0) true (by simpa using h0) (by kernel_rfl) <| R.fin mixed Try.func19 (by kernel_rfl)
def H4 (P : Program) (fn : Func) (n m : Nat) (xs : Nat → Int) (k : Int) : VS := puts [(7, num k)] (keepS [0, 1, 5, 7] (vadv P 10 (goC (vadv P 16 (afterM [Ent.view 0] [] (go P (goC (vadv P 4 (setG (vadv P 12 (afterM [Ent.view 0] [0, 1] (go P (goC (vadv P 11 (entry fn [sl A0 n, num m] [.cells (row n xs) 0 false])) false)) (Value.tuple ⟨[sl A1 m, Value.int IntKind.i64 0]⟩) [Blk.cells (row n xs) 0 false, Blk.cells (row m (gapsF xs n m)) 1 true])) false)) false)) (Value.bool true) [Blk.gone])) false)))

theorem gaps_loop {n m : Nat} {xs : Nat → Int} (hm : 1 ≤ m ∧ m ≤ 80) (hn : n ≤ 1000000) (hx : ∀ k, k < n → 0 ≤ xs k ∧ xs k < m) : ∀ (d k : Nat), k + d = m → RunsE Try.prog 4 1 (H4 Try.prog Try.f4 n m xs k) (.bool true) := by
  intro d
  induction d with
  | zero =>
    intro k hk
    exact R.cond mixed 5 (decide ((↑k : Int) < (↑m : Int))) false (by simp; omega) (by kernel_rfl) <|
      R.call mixed (show Con Try.prog 18 [] (Value.bool true) from c_awake42) (by kernel_rfl) <|
      R.finIs mixed Try.func4 (Value.bool true) (by kernel_rfl) (by first | rfl | (exfalso; simp_all; done) | (exfalso; simp_all; omega))
  | succ d ih =>
    intro k hk
    exact R.cond mixed 5 (decide ((↑k : Int) < (↑m : Int))) true (by simp; omega) (by kernel_rfl) <|
      R.idx mixed 7 1 (0) (m) 1 IntKind.i64 ((↑k : Int)) (k) (by kernel_rfl) (by omega) (by omega) (by omega) <|
      R.load1 mixed 0 1 1 (k) (row m (gapsF xs n m)) (Value.int IntKind.i64 (gapsF xs n m k)) (by kernel_rfl) (by exact rowV_get' (by omega) rfl) <|
      R.callP mixed [Ent.view 0] [] [row n xs] (show ConM Try.prog 21 [Value.slice (some ⟨0, 0, none⟩) n n, Value.int IntKind.i64 (↑k : Int)] [Blk.cells (row n xs) 0 false] (Value.int IntKind.i64 (gapF xs (↑k : Int) n 0 0 0)) [Blk.gone] from c_gap hn) (by kernel_rfl) (by kernel_rfl) (by kernel_rfl) ⟨(by first | exact row_plains | exact rowV_plains (fun _ _ => rfl) | rfl), trivial⟩ trivial <|
      R.branch mixed 2 (gapsF xs n m k != gapF xs (↑k : Int) n 0 0 0) (by kernel_rfl)
       (fun h1 =>
         R.finIs mixed Try.func4 (Value.bool false) (by kernel_rfl) (by exfalso; rw [gaps_is (n := n) (by omega) (by omega) hx] at h1; simp at h1)
       )
       (fun h1 =>
         R.at mixed 10 [0, 1, 5, 7] (st := H4 Try.prog Try.f4 n m xs (IntKind.i64.wrap ((k : Int) + 1))) (by kernel_rfl) (by
           rw [wrap_succ (by omega)]; exact ih (k + 1) (by omega))
       )

theorem gapsE1 {n : Nat} {xs : Nat → Int} {t : Int} (hn : n ≤ 1000000) (ht : t < 1 ∨ t > 80) : RunsE Try.prog 4 1 (entry Try.f4 [sl A0 n, num t] [.cells (row n xs) 0 false]) (.bool true) := by
  have he : chkE xs n t = 2 := by unfold chkE; rw [if_pos ht]
  exact
    R.branch mixed 11 (decide ((↑n : Int) > 200)) (by kernel_rfl)
     (fun h0 =>
       R.call mixed (show Con Try.prog 18 [] (Value.bool true) from c_awake42) (by kernel_rfl) <|
       R.finIs mixed Try.func4 (Value.bool true) (by kernel_rfl) (by first | rfl | (exfalso; simp_all; done) | (exfalso; simp_all; omega))
     )
     (fun h0 =>
       R.callP mixed [Ent.view 0] [] [row n xs] (show ConM Try.prog 19 [Value.slice (some ⟨0, 0, none⟩) n n, Value.int IntKind.i64 t] [Blk.cells (row n xs) 0 false] (Value.tuple ⟨[Value.slice none 0 0, Value.int IntKind.i64 2]⟩) [Blk.gone] from c_gapsE hn he (by decide)) (by kernel_rfl) (by kernel_rfl) (by kernel_rfl) ⟨(by first | exact row_plains | exact rowV_plains (fun _ _ => rfl) | rfl), trivial⟩ trivial <|
       R.guard mixed 12 (decide (t < 1)) (by kernel_rfl)
        (fun h1 =>
          R.call mixed (show Con Try.prog 18 [] (Value.bool true) from c_awake42) (by kernel_rfl) <|
          R.finIs mixed Try.func4 (Value.bool true) (by kernel_rfl) (by first | rfl | (exfalso; simp_all; done) | (exfalso; simp_all; omega))
        )
        (fun h1 =>
          R.branch mixed 4 (bif false then true else decide (t > 80)) (by kernel_rfl)
           (fun h2 =>
             R.call mixed (show Con Try.prog 18 [] (Value.bool true) from c_awake42) (by kernel_rfl) <|
             R.finIs mixed Try.func4 (Value.bool true) (by kernel_rfl) (by first | rfl | (exfalso; simp_all; done) | (exfalso; simp_all; omega))
           )
           (fun h2 =>
             R.callP mixed [Ent.view 0] [] [row n xs] (show ConM Try.prog 20 [Value.slice (some ⟨0, 0, none⟩) n n, Value.int IntKind.i64 t] [Blk.cells (row n xs) 0 false] (Value.bool true) [Blk.gone] from (by first | exact absurd ht (by simp at h1 h2; omega) | exact absurd ht (by simp at h0 h1; omega))) (by kernel_rfl) (by kernel_rfl) (by kernel_rfl) ⟨(by first | exact row_plains | exact rowV_plains (fun _ _ => rfl) | rfl), trivial⟩ trivial <|
             R.finIs mixed Try.func4 (Value.bool false) (by kernel_rfl) (by first | rfl | (exfalso; simp_all; done) | (exfalso; simp_all; omega))
           )
        )
     )
theorem gapsE2 {n : Nat} {xs : Nat → Int} {t : Int} (hn : n ≤ 1000000) (ht : ¬ (t < 1 ∨ t > 80)) (hi : isF xs t n 0 = false) : RunsE Try.prog 4 1 (entry Try.f4 [sl A0 n, num t] [.cells (row n xs) 0 false]) (.bool true) := by
  have he : chkE xs n t = 10 := by unfold chkE; rw [if_neg ht, hi]; rfl
  exact
    R.branch mixed 11 (decide ((↑n : Int) > 200)) (by kernel_rfl)
     (fun h0 =>
       R.call mixed (show Con Try.prog 18 [] (Value.bool true) from c_awake42) (by kernel_rfl) <|
       R.finIs mixed Try.func4 (Value.bool true) (by kernel_rfl) (by first | rfl | (exfalso; simp_all; done) | (exfalso; simp_all; omega))
     )
     (fun h0 =>
       R.callP mixed [Ent.view 0] [] [row n xs] (show ConM Try.prog 19 [Value.slice (some ⟨0, 0, none⟩) n n, Value.int IntKind.i64 t] [Blk.cells (row n xs) 0 false] (Value.tuple ⟨[Value.slice none 0 0, Value.int IntKind.i64 10]⟩) [Blk.gone] from c_gapsE hn he (by decide)) (by kernel_rfl) (by kernel_rfl) (by kernel_rfl) ⟨(by first | exact row_plains | exact rowV_plains (fun _ _ => rfl) | rfl), trivial⟩ trivial <|
       R.guard mixed 12 (decide (t < 1)) (by kernel_rfl)
        (fun h1 =>
          R.finIs mixed Try.func4 (Value.bool false) (by kernel_rfl) (by first | rfl | (exfalso; simp_all; done) | (exfalso; simp_all; omega))
        )
        (fun h1 =>
          R.branch mixed 4 (bif false then true else decide (t > 80)) (by kernel_rfl)
           (fun h2 =>
             R.finIs mixed Try.func4 (Value.bool false) (by kernel_rfl) (by first | rfl | (exfalso; simp_all; done) | (exfalso; simp_all; omega))
           )
           (fun h2 =>
             R.callP mixed [Ent.view 0] [] [row n xs] (show ConM Try.prog 20 [Value.slice (some ⟨0, 0, none⟩) n n, Value.int IntKind.i64 t] [Blk.cells (row n xs) 0 false] (Value.bool false) [Blk.gone] from (c_is hn).val (congrArg Value.bool hi)) (by kernel_rfl) (by kernel_rfl) (by kernel_rfl) ⟨(by first | exact row_plains | exact rowV_plains (fun _ _ => rfl) | rfl), trivial⟩ trivial <|
             R.call mixed (show Con Try.prog 18 [] (Value.bool true) from c_awake42) (by kernel_rfl) <|
             R.finIs mixed Try.func4 (Value.bool true) (by kernel_rfl) (by first | rfl | (exfalso; simp_all; done) | (exfalso; simp_all; omega))
           )
        )
     )
theorem gapsOK {n m : Nat} {xs : Nat → Int} (hm : 1 ≤ m ∧ m ≤ 80) (hn : n ≤ 1000000) (hi : isF xs m n 0 = true) : RunsE Try.prog 4 1 (entry Try.f4 [sl A0 n, num m] [.cells (row n xs) 0 false]) (.bool true) := by
  have he : chkE xs n m = 0 := by unfold chkE; rw [if_neg (by omega)]; rw [hi]; rfl
  have hx : ∀ k, k < n → 0 ≤ xs k ∧ xs k < m := fun k hk => isF_all n 0 hi k (by omega) (by omega)
  exact
    R.branch mixed 11 (decide ((↑n : Int) > 200)) (by kernel_rfl)
     (fun h0 =>
       R.call mixed (show Con Try.prog 18 [] (Value.bool true) from c_awake42) (by kernel_rfl) <|
       R.finIs mixed Try.func4 (Value.bool true) (by kernel_rfl) (by first | rfl | (exfalso; simp_all; done) | (exfalso; simp_all; omega))
     )
     (fun h0 =>
       R.callP mixed [Ent.view 0] [0, 1] [row n xs] (show ConM Try.prog 19 [Value.slice (some ⟨0, 0, none⟩) n n, Value.int IntKind.i64 (↑m : Int)] [Blk.cells (row n xs) 0 false] (Value.tuple ⟨[sl A1 m, Value.int IntKind.i64 0]⟩) [Blk.cells (row n xs) 0 false, Blk.cells (row m (gapsF xs n m)) 1 true] from c_gaps hm hn hx he) (by kernel_rfl) (by kernel_rfl) (by kernel_rfl) ⟨(by first | exact row_plains | exact rowV_plains (fun _ _ => rfl) | rfl), trivial⟩ ⟨(by first | exact row_plains | exact rowV_plains (fun _ _ => rfl) | rfl), (by first | exact row_plains | exact rowV_plains (fun _ _ => rfl) | rfl), trivial⟩ <|
       R.guard mixed 12 (decide ((↑m : Int) < 1)) (by kernel_rfl)
        (fun h1 =>
          R.guard mixed 11 ((↑m : Int) == 0) (by kernel_rfl)
           (fun h2 =>
             R.finIs mixed Try.func4 (Value.bool false) (by kernel_rfl) (by first | rfl | (exfalso; simp_all; done) | (exfalso; simp_all; omega))
           )
           (fun h2 =>
             R.finIs mixed Try.func4 (Value.bool false) (by kernel_rfl) (by first | rfl | (exfalso; simp_all; done) | (exfalso; simp_all; omega))
           )
        )
        (fun h1 =>
          R.branch mixed 4 (bif false then true else decide ((↑m : Int) > 80)) (by kernel_rfl)
           (fun h2 =>
             R.guard mixed 6 ((↑m : Int) == 0) (by kernel_rfl)
              (fun h3 =>
                R.finIs mixed Try.func4 (Value.bool false) (by kernel_rfl) (by first | rfl | (exfalso; simp_all; done) | (exfalso; simp_all; omega))
              )
              (fun h3 =>
                R.finIs mixed Try.func4 (Value.bool false) (by kernel_rfl) (by first | rfl | (exfalso; simp_all; done) | (exfalso; simp_all; omega))
              )
           )
           (fun h2 =>
             R.callP mixed [Ent.view 0] [] [row n xs] (show ConM Try.prog 20 [Value.slice (some ⟨0, 0, none⟩) n n, Value.int IntKind.i64 (↑m : Int)] [Blk.cells (row n xs) 0 false] (Value.bool true) [Blk.gone] from (c_is hn).val (congrArg Value.bool hi)) (by kernel_rfl) (by kernel_rfl) (by kernel_rfl) ⟨(by first | exact row_plains | exact rowV_plains (fun _ _ => rfl) | rfl), trivial⟩ trivial <|
             R.branch mixed 16 (bif 0 != 0 then true else (↑m : Int) != (↑m : Int)) (by kernel_rfl)
              (fun h3 =>
                absurd h3 (by simp)
              )
              (fun h3 =>
                R.at mixed 10 [0, 1, 5, 7] (st := H4 Try.prog Try.f4 n m xs (0 : Nat)) (by kernel_rfl) (gaps_loop hm hn hx m 0 (by omega))
              )
           )
        )
     )
def H4N (P : Program) (fn : Func) (m : Nat) (xs : Nat → Int) (k : Int) : VS := puts [(7, num k)] (keepS [0, 1, 5, 7] (vadv P 10 (goC (vadv P 16 (afterM [Ent.view 0] [] (go P (goC (vadv P 4 (setG (vadv P 12 (afterM [Ent.view 0] [0, 1] (go P (entry fn [sl none 0, num m] [.cells (([] : List Value)) 0 false])) (Value.tuple ⟨[sl A1 m, Value.int IntKind.i64 0]⟩) [Blk.cells [] 0 false, Blk.cells (row m (gapsF xs 0 m)) 1 true])) false)) false)) (Value.bool true) [Blk.gone])) false)))

theorem gaps_loopN {m : Nat} {xs : Nat → Int} (hm : 1 ≤ m ∧ m ≤ 80) : ∀ (d k : Nat), k + d = m → RunsE Try.prog 4 1 (H4N Try.prog Try.f4 m xs k) (.bool true) := by
  intro d
  induction d with
  | zero =>
    intro k hk
    exact R.cond mixed 5 (decide ((↑k : Int) < (↑m : Int))) false (by simp; omega) (by kernel_rfl) <|
      R.call mixed (show Con Try.prog 18 [] (Value.bool true) from c_awake42) (by kernel_rfl) <|
      R.finIs mixed Try.func4 (Value.bool true) (by kernel_rfl) (by first | rfl | (exfalso; simp_all; done) | (exfalso; simp_all; omega))
  | succ d ih =>
    intro k hk
    exact R.cond mixed 5 (decide ((↑k : Int) < (↑m : Int))) true (by simp; omega) (by kernel_rfl) <|
      R.idx mixed 7 1 (0) (m) 1 IntKind.i64 ((↑k : Int)) (k) (by kernel_rfl) (by omega) (by omega) (by omega) <|
      R.load1 mixed 0 1 1 (k) (row m (gapsF xs 0 m)) (Value.int IntKind.i64 (gapsF xs 0 m k)) (by kernel_rfl) (by exact rowV_get' (by omega) rfl) <|
      R.callP mixed [Ent.view 0] [] [[]] (show ConM Try.prog 21 [Value.slice none 0 0, Value.int IntKind.i64 (↑k : Int)] [Blk.cells [] 0 false] (Value.int IntKind.i64 (gapF xs (↑k : Int) 0 0 0 0)) [Blk.gone] from c_gapN ) (by kernel_rfl) (by kernel_rfl) (by kernel_rfl) ⟨(by first | exact row_plains | exact rowV_plains (fun _ _ => rfl) | rfl), trivial⟩ trivial <|
      R.branch mixed 2 (gapsF xs 0 m k != gapF xs (↑k : Int) 0 0 0 0) (by kernel_rfl)
       (fun h1 =>
         R.finIs mixed Try.func4 (Value.bool false) (by kernel_rfl) (by exfalso; rw [gaps_is (n := 0) (by omega) (by omega) (by omega)] at h1; simp at h1)
       )
       (fun h1 =>
         R.at mixed 10 [0, 1, 5, 7] (st := H4N Try.prog Try.f4 m xs (IntKind.i64.wrap ((k : Int) + 1))) (by kernel_rfl) (by
           rw [wrap_succ (by omega)]; exact ih (k + 1) (by omega))
       )

theorem gapsE1N  {xs : Nat → Int} {t : Int} (ht : t < 1 ∨ t > 80) : RunsE Try.prog 4 1 (entry Try.f4 [sl none 0, num t] [.cells (([] : List Value)) 0 false]) (.bool true) := by
  have he : chkE xs 0 t = 2 := by unfold chkE; rw [if_pos ht]
  exact
    R.callP mixed [Ent.view 0] [] [[]] (show ConM Try.prog 19 [Value.slice none 0 0, Value.int IntKind.i64 t] [Blk.cells [] 0 false] (Value.tuple ⟨[Value.slice none 0 0, Value.int IntKind.i64 2]⟩) [Blk.gone] from c_gapsEN  he (by decide)) (by kernel_rfl) (by kernel_rfl) (by kernel_rfl) ⟨(by first | exact row_plains | exact rowV_plains (fun _ _ => rfl) | rfl), trivial⟩ trivial <|
    R.guard mixed 12 (decide (t < 1)) (by kernel_rfl)
     (fun h0 =>
       R.call mixed (show Con Try.prog 18 [] (Value.bool true) from c_awake42) (by kernel_rfl) <|
       R.finIs mixed Try.func4 (Value.bool true) (by kernel_rfl) (by first | rfl | (exfalso; simp_all; done) | (exfalso; simp_all; omega))
     )
     (fun h0 =>
       R.branch mixed 4 (bif false then true else decide (t > 80)) (by kernel_rfl)
        (fun h1 =>
          R.call mixed (show Con Try.prog 18 [] (Value.bool true) from c_awake42) (by kernel_rfl) <|
          R.finIs mixed Try.func4 (Value.bool true) (by kernel_rfl) (by first | rfl | (exfalso; simp_all; done) | (exfalso; simp_all; omega))
        )
        (fun h1 =>
          R.callP mixed [Ent.view 0] [] [[]] (show ConM Try.prog 20 [Value.slice none 0 0, Value.int IntKind.i64 t] [Blk.cells [] 0 false] (Value.bool true) [Blk.gone] from (by first | exact absurd ht (by simp at h1 h2; omega) | exact absurd ht (by simp at h0 h1; omega))) (by kernel_rfl) (by kernel_rfl) (by kernel_rfl) ⟨(by first | exact row_plains | exact rowV_plains (fun _ _ => rfl) | rfl), trivial⟩ trivial <|
          R.finIs mixed Try.func4 (Value.bool false) (by kernel_rfl) (by first | rfl | (exfalso; simp_all; done) | (exfalso; simp_all; omega))
        )
     )
theorem gapsE2N  {xs : Nat → Int} {t : Int} (ht : ¬ (t < 1 ∨ t > 80)) (hi : isF xs t 0 0 = false) : RunsE Try.prog 4 1 (entry Try.f4 [sl none 0, num t] [.cells (([] : List Value)) 0 false]) (.bool true) := by
  have he : chkE xs 0 t = 10 := by unfold chkE; rw [if_neg ht, hi]; rfl
  exact
    (by simp [isF] at hi)
theorem gapsOKN {m : Nat} {xs : Nat → Int} (hm : 1 ≤ m ∧ m ≤ 80) : RunsE Try.prog 4 1 (entry Try.f4 [sl none 0, num m] [.cells (([] : List Value)) 0 false]) (.bool true) := by
  have he : chkE xs 0 m = 0 := by unfold chkE; rw [if_neg (by omega)]; rfl
  skip
  exact
    R.callP mixed [Ent.view 0] [0, 1] [[]] (show ConM Try.prog 19 [Value.slice none 0 0, Value.int IntKind.i64 (↑m : Int)] [Blk.cells [] 0 false] (Value.tuple ⟨[sl A1 m, Value.int IntKind.i64 0]⟩) [Blk.cells [] 0 false, Blk.cells (row m (gapsF xs 0 m)) 1 true] from c_gapsN hm he) (by kernel_rfl) (by kernel_rfl) (by kernel_rfl) ⟨(by first | exact row_plains | exact rowV_plains (fun _ _ => rfl) | rfl), trivial⟩ ⟨(by first | exact row_plains | exact rowV_plains (fun _ _ => rfl) | rfl), (by first | exact row_plains | exact rowV_plains (fun _ _ => rfl) | rfl), trivial⟩ <|
    R.guard mixed 12 (decide ((↑m : Int) < 1)) (by kernel_rfl)
     (fun h0 =>
       R.guard mixed 11 ((↑m : Int) == 0) (by kernel_rfl)
        (fun h1 =>
          R.finIs mixed Try.func4 (Value.bool false) (by kernel_rfl) (by first | rfl | (exfalso; simp_all; done) | (exfalso; simp_all; omega))
        )
        (fun h1 =>
          R.finIs mixed Try.func4 (Value.bool false) (by kernel_rfl) (by first | rfl | (exfalso; simp_all; done) | (exfalso; simp_all; omega))
        )
     )
     (fun h0 =>
       R.branch mixed 4 (bif false then true else decide ((↑m : Int) > 80)) (by kernel_rfl)
        (fun h1 =>
          R.guard mixed 6 ((↑m : Int) == 0) (by kernel_rfl)
           (fun h2 =>
             R.finIs mixed Try.func4 (Value.bool false) (by kernel_rfl) (by first | rfl | (exfalso; simp_all; done) | (exfalso; simp_all; omega))
           )
           (fun h2 =>
             R.finIs mixed Try.func4 (Value.bool false) (by kernel_rfl) (by first | rfl | (exfalso; simp_all; done) | (exfalso; simp_all; omega))
           )
        )
        (fun h1 =>
          R.callP mixed [Ent.view 0] [] [[]] (show ConM Try.prog 20 [Value.slice none 0 0, Value.int IntKind.i64 (↑m : Int)] [Blk.cells [] 0 false] (Value.bool true) [Blk.gone] from (c_isN ).val (congrArg Value.bool rfl)) (by kernel_rfl) (by kernel_rfl) (by kernel_rfl) ⟨(by first | exact row_plains | exact rowV_plains (fun _ _ => rfl) | rfl), trivial⟩ trivial <|
          R.branch mixed 16 (bif 0 != 0 then true else (↑m : Int) != (↑m : Int)) (by kernel_rfl)
           (fun h2 =>
             absurd h2 (by simp)
           )
           (fun h2 =>
             R.at mixed 10 [0, 1, 5, 7] (st := H4N Try.prog Try.f4 m xs (0 : Nat)) (by kernel_rfl) (gaps_loopN hm m 0 (by omega))
           )
        )
     )

/-- A slice of numbers: nil or not. -/
abbrev sv (nil : Bool) (n : Nat) : Value := bif nil then .slice none 0 0 else sl A0 n
theorem row0 {f : Nat → Int} : row 0 f = [] := rfl
theorem gaps_ (nil : Bool) (n : Nat) (xs : Nat → Int) (t : Int) (hnil : nil = true → n = 0) (hn' : n ≤ maxLen) : FnEq Try.prog 4 [sv nil n, num t] [.cells (row n xs) 0 false] (.bool true) (List.replicate 1 .gone) := by
  refine FnEq.runRO Try.func4 rfl rfl ?_
  cases nil with
  | true =>
    have := hnil rfl
    subst this
    rw [row0]
    rcases Decidable.em (t < 1 ∨ t > 80) with ht | ht
    · exact gapsE1N (xs := xs) ht
    · obtain ⟨m, rfl⟩ : ∃ m : Nat, t = m := ⟨t.toNat, by omega⟩
      exact gapsOKN (xs := xs) (by omega)
  | false =>
    rcases Nat.lt_or_ge 200 n with hb | hb
    · exact R.cond mixed 11 (decide ((n : Int) > 200)) true (by simp; omega) (by kernel_rfl) <| R.call mixed c_awake42 (by kernel_rfl) <| R.fin mixed Try.func4 (by kernel_rfl)
    · rcases Decidable.em (t < 1 ∨ t > 80) with ht | ht
      · exact gapsE1 (by omega) ht
      · cases hi : isF xs t n 0 with
        | false => exact gapsE2 (by omega) ht hi
        | true =>
          obtain ⟨m, rfl⟩ : ∃ m : Nat, t = m := ⟨t.toNat, by omega⟩
          exact gapsOK (by omega) (by omega) hi

end Go.Proofs.Ytjfodgjgpeiaaaa.Sl
