/- Fair orders: the law's walk. -/
import Derived.Test.YtjfodgjgpeiaaaaSF
namespace Go.Proofs.Ytjfodgjgpeiaaaa.Sl
open Go Go.Dt Go.Proofs
set_option linter.unusedVariables false
set_option linter.unusedSimpArgs false

theorem mx_lt {xs : Nat → Int} {w : Int} : ∀ (d k : Nat) (c : Int), mxF xs d k c < w ↔ c < w ∧ ∀ j, k ≤ j → j < k + d → xs j < w
  | 0, k, c => by
    unfold mxF
    exact ⟨fun h => ⟨h, fun j h1 h2 => by omega⟩, fun h => h.1⟩
  | d + 1, k, c => by
    unfold mxF
    rw [mx_lt d (k + 1)]
    constructor
    · rintro ⟨h1, h2⟩
      refine ⟨by split at h1 <;> omega, fun j h3 h4 => ?_⟩
      rcases Nat.eq_or_lt_of_le h3 with e | e
      · subst e; split at h1 <;> omega
      · exact h2 j e (by omega)
    · rintro ⟨h1, h2⟩
      refine ⟨?_, fun j h3 h4 => h2 j (by omega) (by omega)⟩
      have := h2 k (by omega) (by omega)
      split <;> omega
def free (xs : Nat → Int) (t : Int) (a b : Nat) : Prop := ∀ i, a ≤ i → i < b → xs i ≠ t
theorem gap_runs {xs : Nat → Int} {t : Int} {u : Nat} (hu : 1 ≤ u) : ∀ (d k : Nat) (best m : Int), k + d ≤ 1000000 → 0 ≤ m → m ≤ k → 0 ≤ best → (∀ w : Nat, 1 ≤ w → ((w : Int) ≤ m ↔ w ≤ k ∧ free xs t (k - w) k)) →
    ((u : Int) ≤ best ↔ ∃ j, j ≤ k ∧ u ≤ j ∧ free xs t (j - u) j) → ((u : Int) ≤ gapF xs t d k best m ↔ ∃ j, j ≤ k + d ∧ u ≤ j ∧ free xs t (j - u) j)
  | 0, k, best, m, hk, h0, h1, hb, hm, hB => by
    unfold gapF
    exact hB
  | d + 1, k, best, m, hk, h0, h1, hb, hm, hB => by
    unfold gapF
    have shift : (∃ j, j ≤ k + 1 + d ∧ u ≤ j ∧ free xs t (j - u) j) ↔ (∃ j, j ≤ k + (d + 1) ∧ u ≤ j ∧ free xs t (j - u) j) := by
      rw [show k + 1 + d = k + (d + 1) by omega]
    by_cases e : xs k = t
    · rw [if_pos e]
      refine (gap_runs hu d (k + 1) _ _ (by omega) (by omega) (by omega) (by unfold maxI; split <;> omega) ?_ ?_).trans shift
      · intro w hw
        constructor
        · intro h; omega
        · rintro ⟨h2, h3⟩
          exact absurd e (h3 k (by omega) (by omega))
      · have : ((u : Int) ≤ maxI best 0) ↔ (u : Int) ≤ best := by unfold maxI; split <;> omega
        rw [this, hB]
        constructor
        · rintro ⟨j, h2, h3, h4⟩
          exact ⟨j, by omega, h3, h4⟩
        · rintro ⟨j, h2, h3, h4⟩
          refine ⟨j, ?_, h3, h4⟩
          rcases Nat.lt_or_ge k j with h5 | h5
          · exact absurd e (h4 k (by omega) (by omega))
          · exact h5
    · rw [if_neg e]
      have hw1 : IntKind.i64.wrap (m + 1) = m + 1 := wrap_i64_of (by omega) (by omega)
      rw [hw1]
      have hm' : ∀ w : Nat, 1 ≤ w → ((w : Int) ≤ m + 1 ↔ w ≤ k + 1 ∧ free xs t (k + 1 - w) (k + 1)) := by
        intro w hw
        rcases Nat.eq_or_lt_of_le hw with h2 | h2
        · subst h2
          refine ⟨fun _ => ⟨by omega, fun i h3 h4 => ?_⟩, fun _ => by omega⟩
          have : i = k := by omega
          subst this; exact e
        · have := hm (w - 1) (by omega)
          constructor
          · intro h
            have h3 := this.1 (by omega)
            refine ⟨by omega, fun i h4 h5 => ?_⟩
            rcases Nat.eq_or_lt_of_le (show i ≤ k by omega) with h6 | h6
            · subst h6; exact e
            · exact h3.2 i (by omega) h6
          · rintro ⟨h3, h4⟩
            have := this.2 ⟨by omega, fun i h5 h6 => h4 i (by omega) (by omega)⟩
            omega
      refine (gap_runs hu d (k + 1) _ _ (by omega) (by omega) (by omega) (by unfold maxI; split <;> omega) hm' ?_).trans shift
      have : ((u : Int) ≤ maxI best (m + 1)) ↔ ((u : Int) ≤ best ∨ (u : Int) ≤ m + 1) := by unfold maxI; split <;> omega
      rw [this, hB, hm' u hu]
      constructor
      · rintro (⟨j, h2, h3, h4⟩ | ⟨h2, h3⟩)
        · exact ⟨j, by omega, h3, h4⟩
        · exact ⟨k + 1, by omega, h2, h3⟩
      · rintro ⟨j, h2, h3, h4⟩
        rcases Nat.eq_or_lt_of_le h2 with h5 | h5
        · subst h5; exact .inr ⟨h3, h4⟩
        · exact .inl ⟨j, by omega, h3, h4⟩
theorem gap_run {xs : Nat → Int} {t : Int} {u n : Nat} (hu : 1 ≤ u) (hn : n ≤ 1000000) : (u : Int) ≤ gapF xs t n 0 0 0 ↔ ∃ j, j ≤ n ∧ u ≤ j ∧ free xs t (j - u) j := by
  refine (gap_runs hu n 0 0 0 (by omega) (by omega) (by omega) (by omega) (fun w hw => ⟨fun h => by omega, fun h => by omega⟩) ⟨fun h => by omega, fun ⟨j, h1, h2, _⟩ => by omega⟩).trans ?_
  rw [Nat.zero_add]
theorem cnt_zero {xs : Nat → Int} {t : Int} : ∀ (d k : Nat) (c : Int), 0 ≤ c → c + d ≤ 1000000 → (cntF xs t d k c = 0 ↔ c = 0 ∧ free xs t k (k + d))
  | 0, k, c, h0, h1 => by
    unfold cntF
    exact ⟨fun h => ⟨h, fun i h2 h3 => by omega⟩, fun h => h.1⟩
  | d + 1, k, c, h0, h1 => by
    unfold cntF
    by_cases e : xs k = t
    · rw [if_pos e, wrap_i64_of (by omega) (by omega), cnt_zero d (k + 1) _ (by omega) (by omega)]
      exact ⟨fun h => by omega, fun h => absurd e (h.2 k (by omega) (by omega))⟩
    · rw [if_neg e, cnt_zero d (k + 1) _ h0 (by omega)]
      refine and_congr_right fun _ => ⟨fun h i h2 h3 => ?_, fun h i h2 h3 => h i (by omega) (by omega)⟩
      rcases Nat.eq_or_lt_of_le h2 with h4 | h4
      · subst h4; exact e
      · exact h i h4 (by omega)
theorem in_true {xs : Nat → Int} {u i : Nat} (hu : u ≤ 1000000) : ∀ (d t : Nat), inF xs u i d t = true ↔ ∀ s : Nat, t ≤ s → s < t + d → ¬ free xs s i (i + u)
  | 0, t => by
    unfold inF
    exact ⟨fun _ s h1 h2 => by omega, fun _ => rfl⟩
  | d + 1, t => by
    unfold inF
    have hz := cnt_zero (xs := xs) (t := t) u i 0 (by omega) (by omega)
    by_cases h : cntF xs t u i 0 = 0
    · rw [if_pos h]
      exact ⟨fun h => (by cases h), fun h2 => absurd (hz.1 h).2 (h2 t (by omega) (by omega))⟩
    · rw [if_neg h, in_true hu d (t + 1)]
      refine ⟨fun h2 s h3 h4 => ?_, fun h2 s h3 h4 => h2 s (by omega) (by omega)⟩
      rcases Nat.eq_or_lt_of_le h3 with h5 | h5
      · subst h5; exact fun h6 => h (hz.2 ⟨rfl, h6⟩)
      · exact h2 s h5 (by omega)
theorem rf_true {xs : Nat → Int} {u m : Nat} (hu : u ≤ 1000000) : ∀ (d i : Nat), rfF xs u m d i = true ↔ ∀ j, i ≤ j → j < i + d → ∀ s : Nat, s < m → ¬ free xs s j (j + u)
  | 0, i => by
    unfold rfF
    exact ⟨fun _ s h1 h2 => by omega, fun _ => rfl⟩
  | d + 1, i => by
    unfold rfF
    have hz := in_true (xs := xs) (i := i) hu m 0
    by_cases h : inF xs u i m 0 = true
    · rw [if_pos h, rf_true hu d (i + 1)]
      refine ⟨fun h2 j h3 h4 => ?_, fun h2 j h3 h4 => h2 j (by omega) (by omega)⟩
      rcases Nat.eq_or_lt_of_le h3 with h5 | h5
      · subst h5; exact fun s hs => hz.1 h s (by omega) (by omega)
      · exact h2 j h5 (by omega)
    · rw [if_neg h]
      refine ⟨fun h2 => (by cases h2), fun h2 => absurd (hz.2 fun s h3 h4 => h2 i (by omega) (by omega) s (by omega)) h⟩
theorem fair_is {xs : Nat → Int} {n m u : Nat} (hm : 1 ≤ m) (hu : 1 ≤ u) (hn : n ≤ 1000000) (hx : ∀ k, k < n → 0 ≤ xs k ∧ xs k < m) :
    (bif decide ((n : Int) < u) then true else decide (mxF (gapsF xs n m) (m - 1) 1 (gapsF xs n m 0) < u)) = rfF xs u m (n + 1 - u) 0 := by
  rcases Nat.lt_or_ge n u with h | h
  · rw [decide_eq_true (by omega), show n + 1 - u = 0 by omega]; rfl
  · rw [decide_eq_false (by omega), cond_false, Bool.eq_iff_iff, decide_eq_true_eq, mx_lt, rf_true (by omega)]
    have g : ∀ t : Nat, t < m → (gapsF xs n m t < u ↔ ¬ ∃ j, j ≤ n ∧ u ≤ j ∧ free xs t (j - u) j) := fun t ht => by
      rw [gaps_is ht hn hx, ← gap_run hu hn]; omega
    constructor
    · rintro ⟨h1, h2⟩ j h3 h4 s hs hf
      have h5 : gapsF xs n m s < u := by
        rcases Nat.eq_zero_or_pos s with e | e
        · subst e; exact h1
        · exact h2 s (by omega) (by omega)
      exact (g s hs).1 h5 ⟨j + u, by omega, by omega, by rw [Nat.add_sub_cancel]; exact hf⟩
    · intro h1
      have all : ∀ t : Nat, t < m → gapsF xs n m t < u := fun t ht => (g t ht).2 fun ⟨j, h2, h3, h4⟩ => h1 (j - u) (by omega) (by omega) t ht (by rw [Nat.sub_add_cancel h3]; exact h4)
      exact ⟨all 0 (by omega), fun j h2 h3 => all j (by omega)⟩

theorem c_fairK {n m : Nat} {xs : Nat → Int} {u : Int} (hm : 1 ≤ m ∧ m ≤ 80) (hu : 1 ≤ u) (hn : n ≤ 1000000) (hx : ∀ k, k < n → 0 ≤ xs k ∧ xs k < m) (he : chkE xs n m = 0) : ConM Try.prog 28 [sl A0 n, num m, num u] [.cells (row n xs) 0 false] (.tuple ⟨[.bool (bif decide ((n : Int) < u) then true else decide (mxF (gapsF xs n m) (m - 1) 1 (gapsF xs n m 0) < u)), num 0]⟩) (List.replicate 1 .gone) := by
  exact ConM.reads Try.func28 (by kernel_rfl) rfl <|
    R.guard mixed 11 (decide ((↑m : Int) < 1)) (by kernel_rfl)
     (fun h0 =>
       R.finIs mixed Try.func28 (Value.tuple ⟨[Value.bool false, Value.int IntKind.i64 2]⟩) (by kernel_rfl) (by first | (simp_all; done) | (exfalso; simp_all; done) | (exfalso; simp_all; omega) | (simp_all; omega))
     )
     (fun h0 =>
       R.guard mixed 4 (bif false then true else decide ((↑m : Int) > 80)) (by kernel_rfl)
        (fun h1 =>
          R.finIs mixed Try.func28 (Value.tuple ⟨[Value.bool false, Value.int IntKind.i64 2]⟩) (by kernel_rfl) (by first | (simp_all; done) | (exfalso; simp_all; done) | (exfalso; simp_all; omega) | (simp_all; omega))
        )
        (fun h1 =>
          R.branch mixed 4 (bif false then true else decide (u < 1)) (by kernel_rfl)
           (fun h2 =>
             R.finIs mixed Try.func28 (Value.tuple ⟨[Value.bool false, Value.int IntKind.i64 2]⟩) (by kernel_rfl) (by first | (simp_all; done) | (exfalso; simp_all; done) | (exfalso; simp_all; omega) | (simp_all; omega))
           )
           (fun h2 =>
             R.callP mixed [Ent.view 0] [0, 1] [row n xs] (show ConM Try.prog 19 [Value.slice (some ⟨0, 0, none⟩) n n, Value.int IntKind.i64 (↑m : Int)] [Blk.cells (row n xs) 0 false] (Value.tuple ⟨[sl A1 m, Value.int IntKind.i64 0]⟩) [Blk.cells (row n xs) 0 false, Blk.cells (row m (gapsF xs n m)) 1 true] from c_gaps hm hn hx he) (by kernel_rfl) (by kernel_rfl) (by kernel_rfl) ⟨(by first | exact row_plains | exact rowV_plains (fun _ _ => rfl) | rfl), trivial⟩ ⟨(by first | exact row_plains | exact rowV_plains (fun _ _ => rfl) | rfl), (by first | exact row_plains | exact rowV_plains (fun _ _ => rfl) | rfl), trivial⟩ <|
             R.guard mixed 21 (decide ((↑n : Int) < u)) (by kernel_rfl)
              (fun h3 =>
                R.finIs mixed Try.func28 (Value.tuple ⟨[Value.bool true, Value.int IntKind.i64 0]⟩) (by kernel_rfl) (by first | (simp_all; done) | (exfalso; simp_all; done) | (exfalso; simp_all; omega) | (simp_all; omega))
              )
              (fun h3 =>
                R.callP mixed [Ent.view 1] [] [row m (gapsF xs n m)] (show ConM Try.prog 64 [Value.slice (some ⟨0, 0, none⟩) m m] [Blk.cells (bif [0, 1].contains 1 then row m (gapsF xs n m) else upVs (upP [Ent.view 0] 1 [Blk.cells (row n xs) 0 false, Blk.cells (row m (gapsF xs n m)) 1 true].length (VS.reg [Item.code (((Code.region 4 #[{ dst := some 26, op := Op.move (Operand.tmp 9), type := 24, pos := "fair.go:53", after := #[], guard := none }, { dst := some 27, op := Op.binOp BinOp.neq 24 (Operand.tmp 26) (Operand.const (Value.int IntKind.i64 0)) 24, type := 4, pos := "fair.go:53", after := #[{ on := 0, ground := Ground.data }], guard := none }] false).seq (Code.cond (Operand.tmp 27) ((Code.region 5 #[{ dst := some 28, op := Op.move (Operand.tmp 9), type := 24, pos := "fair.go:54", after := #[{ on := 1, ground := Ground.gcOnly Departure.lateStores }], guard := none }, { dst := some 6, op := Op.assign (Operand.const (Value.bool false)), type := 4, pos := "fair.go:54", after := #[{ on := 0, ground := Ground.textOnly Departure.lateStores }], guard := none }, { dst := some 7, op := Op.assign (Operand.tmp 28), type := 24, pos := "fair.go:54", after := #[{ on := 0, ground := Ground.data }, { on := 1, ground := Ground.chain }, { on := 0, ground := Ground.phase }, { on := 1, ground := Ground.phase }], guard := none }] false).seq Code.ret) Code.skip)).seq ((Code.region 6 #[{ dst := some 29, op := Op.move (Operand.tmp 0), type := 30, pos := "fair.go:56", after := #[], guard := none }, { dst := some 30, op := Op.call { callee := Callee.builtin Builtin.len, args := #[Operand.tmp 29], argTypes := #[30] }, type := 3, pos := "fair.go:56", after := #[{ on := 0, ground := Ground.data }], guard := none }, { dst := some 31, op := Op.move (Operand.tmp 2), type := 3, pos := "fair.go:56", after := #[], guard := none }, { dst := some 32, op := Op.binOp BinOp.lss 3 (Operand.tmp 30) (Operand.tmp 31) 3, type := 4, pos := "fair.go:56", after := #[{ on := 1, ground := Ground.data }, { on := 2, ground := Ground.data }], guard := none }, { dst := some 33, op := Op.move (Operand.tmp 32), type := 4, pos := "fair.go:56", after := #[{ on := 3, ground := Ground.data }], guard := none }, { dst := some 34, op := Op.move (Operand.tmp 8), type := 30, pos := "fair.go:56", after := #[{ on := 4, ground := Ground.guard }], guard := some (4, false) }, { dst := some 35, op := Op.call { callee := Callee.value (Operand.func 64), args := #[Operand.tmp 34], argTypes := #[30] }, type := 3, pos := "fair.go:56", after := #[{ on := 5, ground := Ground.data }, { on := 4, ground := Ground.chain }, { on := 4, ground := Ground.guard }], guard := some (4, false) }, { dst := some 36, op := Op.move (Operand.tmp 2), type := 3, pos := "fair.go:56", after := #[{ on := 4, ground := Ground.guard }], guard := some (4, false) }, { dst := some 37, op := Op.binOp BinOp.lss 3 (Operand.tmp 35) (Operand.tmp 36) 3, type := 4, pos := "fair.go:56", after := #[{ on := 6, ground := Ground.data }, { on := 7, ground := Ground.data }, { on := 4, ground := Ground.guard }], guard := some (4, false) }, { dst := some 38, op := Op.pick (Operand.tmp 33) (Operand.const (Value.bool true)) (Operand.tmp 37), type := 4, pos := "fair.go:56", after := #[{ on := 4, ground := Ground.data }, { on := 8, ground := Ground.data }], guard := none }, { dst := some 6, op := Op.assign (Operand.tmp 38), type := 4, pos := "fair.go:56", after := #[{ on := 9, ground := Ground.data }, { on := 6, ground := Ground.chain }, { on := 0, ground := Ground.phase }, { on := 1, ground := Ground.phase }, { on := 2, ground := Ground.phase }, { on := 3, ground := Ground.phase }, { on := 4, ground := Ground.phase }, { on := 5, ground := Ground.phase }, { on := 6, ground := Ground.phase }, { on := 7, ground := Ground.phase }, { on := 8, ground := Ground.phase }, { on := 9, ground := Ground.phase }], guard := none }, { dst := some 7, op := Op.assign (Operand.const (Value.int IntKind.i64 0)), type := 24, pos := "fair.go:56", after := #[{ on := 10, ground := Ground.chain }, { on := 0, ground := Ground.phase }, { on := 1, ground := Ground.phase }, { on := 2, ground := Ground.phase }, { on := 3, ground := Ground.phase }, { on := 4, ground := Ground.phase }, { on := 5, ground := Ground.phase }, { on := 6, ground := Ground.phase }, { on := 7, ground := Ground.phase }, { on := 8, ground := Ground.phase }, { on := 9, ground := Ground.phase }, { on := 10, ground := Ground.phase }], guard := none }] false).seq Code.ret))] 3 #[{ dst := some 21, op := Op.move (Operand.tmp 0), type := 30, pos := "fair.go:52", after := #[], guard := none }, { dst := some 22, op := Op.move (Operand.tmp 1), type := 3, pos := "fair.go:52", after := #[], guard := none }, { dst := some 23, op := Op.call { callee := Callee.value (Operand.func 19), args := #[Operand.tmp 21, Operand.tmp 22], argTypes := #[30, 3] }, type := 31, pos := "fair.go:52", after := #[{ on := 0, ground := Ground.data }, { on := 1, ground := Ground.data }], guard := none }, { dst := some 20, op := Op.move (Operand.tmp 23), type := 31, pos := "fair.go:52", after := #[{ on := 2, ground := Ground.data }], guard := none }, { dst := some 24, op := Op.extract (Operand.tmp 20) 0, type := 30, pos := "fair.go:52", after := #[{ on := 3, ground := Ground.data }], guard := none }, { dst := some 25, op := Op.extract (Operand.tmp 20) 1, type := 24, pos := "fair.go:52", after := #[{ on := 3, ground := Ground.data }, { on := 6, ground := Ground.gcOnly Departure.lateStores }], guard := none }, { dst := some 8, op := Op.assign (Operand.tmp 24), type := 30, pos := "fair.go:52", after := #[{ on := 4, ground := Ground.data }, { on := 2, ground := Ground.chain }, { on := 0, ground := Ground.phase }, { on := 1, ground := Ground.phase }, { on := 2, ground := Ground.phase }, { on := 3, ground := Ground.phase }, { on := 4, ground := Ground.phase }, { on := 5, ground := Ground.textOnly Departure.lateStores }], guard := none }, { dst := some 9, op := Op.assign (Operand.tmp 25), type := 24, pos := "fair.go:52", after := #[{ on := 5, ground := Ground.data }, { on := 6, ground := Ground.chain }, { on := 0, ground := Ground.phase }, { on := 1, ground := Ground.phase }, { on := 2, ground := Ground.phase }, { on := 3, ground := Ground.phase }, { on := 4, ground := Ground.phase }, { on := 5, ground := Ground.phase }, { on := 6, ground := Ground.phase }], guard := none }] false [sl A0 n, num (↑m : Int), num u, undef, undef, undef, Value.bool false, Value.int IntKind.i64 0, undef, undef, Value.int IntKind.i64 (↑m : Int), Value.bool (decide ((↑m : Int) < 1)), Value.bool false, Value.int IntKind.i64 (↑m : Int), Value.bool (decide ((↑m : Int) > 80)), Value.bool (bif false then true else decide ((↑m : Int) > 80)), Value.bool false, Value.int IntKind.i64 u, Value.bool (decide (u < 1)), Value.bool (bif false then true else decide (u < 1)), undef, undef, undef, undef, undef, undef, undef, undef, undef, undef, undef, undef, undef, undef, undef, undef, undef, undef, undef] [Blk.cells (row n xs) 0 false] 2 [sl A0 n, num (↑m : Int), num u, undef, undef, undef, Value.bool false, Value.int IntKind.i64 0, undef, undef, Value.int IntKind.i64 (↑m : Int), Value.bool (decide ((↑m : Int) < 1)), Value.bool false, Value.int IntKind.i64 (↑m : Int), Value.bool (decide ((↑m : Int) > 80)), Value.bool (bif false then true else decide ((↑m : Int) > 80)), Value.bool false, Value.int IntKind.i64 u, Value.bool (decide (u < 1)), Value.bool (bif false then true else decide (u < 1)), undef, Value.slice (some ⟨0, 0, none⟩) n n, Value.int IntKind.i64 (↑m : Int), undef, undef, undef, undef, undef, undef, undef, undef, undef, undef, undef, undef, undef, undef, undef, undef] [Blk.cells (row n xs) 0 false] [{ fp := { rd := [], wr := [] }, lo := [Blk.cells (row n xs) 0 false].length, hi := [Blk.cells (row n xs) 0 false].length }, { fp := { rd := [], wr := [] }, lo := [Blk.cells (row n xs) 0 false].length, hi := [Blk.cells (row n xs) 0 false].length }]).mem.length) (row m (gapsF xs n m))) 0 false] (Value.int IntKind.i64 (mxF (gapsF xs n m) (m - 1) 1 (gapsF xs n m 0))) [Blk.gone] from c_max64 (by omega) (by omega)) (by kernel_rfl) (by kernel_rfl) (by kernel_rfl) ⟨(by first | exact row_plains | exact rowV_plains (fun _ _ => rfl) | rfl), trivial⟩ trivial <|
                R.finIs mixed Try.func28 (Value.tuple ⟨[Value.bool (bif false then true else decide (mxF (gapsF xs n m) (m - 1) 1 (gapsF xs n m 0) < u)), Value.int IntKind.i64 0]⟩) (by kernel_rfl) (by first | (simp_all; done) | (exfalso; simp_all; done) | (exfalso; simp_all; omega) | (simp_all; omega))
              )
           )
        )
     )
theorem c_fairE {n : Nat} {xs : Nat → Int} {t u : Int} (hn : n ≤ 1000000) (hu : 1 ≤ u) (ht : 1 ≤ t ∧ t ≤ 80) (he : chkE xs n t = 10) : ConM Try.prog 28 [sl A0 n, num t, num u] [.cells (row n xs) 0 false] (.tuple ⟨[.bool false, num 10]⟩) (List.replicate 1 .gone) := by
  exact ConM.reads Try.func28 (by kernel_rfl) rfl <|
    R.guard mixed 11 (decide (t < 1)) (by kernel_rfl)
     (fun h0 =>
       R.finIs mixed Try.func28 (Value.tuple ⟨[Value.bool false, Value.int IntKind.i64 2]⟩) (by kernel_rfl) (by first | rfl | (exfalso; simp_all; done) | (exfalso; simp_all; omega))
     )
     (fun h0 =>
       R.guard mixed 4 (bif false then true else decide (t > 80)) (by kernel_rfl)
        (fun h1 =>
          R.finIs mixed Try.func28 (Value.tuple ⟨[Value.bool false, Value.int IntKind.i64 2]⟩) (by kernel_rfl) (by first | rfl | (exfalso; simp_all; done) | (exfalso; simp_all; omega))
        )
        (fun h1 =>
          R.branch mixed 4 (bif false then true else decide (u < 1)) (by kernel_rfl)
           (fun h2 =>
             R.finIs mixed Try.func28 (Value.tuple ⟨[Value.bool false, Value.int IntKind.i64 2]⟩) (by kernel_rfl) (by first | rfl | (exfalso; simp_all; done) | (exfalso; simp_all; omega))
           )
           (fun h2 =>
             R.callP mixed [Ent.view 0] [] [row n xs] (show ConM Try.prog 19 [Value.slice (some ⟨0, 0, none⟩) n n, Value.int IntKind.i64 t] [Blk.cells (row n xs) 0 false] (Value.tuple ⟨[Value.slice none 0 0, Value.int IntKind.i64 10]⟩) [Blk.gone] from c_gapsE hn he (by decide)) (by kernel_rfl) (by kernel_rfl) (by kernel_rfl) ⟨(by first | exact row_plains | exact rowV_plains (fun _ _ => rfl) | rfl), trivial⟩ trivial <|
             R.finIs mixed Try.func28 (Value.tuple ⟨[Value.bool false, Value.int IntKind.i64 10]⟩) (by kernel_rfl) (by first | rfl | (exfalso; simp_all; done) | (exfalso; simp_all; omega))
           )
        )
     )
theorem c_fairA {a : Option Addr} {n : Nat} {c : List Value} {t u : Int} (h : t < 1 ∨ t > 80 ∨ u < 1) : ConM Try.prog 28 [sl a n, num t, num u] [.cells c 0 false] (.tuple ⟨[.bool false, num 2]⟩) (List.replicate 1 .gone) := by
  refine ConM.reads Try.func28 (by kernel_rfl) rfl ?_
  rcases Decidable.em (t < 1) with h1 | h1
  · exact R.guardIs mixed 11 (decide (t < 1)) true (by simpa using h1) (by kernel_rfl) <| R.fin mixed Try.func28 (by kernel_rfl)
  · rcases Decidable.em (t > 80) with h2 | h2
    · exact R.guardIs mixed 11 (decide (t < 1)) false (by simpa using h1) (by kernel_rfl) <| R.guardIs mixed 4 (bif false then true else decide (t > 80)) true (by simpa using h2) (by kernel_rfl) <| R.fin mixed Try.func28 (by kernel_rfl)
    · exact R.guardIs mixed 11 (decide (t < 1)) false (by simpa using h1) (by kernel_rfl) <| R.guardIs mixed 4 (bif false then true else decide (t > 80)) false (by simpa using h2) (by kernel_rfl) <| R.cond mixed 4 (bif false then true else decide (u < 1)) true (by simp; omega) (by kernel_rfl) <| R.fin mixed Try.func28 (by kernel_rfl)
theorem fair_law {n : Nat} {t u e : Int} {xs : Nat → Int} {b i : Bool} (h28 : ConM Try.prog 28 [sl A0 n, num t, num u] [.cells (row n xs) 0 false] (.tuple ⟨[.bool b, num e]⟩) (List.replicate 1 .gone)) (h20 : ConM Try.prog 20 [sl A0 n, num t] [.cells (row n xs) 0 false] (.bool i) (List.replicate 1 .gone))
    (h29 : ¬ t > 80 → ¬ (t < 1 ∨ u < 1) → i = true → ConM Try.prog 29 [sl A0 n, num t, num u] [.cells (row n xs) 0 false] (.bool b) (List.replicate 1 .gone)) (c1 : ¬ t > 80 → t < 1 ∨ u < 1 → b = false ∧ e = 2) (c2 : ¬ t > 80 → ¬ (t < 1 ∨ u < 1) → i = false → b = false ∧ e = 10) (c3 : ¬ t > 80 → ¬ (t < 1 ∨ u < 1) → i = true → e = 0) : RunsE Try.prog 7 1 (entry Try.f7 [sl A0 n, num t, num u] [.cells (row n xs) 0 false]) (.bool true) := by
  exact
    R.guard mixed 11 (decide ((↑n : Int) > 80)) (by kernel_rfl)
     (fun h0 =>
       R.call mixed (show Con Try.prog 18 [] (Value.bool true) from c_awake42) (by kernel_rfl) <|
       R.finIs mixed Try.func7 (Value.bool true) (by kernel_rfl) (by first | rfl | (exfalso; simp_all; done) | (exfalso; simp_all; omega) | (exfalso; simp at *; simp_all; omega))
     )
     (fun h0 =>
       R.branch mixed 4 (bif false then true else decide (t > 80)) (by kernel_rfl)
        (fun h1 =>
          R.call mixed (show Con Try.prog 18 [] (Value.bool true) from c_awake42) (by kernel_rfl) <|
          R.finIs mixed Try.func7 (Value.bool true) (by kernel_rfl) (by first | rfl | (exfalso; simp_all; done) | (exfalso; simp_all; omega) | (exfalso; simp at *; simp_all; omega))
        )
        (fun h1 =>
          R.callP mixed [Ent.view 0] [] [row n xs] (show ConM Try.prog 28 [Value.slice (some ⟨0, 0, none⟩) n n, Value.int IntKind.i64 t, Value.int IntKind.i64 u] [Blk.cells (row n xs) 0 false] (Value.tuple ⟨[Value.bool b, Value.int IntKind.i64 e]⟩) [Blk.gone] from h28) (by kernel_rfl) (by kernel_rfl) (by kernel_rfl) ⟨(by first | exact row_plains | exact rowV_plains (fun _ _ => rfl) | rfl), trivial⟩ trivial <|
          R.guard mixed 12 (decide (t < 1)) (by kernel_rfl)
           (fun h2 =>
             R.guard mixed 10 (!b) (by kernel_rfl)
              (fun h3 =>
                R.guard mixed 4 (bif true then e == 2 else false) (by kernel_rfl)
                 (fun h4 =>
                   R.call mixed (show Con Try.prog 18 [] (Value.bool true) from c_awake42) (by kernel_rfl) <|
                   R.finIs mixed Try.func7 (Value.bool true) (by kernel_rfl) (by first | rfl | (exfalso; simp_all; done) | (exfalso; simp_all; omega) | (exfalso; simp at *; simp_all; omega))
                 )
                 (fun h4 =>
                   R.finIs mixed Try.func7 (Value.bool false) (by kernel_rfl) (by first | rfl | (exfalso; simp_all; done) | (exfalso; simp_all; omega) | (exfalso; simp at *; simp_all; omega))
                 )
              )
              (fun h3 =>
                R.finIs mixed Try.func7 (Value.bool false) (by kernel_rfl) (by first | rfl | (exfalso; simp_all; done) | (exfalso; simp_all; omega) | (exfalso; simp at *; simp_all; omega))
              )
           )
           (fun h2 =>
             R.branch mixed 4 (bif false then true else decide (u < 1)) (by kernel_rfl)
              (fun h3 =>
                R.guard mixed 5 (!b) (by kernel_rfl)
                 (fun h4 =>
                   R.guard mixed 4 (bif true then e == 2 else false) (by kernel_rfl)
                    (fun h5 =>
                      R.call mixed (show Con Try.prog 18 [] (Value.bool true) from c_awake42) (by kernel_rfl) <|
                      R.finIs mixed Try.func7 (Value.bool true) (by kernel_rfl) (by first | rfl | (exfalso; simp_all; done) | (exfalso; simp_all; omega) | (exfalso; simp at *; simp_all; omega))
                    )
                    (fun h5 =>
                      R.finIs mixed Try.func7 (Value.bool false) (by kernel_rfl) (by first | rfl | (exfalso; simp_all; done) | (exfalso; simp_all; omega) | (exfalso; simp at *; simp_all; omega))
                    )
                 )
                 (fun h4 =>
                   R.finIs mixed Try.func7 (Value.bool false) (by kernel_rfl) (by first | rfl | (exfalso; simp_all; done) | (exfalso; simp_all; omega) | (exfalso; simp at *; simp_all; omega))
                 )
              )
              (fun h3 =>
                R.callP mixed [Ent.view 0] [] [row n xs] (show ConM Try.prog 20 [Value.slice (some ⟨0, 0, none⟩) n n, Value.int IntKind.i64 t] [Blk.cells (row n xs) 0 false] (Value.bool i) [Blk.gone] from h20) (by kernel_rfl) (by kernel_rfl) (by kernel_rfl) ⟨(by first | exact row_plains | exact rowV_plains (fun _ _ => rfl) | rfl), trivial⟩ trivial <|
                R.branch mixed 2 (!i) (by kernel_rfl)
                 (fun h4 =>
                   R.guard mixed 5 (!b) (by kernel_rfl)
                    (fun h5 =>
                      R.guard mixed 4 (bif true then e == 10 else false) (by kernel_rfl)
                       (fun h6 =>
                         R.call mixed (show Con Try.prog 18 [] (Value.bool true) from c_awake42) (by kernel_rfl) <|
                         R.finIs mixed Try.func7 (Value.bool true) (by kernel_rfl) (by first | rfl | (exfalso; simp_all; done) | (exfalso; simp_all; omega) | (exfalso; simp at *; simp_all; omega))
                       )
                       (fun h6 =>
                         R.finIs mixed Try.func7 (Value.bool false) (by kernel_rfl) (by first | rfl | (exfalso; simp_all; done) | (exfalso; simp_all; omega) | (exfalso; simp at *; simp_all; omega))
                       )
                    )
                    (fun h5 =>
                      R.finIs mixed Try.func7 (Value.bool false) (by kernel_rfl) (by first | rfl | (exfalso; simp_all; done) | (exfalso; simp_all; omega) | (exfalso; simp at *; simp_all; omega))
                    )
                 )
                 (fun h4 =>
                   R.guard mixed 6 (e == 0) (by kernel_rfl)
                    (fun h5 =>
                      R.callP mixed [Ent.view 0] [] [row n xs] (show ConM Try.prog 29 [Value.slice (some ⟨0, 0, none⟩) n n, Value.int IntKind.i64 t, Value.int IntKind.i64 u] [Blk.cells (row n xs) 0 false] (Value.bool b) [Blk.gone] from (h29 (by simp_all) (by simp_all) (by simp_all))) (by kernel_rfl) (by kernel_rfl) (by kernel_rfl) ⟨(by first | exact row_plains | exact rowV_plains (fun _ _ => rfl) | rfl), trivial⟩ trivial <|
                      R.guard mixed 3 (bif true then b == b else false) (by kernel_rfl)
                       (fun h6 =>
                         R.call mixed (show Con Try.prog 18 [] (Value.bool true) from c_awake42) (by kernel_rfl) <|
                         R.finIs mixed Try.func7 (Value.bool true) (by kernel_rfl) (by first | rfl | (exfalso; simp_all; done) | (exfalso; simp_all; omega) | (exfalso; simp at *; simp_all; omega))
                       )
                       (fun h6 =>
                         R.finIs mixed Try.func7 (Value.bool false) (by kernel_rfl) (by first | rfl | (exfalso; simp_all; done) | (exfalso; simp_all; omega) | (exfalso; simp at *; simp_all; omega))
                       )
                    )
                    (fun h5 =>
                      R.finIs mixed Try.func7 (Value.bool false) (by kernel_rfl) (by first | rfl | (exfalso; simp_all; done) | (exfalso; simp_all; omega) | (exfalso; simp at *; simp_all; omega))
                    )
                 )
              )
           )
        )
     )

theorem c_fairKN {m : Nat} {xs : Nat → Int} {u : Int} (hm : 1 ≤ m ∧ m ≤ 80) (hu : 1 ≤ u) (he : chkE xs 0 m = 0) : ConM Try.prog 28 [sl none 0, num m, num u] [.cells (([] : List Value)) 0 false] (.tuple ⟨[.bool (bif decide ((0 : Int) < u) then true else decide (mxF (gapsF xs 0 m) (m - 1) 1 (gapsF xs 0 m 0) < u)), num 0]⟩) (List.replicate 1 .gone) := by
  exact ConM.reads Try.func28 (by kernel_rfl) rfl <|
    R.guard mixed 11 (decide ((↑m : Int) < 1)) (by kernel_rfl)
     (fun h0 =>
       R.finIs mixed Try.func28 (Value.tuple ⟨[Value.bool false, Value.int IntKind.i64 2]⟩) (by kernel_rfl) (by first | (simp_all; done) | (exfalso; simp_all; done) | (exfalso; simp_all; omega) | (simp_all; omega))
     )
     (fun h0 =>
       R.guard mixed 4 (bif false then true else decide ((↑m : Int) > 80)) (by kernel_rfl)
        (fun h1 =>
          R.finIs mixed Try.func28 (Value.tuple ⟨[Value.bool false, Value.int IntKind.i64 2]⟩) (by kernel_rfl) (by first | (simp_all; done) | (exfalso; simp_all; done) | (exfalso; simp_all; omega) | (simp_all; omega))
        )
        (fun h1 =>
          R.branch mixed 4 (bif false then true else decide (u < 1)) (by kernel_rfl)
           (fun h2 =>
             R.finIs mixed Try.func28 (Value.tuple ⟨[Value.bool false, Value.int IntKind.i64 2]⟩) (by kernel_rfl) (by first | (simp_all; done) | (exfalso; simp_all; done) | (exfalso; simp_all; omega) | (simp_all; omega))
           )
           (fun h2 =>
             R.callP mixed [Ent.view 0] [0, 1] [[]] (show ConM Try.prog 19 [Value.slice none 0 0, Value.int IntKind.i64 (↑m : Int)] [Blk.cells [] 0 false] (Value.tuple ⟨[sl A1 m, Value.int IntKind.i64 0]⟩) [Blk.cells [] 0 false, Blk.cells (row m (gapsF xs 0 m)) 1 true] from c_gapsN hm he) (by kernel_rfl) (by kernel_rfl) (by kernel_rfl) ⟨(by first | exact row_plains | exact rowV_plains (fun _ _ => rfl) | rfl), trivial⟩ ⟨(by first | exact row_plains | exact rowV_plains (fun _ _ => rfl) | rfl), (by first | exact row_plains | exact rowV_plains (fun _ _ => rfl) | rfl), trivial⟩ <|
             R.guard mixed 21 (decide (0 < u)) (by kernel_rfl)
              (fun h3 =>
                R.finIs mixed Try.func28 (Value.tuple ⟨[Value.bool true, Value.int IntKind.i64 0]⟩) (by kernel_rfl) (by first | (simp_all; done) | (exfalso; simp_all; done) | (exfalso; simp_all; omega) | (simp_all; omega))
              )
              (fun h3 =>
                R.callP mixed [Ent.view 1] [] [row m (gapsF xs 0 m)] (show ConM Try.prog 64 [Value.slice (some ⟨0, 0, none⟩) m m] [Blk.cells (bif [0, 1].contains 1 then row m (gapsF xs 0 m) else upVs (upP [Ent.view 0] 1 [Blk.cells [] 0 false, Blk.cells (row m (gapsF xs 0 m)) 1 true].length (VS.reg [Item.code (((Code.region 4 #[{ dst := some 26, op := Op.move (Operand.tmp 9), type := 24, pos := "fair.go:53", after := #[], guard := none }, { dst := some 27, op := Op.binOp BinOp.neq 24 (Operand.tmp 26) (Operand.const (Value.int IntKind.i64 0)) 24, type := 4, pos := "fair.go:53", after := #[{ on := 0, ground := Ground.data }], guard := none }] false).seq (Code.cond (Operand.tmp 27) ((Code.region 5 #[{ dst := some 28, op := Op.move (Operand.tmp 9), type := 24, pos := "fair.go:54", after := #[{ on := 1, ground := Ground.gcOnly Departure.lateStores }], guard := none }, { dst := some 6, op := Op.assign (Operand.const (Value.bool false)), type := 4, pos := "fair.go:54", after := #[{ on := 0, ground := Ground.textOnly Departure.lateStores }], guard := none }, { dst := some 7, op := Op.assign (Operand.tmp 28), type := 24, pos := "fair.go:54", after := #[{ on := 0, ground := Ground.data }, { on := 1, ground := Ground.chain }, { on := 0, ground := Ground.phase }, { on := 1, ground := Ground.phase }], guard := none }] false).seq Code.ret) Code.skip)).seq ((Code.region 6 #[{ dst := some 29, op := Op.move (Operand.tmp 0), type := 30, pos := "fair.go:56", after := #[], guard := none }, { dst := some 30, op := Op.call { callee := Callee.builtin Builtin.len, args := #[Operand.tmp 29], argTypes := #[30] }, type := 3, pos := "fair.go:56", after := #[{ on := 0, ground := Ground.data }], guard := none }, { dst := some 31, op := Op.move (Operand.tmp 2), type := 3, pos := "fair.go:56", after := #[], guard := none }, { dst := some 32, op := Op.binOp BinOp.lss 3 (Operand.tmp 30) (Operand.tmp 31) 3, type := 4, pos := "fair.go:56", after := #[{ on := 1, ground := Ground.data }, { on := 2, ground := Ground.data }], guard := none }, { dst := some 33, op := Op.move (Operand.tmp 32), type := 4, pos := "fair.go:56", after := #[{ on := 3, ground := Ground.data }], guard := none }, { dst := some 34, op := Op.move (Operand.tmp 8), type := 30, pos := "fair.go:56", after := #[{ on := 4, ground := Ground.guard }], guard := some (4, false) }, { dst := some 35, op := Op.call { callee := Callee.value (Operand.func 64), args := #[Operand.tmp 34], argTypes := #[30] }, type := 3, pos := "fair.go:56", after := #[{ on := 5, ground := Ground.data }, { on := 4, ground := Ground.chain }, { on := 4, ground := Ground.guard }], guard := some (4, false) }, { dst := some 36, op := Op.move (Operand.tmp 2), type := 3, pos := "fair.go:56", after := #[{ on := 4, ground := Ground.guard }], guard := some (4, false) }, { dst := some 37, op := Op.binOp BinOp.lss 3 (Operand.tmp 35) (Operand.tmp 36) 3, type := 4, pos := "fair.go:56", after := #[{ on := 6, ground := Ground.data }, { on := 7, ground := Ground.data }, { on := 4, ground := Ground.guard }], guard := some (4, false) }, { dst := some 38, op := Op.pick (Operand.tmp 33) (Operand.const (Value.bool true)) (Operand.tmp 37), type := 4, pos := "fair.go:56", after := #[{ on := 4, ground := Ground.data }, { on := 8, ground := Ground.data }], guard := none }, { dst := some 6, op := Op.assign (Operand.tmp 38), type := 4, pos := "fair.go:56", after := #[{ on := 9, ground := Ground.data }, { on := 6, ground := Ground.chain }, { on := 0, ground := Ground.phase }, { on := 1, ground := Ground.phase }, { on := 2, ground := Ground.phase }, { on := 3, ground := Ground.phase }, { on := 4, ground := Ground.phase }, { on := 5, ground := Ground.phase }, { on := 6, ground := Ground.phase }, { on := 7, ground := Ground.phase }, { on := 8, ground := Ground.phase }, { on := 9, ground := Ground.phase }], guard := none }, { dst := some 7, op := Op.assign (Operand.const (Value.int IntKind.i64 0)), type := 24, pos := "fair.go:56", after := #[{ on := 10, ground := Ground.chain }, { on := 0, ground := Ground.phase }, { on := 1, ground := Ground.phase }, { on := 2, ground := Ground.phase }, { on := 3, ground := Ground.phase }, { on := 4, ground := Ground.phase }, { on := 5, ground := Ground.phase }, { on := 6, ground := Ground.phase }, { on := 7, ground := Ground.phase }, { on := 8, ground := Ground.phase }, { on := 9, ground := Ground.phase }, { on := 10, ground := Ground.phase }], guard := none }] false).seq Code.ret))] 3 #[{ dst := some 21, op := Op.move (Operand.tmp 0), type := 30, pos := "fair.go:52", after := #[], guard := none }, { dst := some 22, op := Op.move (Operand.tmp 1), type := 3, pos := "fair.go:52", after := #[], guard := none }, { dst := some 23, op := Op.call { callee := Callee.value (Operand.func 19), args := #[Operand.tmp 21, Operand.tmp 22], argTypes := #[30, 3] }, type := 31, pos := "fair.go:52", after := #[{ on := 0, ground := Ground.data }, { on := 1, ground := Ground.data }], guard := none }, { dst := some 20, op := Op.move (Operand.tmp 23), type := 31, pos := "fair.go:52", after := #[{ on := 2, ground := Ground.data }], guard := none }, { dst := some 24, op := Op.extract (Operand.tmp 20) 0, type := 30, pos := "fair.go:52", after := #[{ on := 3, ground := Ground.data }], guard := none }, { dst := some 25, op := Op.extract (Operand.tmp 20) 1, type := 24, pos := "fair.go:52", after := #[{ on := 3, ground := Ground.data }, { on := 6, ground := Ground.gcOnly Departure.lateStores }], guard := none }, { dst := some 8, op := Op.assign (Operand.tmp 24), type := 30, pos := "fair.go:52", after := #[{ on := 4, ground := Ground.data }, { on := 2, ground := Ground.chain }, { on := 0, ground := Ground.phase }, { on := 1, ground := Ground.phase }, { on := 2, ground := Ground.phase }, { on := 3, ground := Ground.phase }, { on := 4, ground := Ground.phase }, { on := 5, ground := Ground.textOnly Departure.lateStores }], guard := none }, { dst := some 9, op := Op.assign (Operand.tmp 25), type := 24, pos := "fair.go:52", after := #[{ on := 5, ground := Ground.data }, { on := 6, ground := Ground.chain }, { on := 0, ground := Ground.phase }, { on := 1, ground := Ground.phase }, { on := 2, ground := Ground.phase }, { on := 3, ground := Ground.phase }, { on := 4, ground := Ground.phase }, { on := 5, ground := Ground.phase }, { on := 6, ground := Ground.phase }], guard := none }] false [sl none 0, num (↑m : Int), num u, undef, undef, undef, Value.bool false, Value.int IntKind.i64 0, undef, undef, Value.int IntKind.i64 (↑m : Int), Value.bool (decide ((↑m : Int) < 1)), Value.bool false, Value.int IntKind.i64 (↑m : Int), Value.bool (decide ((↑m : Int) > 80)), Value.bool (bif false then true else decide ((↑m : Int) > 80)), Value.bool false, Value.int IntKind.i64 u, Value.bool (decide (u < 1)), Value.bool (bif false then true else decide (u < 1)), undef, undef, undef, undef, undef, undef, undef, undef, undef, undef, undef, undef, undef, undef, undef, undef, undef, undef, undef] [Blk.cells [] 0 false] 2 [sl none 0, num (↑m : Int), num u, undef, undef, undef, Value.bool false, Value.int IntKind.i64 0, undef, undef, Value.int IntKind.i64 (↑m : Int), Value.bool (decide ((↑m : Int) < 1)), Value.bool false, Value.int IntKind.i64 (↑m : Int), Value.bool (decide ((↑m : Int) > 80)), Value.bool (bif false then true else decide ((↑m : Int) > 80)), Value.bool false, Value.int IntKind.i64 u, Value.bool (decide (u < 1)), Value.bool (bif false then true else decide (u < 1)), undef, Value.slice none 0 0, Value.int IntKind.i64 (↑m : Int), undef, undef, undef, undef, undef, undef, undef, undef, undef, undef, undef, undef, undef, undef, undef, undef] [Blk.cells [] 0 false] [{ fp := { rd := [], wr := [] }, lo := 1, hi := 1 }, { fp := { rd := [], wr := [] }, lo := 1, hi := 1 }]).mem.length) (row m (gapsF xs 0 m))) 0 false] (Value.int IntKind.i64 (mxF (gapsF xs 0 m) (m - 1) 1 (gapsF xs 0 m 0))) [Blk.gone] from c_max64 (by omega) (by omega)) (by kernel_rfl) (by kernel_rfl) (by kernel_rfl) ⟨(by first | exact row_plains | exact rowV_plains (fun _ _ => rfl) | rfl), trivial⟩ trivial <|
                R.finIs mixed Try.func28 (Value.tuple ⟨[Value.bool (bif false then true else decide (mxF (gapsF xs 0 m) (m - 1) 1 (gapsF xs 0 m 0) < u)), Value.int IntKind.i64 0]⟩) (by kernel_rfl) (by first | (simp_all; done) | (exfalso; simp_all; done) | (exfalso; simp_all; omega) | (simp_all; omega))
              )
           )
        )
     )
theorem c_fairEN {xs : Nat → Int} {t u : Int} (hu : 1 ≤ u) (ht : 1 ≤ t ∧ t ≤ 80) (he : chkE xs 0 t = 10) : ConM Try.prog 28 [sl none 0, num t, num u] [.cells (([] : List Value)) 0 false] (.tuple ⟨[.bool false, num 10]⟩) (List.replicate 1 .gone) := by
  exact ConM.reads Try.func28 (by kernel_rfl) rfl <|
    R.guard mixed 11 (decide (t < 1)) (by kernel_rfl)
     (fun h0 =>
       R.finIs mixed Try.func28 (Value.tuple ⟨[Value.bool false, Value.int IntKind.i64 2]⟩) (by kernel_rfl) (by first | rfl | (exfalso; simp_all; done) | (exfalso; simp_all; omega))
     )
     (fun h0 =>
       R.guard mixed 4 (bif false then true else decide (t > 80)) (by kernel_rfl)
        (fun h1 =>
          R.finIs mixed Try.func28 (Value.tuple ⟨[Value.bool false, Value.int IntKind.i64 2]⟩) (by kernel_rfl) (by first | rfl | (exfalso; simp_all; done) | (exfalso; simp_all; omega))
        )
        (fun h1 =>
          R.branch mixed 4 (bif false then true else decide (u < 1)) (by kernel_rfl)
           (fun h2 =>
             R.finIs mixed Try.func28 (Value.tuple ⟨[Value.bool false, Value.int IntKind.i64 2]⟩) (by kernel_rfl) (by first | rfl | (exfalso; simp_all; done) | (exfalso; simp_all; omega))
           )
           (fun h2 =>
             R.callP mixed [Ent.view 0] [] [[]] (show ConM Try.prog 19 [Value.slice none 0 0, Value.int IntKind.i64 t] [Blk.cells [] 0 false] (Value.tuple ⟨[Value.slice none 0 0, Value.int IntKind.i64 10]⟩) [Blk.gone] from c_gapsEN he (by decide)) (by kernel_rfl) (by kernel_rfl) (by kernel_rfl) ⟨(by first | exact row_plains | exact rowV_plains (fun _ _ => rfl) | rfl), trivial⟩ trivial <|
             R.finIs mixed Try.func28 (Value.tuple ⟨[Value.bool false, Value.int IntKind.i64 10]⟩) (by kernel_rfl) (by first | rfl | (exfalso; simp_all; done) | (exfalso; simp_all; omega))
           )
        )
     )
theorem c_fairAN {a : Option Addr} {n : Nat} {c : List Value} {t u : Int} (h : t < 1 ∨ t > 80 ∨ u < 1) : ConM Try.prog 28 [sl a n, num t, num u] [.cells c 0 false] (.tuple ⟨[.bool false, num 2]⟩) (List.replicate 1 .gone) := by
  refine ConM.reads Try.func28 (by kernel_rfl) rfl ?_
  rcases Decidable.em (t < 1) with h1 | h1
  · exact R.guardIs mixed 11 (decide (t < 1)) true (by simpa using h1) (by kernel_rfl) <| R.fin mixed Try.func28 (by kernel_rfl)
  · rcases Decidable.em (t > 80) with h2 | h2
    · exact R.guardIs mixed 11 (decide (t < 1)) false (by simpa using h1) (by kernel_rfl) <| R.guardIs mixed 4 (bif false then true else decide (t > 80)) true (by simpa using h2) (by kernel_rfl) <| R.fin mixed Try.func28 (by kernel_rfl)
    · exact R.guardIs mixed 11 (decide (t < 1)) false (by simpa using h1) (by kernel_rfl) <| R.guardIs mixed 4 (bif false then true else decide (t > 80)) false (by simpa using h2) (by kernel_rfl) <| R.cond mixed 4 (bif false then true else decide (u < 1)) true (by simp; omega) (by kernel_rfl) <| R.fin mixed Try.func28 (by kernel_rfl)
theorem fair_lawN {t u e : Int} {xs : Nat → Int} {b i : Bool} (h28 : ConM Try.prog 28 [sl none 0, num t, num u] [.cells (([] : List Value)) 0 false] (.tuple ⟨[.bool b, num e]⟩) (List.replicate 1 .gone)) (h20 : ConM Try.prog 20 [sl none 0, num t] [.cells (([] : List Value)) 0 false] (.bool i) (List.replicate 1 .gone))
    (h29 : ¬ t > 80 → ¬ (t < 1 ∨ u < 1) → i = true → ConM Try.prog 29 [sl none 0, num t, num u] [.cells (([] : List Value)) 0 false] (.bool b) (List.replicate 1 .gone)) (c1 : ¬ t > 80 → t < 1 ∨ u < 1 → b = false ∧ e = 2) (c2 : ¬ t > 80 → ¬ (t < 1 ∨ u < 1) → i = false → b = false ∧ e = 10) (c3 : ¬ t > 80 → ¬ (t < 1 ∨ u < 1) → i = true → e = 0) : RunsE Try.prog 7 1 (entry Try.f7 [sl none 0, num t, num u] [.cells (([] : List Value)) 0 false]) (.bool true) := by
  exact
    R.branch mixed 15 (bif decide (0 > 80) then true else decide (t > 80)) (by kernel_rfl)
     (fun h0 =>
       R.call mixed (show Con Try.prog 18 [] (Value.bool true) from c_awake42) (by kernel_rfl) <|
       R.finIs mixed Try.func7 (Value.bool true) (by kernel_rfl) (by first | rfl | (exfalso; simp_all; done) | (exfalso; simp_all; omega) | (exfalso; simp at *; simp_all; omega))
     )
     (fun h0 =>
       R.callP mixed [Ent.view 0] [] [[]] (show ConM Try.prog 28 [Value.slice none 0 0, Value.int IntKind.i64 t, Value.int IntKind.i64 u] [Blk.cells [] 0 false] (Value.tuple ⟨[Value.bool b, Value.int IntKind.i64 e]⟩) [Blk.gone] from h28) (by kernel_rfl) (by kernel_rfl) (by kernel_rfl) ⟨(by first | exact row_plains | exact rowV_plains (fun _ _ => rfl) | rfl), trivial⟩ trivial <|
       R.guard mixed 12 (decide (t < 1)) (by kernel_rfl)
        (fun h1 =>
          R.guard mixed 10 (!b) (by kernel_rfl)
           (fun h2 =>
             R.guard mixed 4 (bif true then e == 2 else false) (by kernel_rfl)
              (fun h3 =>
                R.call mixed (show Con Try.prog 18 [] (Value.bool true) from c_awake42) (by kernel_rfl) <|
                R.finIs mixed Try.func7 (Value.bool true) (by kernel_rfl) (by first | rfl | (exfalso; simp_all; done) | (exfalso; simp_all; omega) | (exfalso; simp at *; simp_all; omega))
              )
              (fun h3 =>
                R.finIs mixed Try.func7 (Value.bool false) (by kernel_rfl) (by first | rfl | (exfalso; simp_all; done) | (exfalso; simp_all; omega) | (exfalso; simp at *; simp_all; omega))
              )
           )
           (fun h2 =>
             R.finIs mixed Try.func7 (Value.bool false) (by kernel_rfl) (by first | rfl | (exfalso; simp_all; done) | (exfalso; simp_all; omega) | (exfalso; simp at *; simp_all; omega))
           )
        )
        (fun h1 =>
          R.branch mixed 4 (bif false then true else decide (u < 1)) (by kernel_rfl)
           (fun h2 =>
             R.guard mixed 5 (!b) (by kernel_rfl)
              (fun h3 =>
                R.guard mixed 4 (bif true then e == 2 else false) (by kernel_rfl)
                 (fun h4 =>
                   R.call mixed (show Con Try.prog 18 [] (Value.bool true) from c_awake42) (by kernel_rfl) <|
                   R.finIs mixed Try.func7 (Value.bool true) (by kernel_rfl) (by first | rfl | (exfalso; simp_all; done) | (exfalso; simp_all; omega) | (exfalso; simp at *; simp_all; omega))
                 )
                 (fun h4 =>
                   R.finIs mixed Try.func7 (Value.bool false) (by kernel_rfl) (by first | rfl | (exfalso; simp_all; done) | (exfalso; simp_all; omega) | (exfalso; simp at *; simp_all; omega))
                 )
              )
              (fun h3 =>
                R.finIs mixed Try.func7 (Value.bool false) (by kernel_rfl) (by first | rfl | (exfalso; simp_all; done) | (exfalso; simp_all; omega) | (exfalso; simp at *; simp_all; omega))
              )
           )
           (fun h2 =>
             R.callP mixed [Ent.view 0] [] [[]] (show ConM Try.prog 20 [Value.slice none 0 0, Value.int IntKind.i64 t] [Blk.cells [] 0 false] (Value.bool i) [Blk.gone] from h20) (by kernel_rfl) (by kernel_rfl) (by kernel_rfl) ⟨(by first | exact row_plains | exact rowV_plains (fun _ _ => rfl) | rfl), trivial⟩ trivial <|
             R.branch mixed 2 (!i) (by kernel_rfl)
              (fun h3 =>
                R.guard mixed 5 (!b) (by kernel_rfl)
                 (fun h4 =>
                   R.guard mixed 4 (bif true then e == 10 else false) (by kernel_rfl)
                    (fun h5 =>
                      R.call mixed (show Con Try.prog 18 [] (Value.bool true) from c_awake42) (by kernel_rfl) <|
                      R.finIs mixed Try.func7 (Value.bool true) (by kernel_rfl) (by first | rfl | (exfalso; simp_all; done) | (exfalso; simp_all; omega) | (exfalso; simp at *; simp_all; omega))
                    )
                    (fun h5 =>
                      R.finIs mixed Try.func7 (Value.bool false) (by kernel_rfl) (by first | rfl | (exfalso; simp_all; done) | (exfalso; simp_all; omega) | (exfalso; simp at *; simp_all; omega))
                    )
                 )
                 (fun h4 =>
                   R.finIs mixed Try.func7 (Value.bool false) (by kernel_rfl) (by first | rfl | (exfalso; simp_all; done) | (exfalso; simp_all; omega) | (exfalso; simp at *; simp_all; omega))
                 )
              )
              (fun h3 =>
                R.guard mixed 6 (e == 0) (by kernel_rfl)
                 (fun h4 =>
                   R.callP mixed [Ent.view 0] [] [[]] (show ConM Try.prog 29 [Value.slice none 0 0, Value.int IntKind.i64 t, Value.int IntKind.i64 u] [Blk.cells [] 0 false] (Value.bool b) [Blk.gone] from (h29 (by simp_all) (by simp_all) (by simp_all))) (by kernel_rfl) (by kernel_rfl) (by kernel_rfl) ⟨(by first | exact row_plains | exact rowV_plains (fun _ _ => rfl) | rfl), trivial⟩ trivial <|
                   R.guard mixed 3 (bif true then b == b else false) (by kernel_rfl)
                    (fun h5 =>
                      R.call mixed (show Con Try.prog 18 [] (Value.bool true) from c_awake42) (by kernel_rfl) <|
                      R.finIs mixed Try.func7 (Value.bool true) (by kernel_rfl) (by first | rfl | (exfalso; simp_all; done) | (exfalso; simp_all; omega) | (exfalso; simp at *; simp_all; omega))
                    )
                    (fun h5 =>
                      R.finIs mixed Try.func7 (Value.bool false) (by kernel_rfl) (by first | rfl | (exfalso; simp_all; done) | (exfalso; simp_all; omega) | (exfalso; simp at *; simp_all; omega))
                    )
                 )
                 (fun h4 =>
                   R.finIs mixed Try.func7 (Value.bool false) (by kernel_rfl) (by first | rfl | (exfalso; simp_all; done) | (exfalso; simp_all; omega) | (exfalso; simp at *; simp_all; omega))
                 )
              )
           )
        )
     )

theorem windows_ (nil : Bool) (n : Nat) (xs : Nat → Int) (t u : Int) (hnil : nil = true → n = 0) (hn' : n ≤ maxLen) (w1 : -9223372036854775808 ≤ u) (w2 : u ≤ 9223372036854775807) : FnEq Try.prog 7 [sv nil n, num t, num u] [.cells (row n xs) 0 false] (.bool true) (List.replicate 1 .gone) := by
  refine FnEq.runRO Try.func7 rfl rfl ?_
  cases nil with
  | true =>
    have := hnil rfl
    subst this
    rw [row0]
    rcases Decidable.em (t < 1 ∨ t > 80 ∨ u < 1) with h | h
    · exact fair_lawN (xs := xs) (t := t) (u := u) (c_fairAN h) c_isN (fun h1 h2 _ => by omega) (fun _ _ => ⟨rfl, rfl⟩) (fun h1 h2 h3 => by cases h3) (fun h1 h2 _ => by omega)
    · obtain ⟨m, rfl⟩ : ∃ m : Nat, t = m := ⟨t.toNat, by omega⟩
      obtain ⟨u, rfl⟩ : ∃ v : Nat, u = v := ⟨u.toNat, by omega⟩
      have he : chkE xs 0 m = 0 := by unfold chkE; rw [if_neg (by omega)]; rfl
      have hb : (bif decide ((0 : Int) < (u : Int)) then true else decide (mxF (gapsF xs 0 m) (m - 1) 1 (gapsF xs 0 m 0) < u)) = true := by rw [decide_eq_true (by omega)]; rfl
      exact fair_lawN (xs := xs) ((c_fairKN (xs := xs) (by omega) (by omega) he).val (congrArg (fun b => Value.tuple ⟨[.bool b, num 0]⟩) hb)) c_isN (fun _ _ _ => c_rfN (by omega) (by omega)) (fun h1 h2 => by omega) (fun h1 h2 h3 => by cases h3) (fun _ _ _ => rfl)
  | false =>
    rcases Nat.lt_or_ge 80 n with hb | hb
    · exact R.guardIs mixed 11 (decide ((n : Int) > 80)) true (by simp; omega) (by kernel_rfl) <| R.call mixed c_awake42 (by kernel_rfl) <| R.fin mixed Try.func7 (by kernel_rfl)
    · rcases Decidable.em (t < 1 ∨ t > 80 ∨ u < 1) with h | h
      · exact fair_law (t := t) (u := u) (c_fairA h) (c_is (by omega)) (fun h1 h2 _ => by omega) (fun _ _ => ⟨rfl, rfl⟩) (fun h1 h2 h3 => by omega) (fun h1 h2 _ => by omega)
      · obtain ⟨m, rfl⟩ : ∃ m : Nat, t = m := ⟨t.toNat, by omega⟩
        obtain ⟨u, rfl⟩ : ∃ v : Nat, u = v := ⟨u.toNat, by omega⟩
        cases hi : isF xs m n 0 with
        | false =>
          have he : chkE xs n m = 10 := by unfold chkE; rw [if_neg (by omega), hi]; rfl
          exact fair_law (c_fairE (by omega) (by omega) (by omega) he) ((c_is (by omega)).val (congrArg Value.bool hi)) (fun h1 h2 h3 => by cases h3) (fun h1 h2 => by omega) (fun _ _ _ => ⟨rfl, rfl⟩) (fun h1 h2 h3 => by cases h3)
        | true =>
          have he : chkE xs n m = 0 := by unfold chkE; rw [if_neg (by omega), hi]; rfl
          have hx : ∀ k, k < n → 0 ≤ xs k ∧ xs k < m := fun k hk => isF_all n 0 hi k (by omega) (by omega)
          exact fair_law (c_fairK (by omega) (by omega) (by omega) hx he) ((c_is (by omega)).val (congrArg Value.bool hi)) (fun _ _ _ => (c_rf (by omega) (by omega) (by omega)).val (congrArg Value.bool (fair_is (by omega) (by omega) (by omega) hx).symm)) (fun h1 h2 => by omega) (fun h1 h2 h3 => by cases h3) (fun _ _ _ => rfl)

end Go.Proofs.Ytjfodgjgpeiaaaa.Sl
