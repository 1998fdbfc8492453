/- Several texts in one: LNl, LNm, LNn. -/
import Derived.Test.YtnkahfikkpmcbaaDoorQN23
namespace Go.Proofs.YtnkahfikkpmcbaaDoor.Lf

section
open Go Go.Dt Go.Proofs
set_option linter.unusedVariables false
set_option linter.unusedSimpArgs false

theorem getR_at {xs : List U8} {i : Nat} {b : U8} (h : xs[i]? = some b) : getR xs i = b := by
  unfold getR
  rw [List.getD_eq_getElem?_getD, h]; rfl
theorem rev_loop (a0 : List U8) : ∀ (K : Nat) (pre mid post : List U8), mid.length < 2 * K → pre.length + mid.length + post.length ≤ 100000 →
    Fslices_Reverse_1 a0 K (pre ++ mid ++ post) (pre.length : Int) ((pre.length : Int) + mid.length - 1) = some ((), pre ++ mid.reverse ++ post)
  | 0, _, _, _, h, _ => absurd h (Nat.not_lt_zero _)
  | K + 1, pre, [], post, h, hb => by
    rw [Fslices_Reverse_1, decide_eq_false (by simp; omega)]
    rfl
  | K + 1, pre, x :: t, post, h, hb => by
    rcases List.eq_nil_or_concat t with rfl | ⟨m, y, rfl⟩
    · rw [Fslices_Reverse_1, decide_eq_false (by simp)]
      rfl
    · rw [List.concat_eq_append] at h hb ⊢
      have hj : (pre.length : Int) + ((x :: (m ++ [y])).length : Nat) - 1 = ((pre.length + m.length + 1 : Nat) : Int) := by simp; omega
      have hlen : (pre ++ x :: (m ++ [y]) ++ post).length = pre.length + m.length + 2 + post.length := by simp; omega
      have gx : getR (pre ++ x :: (m ++ [y]) ++ post) pre.length = x := getR_at (by simp)
      have gy : getR (pre ++ x :: (m ++ [y]) ++ post) (pre.length + m.length + 1) = y := getR_at (by
        rw [List.append_assoc, List.getElem?_append_right (by omega), show pre.length + m.length + 1 - pre.length = m.length + 1 by omega]
        simp)
      have r1 : inR ((pre.length : Nat) : Int) (pre ++ x :: (m ++ [y]) ++ post).length = true := by
        rw [hlen]; simp only [inR, Bool.and_eq_true, decide_eq_true_eq]; omega
      have r2 : inR ((pre.length + m.length + 1 : Nat) : Int) (pre ++ x :: (m ++ [y]) ++ post).length = true := by
        rw [hlen]; simp only [inR, Bool.and_eq_true, decide_eq_true_eq]; omega
      have e : ((pre ++ x :: (m ++ [y]) ++ post).set pre.length y).set (pre.length + m.length + 1) x = (pre ++ [y]) ++ m ++ (x :: post) := by
        have e1 : (pre ++ x :: (m ++ [y]) ++ post).set pre.length y = (pre ++ y :: m) ++ (y :: post) := by simp [List.set_append]
        rw [e1, List.set_append_right _ _ (by simp; omega)]
        have e2 : pre.length + m.length + 1 - (pre ++ y :: m).length = 0 := by simp; omega
        rw [e2]
        simp
      have hb' : pre.length + m.length + 2 + post.length ≤ 100000 := by simp at hb; omega
      have w1 : IntKind.i64.wrap ((pre.length : Int) + 1) = ((pre ++ [y]).length : Int) := by rw [wrap_i64_of (by omega) (by omega)]; simp
      have w2 : IntKind.i64.wrap (((pre.length + m.length + 1 : Nat) : Int) - 1) = ((pre ++ [y]).length : Int) + m.length - 1 := by rw [wrap_i64_of (by omega) (by omega)]; simp; omega
      have ih := rev_loop a0 K (pre ++ [y]) m (x :: post) (by simp at h; omega) (by simp; omega)
      rw [Fslices_Reverse_1, hj, decide_eq_true (by omega)]
      simp only [cond_true, r1, r2, Int.toNat_natCast, gx, gy, w1, w2]
      show Fslices_Reverse_1 a0 K (((pre ++ x :: (m ++ [y]) ++ post).set pre.length y).set (pre.length + m.length + 1) x) _ _ = _
      rw [e, ih]
      simp
theorem Fslices_Reverse_eq {K : Nat} {xs : List U8} (h : xs.length < 2 * K) (hb : xs.length ≤ 100000) : Fslices_Reverse K xs = some ((), xs.reverse) := by
  have := rev_loop xs K [] xs [] h (by simpa using hb)
  unfold Fslices_Reverse
  rw [wrap_i64_of (by omega) (by omega)]
  simpa using this
theorem power_loop {m : Nat} (hm : m ≤ 62) : ∀ (d i K : Nat), i + d = m → d < K → FR01_Power_3 (m : Int) K ((2 ^ i : Nat) : Int) (i : Int) = some ((2 ^ m : Nat) : Int)
  | 0, i, K + 1, h, hK => by
    rw [FR01_Power_3, decide_eq_false (by omega)]
    have : i = m := by omega
    subst this
    rfl
  | d + 1, i, K + 1, h, hK => by
    have hp : 2 ^ (i + 1) ≤ 2 ^ 62 := Nat.pow_le_pow_right (by decide) (by omega)
    have hp2 : (2 : Nat) ^ 62 = 4611686018427387904 := by decide
    have hs : 2 ^ (i + 1) = 2 * 2 ^ i := by rw [Nat.pow_succ, Nat.mul_comm]
    have w1 : IntKind.i64.wrap (2 * ((2 ^ i : Nat) : Int)) = ((2 ^ (i + 1) : Nat) : Int) := by rw [wrap_i64_of (by omega) (by omega)]; omega
    have w2 : IntKind.i64.wrap ((i : Int) + 1) = ((i + 1 : Nat) : Int) := by rw [wrap_i64_of (by omega) (by omega)]; omega
    rw [FR01_Power_3, decide_eq_true (by omega), w1, w2]
    exact power_loop hm d (i + 1) K (by omega) (by omega)
  | _, _, 0, _, hK => absurd hK (Nat.not_lt_zero _)
theorem FR01_Power_eq {m K : Nat} (hm : m ≤ 62) (hK : m < K) : FR01_Power K (m : Int) = some ((2 ^ m : Nat) : Int) := power_loop hm m 0 K (by omega) hK

end

section
open Go Go.Dt Go.Proofs
set_option linter.unusedVariables false
set_option linter.unusedSimpArgs false

theorem code_all : (List.range 16).all (fun d => byteAt digs (d : Nat) == (codeV d).n) = true := by kernel_rfl
theorem code_eq {d : Nat} (h : d < 16) : byteAt digs (d : Int) = (codeV d).n := eq_of_beq (List.all_eq_true.1 code_all d (List.mem_range.2 h))
theorem lay_succ (a0 : Int) (K : Nat) (n : Int) (acc : List U8) : Fnum_lay_3 a0 16 (K + 1) n acc = (bif decide (n > 0) then bif (16 : Int) != 0 then bif inR (n.tmod 16) digs.size then bif room (acc.length + ([⟨byteAt digs (n.tmod 16)⟩] : List U8).length) 1 then bif (16 : Int) != 0 then Fnum_lay_3 a0 16 K (IntKind.u64.wrap (n.tdiv 16)) (acc ++ [⟨byteAt digs (n.tmod 16)⟩]) else none else none else none else none else (Fslices_Reverse K acc).bind fun u => some (strU u.2)) := rfl
/-- Digits, the last one first. -/
def revD : Nat → Nat → List Nat
  | 0, _ => []
  | f + 1, n => if 0 < n then n % 16 :: revD f (n / 16) else []
def revP : Nat → Nat → List Nat
  | 0, _ => []
  | k + 1, n => n % 16 :: revP k (n / 16)
theorem revD_len : ∀ f n, (revD f n).length ≤ f
  | 0, _ => Nat.le_refl _
  | f + 1, n => by
    have := revD_len f (n / 16)
    rw [revD]
    split
    · rw [List.length_cons]; omega
    · rw [List.length_nil]; omega
theorem revP_hex : ∀ k n, (hexD k n).reverse = revP k n
  | 0, _ => rfl
  | k + 1, n => by rw [hexD, revP, List.reverse_append, revP_hex k]; rfl
theorem revP_zero : ∀ k, revP k 0 = List.replicate k 0
  | 0 => rfl
  | k + 1 => by rw [revP, List.replicate_succ, show 0 / 16 = 0 from rfl, revP_zero k]
theorem revP_D : ∀ k n, n < 16 ^ k → revP k n = revD k n ++ List.replicate (k - (revD k n).length) 0
  | 0, _, _ => rfl
  | k + 1, n, h => by
    rw [Nat.pow_succ] at h
    rcases Nat.eq_zero_or_pos n with rfl | hp
    · rw [revP_zero, revD, if_neg (Nat.lt_irrefl 0)]; rfl
    · rw [revP, revD, if_pos hp, revP_D k (n / 16) (by omega), List.cons_append, List.length_cons, Nat.add_sub_add_right]
theorem lay_loop (a0 : Int) : ∀ (f n K : Nat) (acc : List U8), n < 16 ^ f → n < 18446744073709551616 → f ≤ 20 → acc.length + f ≤ 40 → f + 100 ≤ K → Fnum_lay_3 a0 16 K (n : Int) acc = some (strU (acc ++ (revD f n).map codeV).reverse)
  | f, n, 0, _, _, _, _, _, hK => by omega
  | 0, n, K + 1, acc, h, hb, hf, ha, hK => by
    have : n = 0 := by omega
    subst this
    rw [lay_succ, decide_eq_false (by decide), Fslices_Reverse_eq (by omega) (by omega)]
    simp [revD]
  | f + 1, n, K + 1, acc, h, hb, hf, ha, hK => by
    rw [Nat.pow_succ] at h
    have hp : 16 ^ (f + 1) ≤ 16 ^ 20 := Nat.pow_le_pow_right (by decide) hf
    have hp2 : (16 : Nat) ^ 20 = 1208925819614629174706176 := by decide
    rw [lay_succ, revD]
    rcases Nat.eq_zero_or_pos n with rfl | hn
    · rw [decide_eq_false (by decide), Fslices_Reverse_eq (by omega) (by omega), if_neg (Nat.lt_irrefl 0)]
      simp
    · have e1 : ((n : Int).tmod 16) = ((n % 16 : Nat) : Int) := by rw [Int.tmod_eq_emod_of_nonneg (by omega)]; omega
      have hm : n % 16 < 16 := Nat.mod_lt _ (by decide)
      have e2 : inR ((n % 16 : Nat) : Int) digs.size = true := by
        simp only [inR, Bool.and_eq_true, decide_eq_true_eq]
        refine ⟨by omega, ?_⟩
        show ((n % 16 : Nat) : Int) < ((16 : Nat) : Int)
        omega
      have e3 : ∀ b : U8, room (acc.length + ([b] : List U8).length) 1 = true := fun b => by
        simp only [room, Bool.and_eq_true, decide_eq_true_eq, List.length_singleton]; omega
      have e5 : ((16 : Int) != 0) = true := rfl
      have e6 : (⟨(codeV (n % 16)).n⟩ : U8) = codeV (n % 16) := rfl
      rw [decide_eq_true (by omega), if_pos hn, e1, code_eq hm, e2, e3, e5, e6]
      simp only [cond_true]
      have e4 : IntKind.u64.wrap ((n : Int).tdiv 16) = ((n / 16 : Nat) : Int) := by
        rw [Int.tdiv_eq_ediv_of_nonneg (by omega)]
        show ((n : Int) / 16) % 18446744073709551616 = _
        omega
      rw [e4, lay_loop a0 f (n / 16) K _ (by omega) (by omega) (by omega) (by simp; omega) (by omega)]
      simp

end

section
open Go Go.Dt Go.Proofs
set_option linter.unusedVariables false
set_option linter.unusedSimpArgs false

theorem lay_eq {k n K : Nat} (h : n < 16 ^ (k + 1)) (hb : n < 18446744073709551616) (hk : k ≤ 15) (hK : 200 ≤ K) :
    Fnum_lay K (n : Int) 16 = some (strU (((n % 16 :: revD k (n / 16)).map codeV).reverse)) := by
  rw [Nat.pow_succ] at h
  have hm : n % 16 < 16 := Nat.mod_lt _ (by decide)
  have e1 : ((n : Int).tmod 16) = ((n % 16 : Nat) : Int) := by rw [Int.tmod_eq_emod_of_nonneg (by omega)]; omega
  have e2 : inR ((n % 16 : Nat) : Int) digs.size = true := by
    simp only [inR, Bool.and_eq_true, decide_eq_true_eq]
    refine ⟨by omega, ?_⟩
    show ((n % 16 : Nat) : Int) < ((16 : Nat) : Int)
    omega
  have e4 : IntKind.u64.wrap ((n : Int).tdiv 16) = ((n / 16 : Nat) : Int) := by
    rw [Int.tdiv_eq_ediv_of_nonneg (by omega)]
    show ((n : Int) / 16) % 18446744073709551616 = _
    omega
  have e6 : (⟨(codeV (n % 16)).n⟩ : U8) = codeV (n % 16) := rfl
  have e : Fnum_lay K (n : Int) 16 = (bif (16 : Int) != 0 then bif inR ((n : Int).tmod 16) digs.size then bif (16 : Int) != 0 then Fnum_lay_3 (n : Int) 16 K (IntKind.u64.wrap ((n : Int).tdiv 16)) [⟨byteAt digs ((n : Int).tmod 16)⟩] else none else none else none) := rfl
  have e5 : ((16 : Int) != 0) = true := rfl
  rw [e, e1, code_eq hm, e2, e4, e5, e6]
  simp only [cond_true]
  rw [lay_loop _ k (n / 16) K _ (by omega) (by omega) (by omega) (by simp; omega) (by omega)]
  simp
theorem zeros_eq (m : Nat) : zeros m = strU (List.replicate m (codeV 0)) := by
  apply ByteArray.ext
  rw [strU_data]
  unfold zeros
  rw [List.map_replicate]
  rfl
theorem shr_pos {n : Int} {m : Nat} (h0 : 0 ≤ n) (hm : m ≤ 60) : decide (n.fdiv (2 ^ min (IntKind.i64.wrap (m : Int)).toNat 64) > 0) = decide (((2 ^ m : Nat) : Int) ≤ n) := by
  rw [wrap_i64_of (by omega) (by omega), Int.toNat_natCast, Nat.min_eq_left (by omega)]
  have hp : (0 : Int) < ((2 ^ m : Nat) : Int) := by
    have := Nat.two_pow_pos m
    omega
  have e : ((2 : Int) ^ m) = ((2 ^ m : Nat) : Int) := by simp
  rw [e, Int.fdiv_eq_ediv_of_nonneg _ (by omega)]
  generalize ((2 ^ m : Nat) : Int) = p at *
  have q := Int.le_ediv_iff_mul_le (a := 1) (b := n) hp
  congr 1
  apply propext
  constructor
  · intro h
    have := q.1 (by omega)
    omega
  · intro h
    have := q.2 (by omega)
    omega
theorem Hex_many {K : Nat} {n many : Int} (h : many < 1 ∨ 15 < many) : Fnum_Hex K n many = some (⟨#[]⟩, 2) := by
  unfold Fnum_Hex
  rcases Decidable.em (many < 1) with g | g
  · rw [decide_eq_true g]; rfl
  · rw [decide_eq_false g, decide_eq_true (show many > 15 by omega)]; rfl
theorem Hex_neg {K : Nat} {n many : Int} (h1 : 1 ≤ many) (h2 : many ≤ 15) (h : n < 0) : Fnum_Hex K n many = some (⟨#[]⟩, 3) := by
  unfold Fnum_Hex
  rw [decide_eq_false (show ¬ many < 1 by omega), decide_eq_false (show ¬ many > 15 by omega), decide_eq_true h]; rfl
theorem Hex_big {K : Nat} {n : Int} {k : Nat} (h1 : 1 ≤ k) (h2 : k ≤ 15) (h : ((2 ^ (4 * k) : Nat) : Int) ≤ n) : Fnum_Hex K n (k : Int) = some (⟨#[]⟩, 3) := by
  have hn : 0 ≤ n := Int.le_trans (Int.natCast_nonneg _) h
  have e : 4 * (k : Int) = ((4 * k : Nat) : Int) := by omega
  unfold Fnum_Hex
  rw [e, shr_pos hn (by omega), decide_eq_true h, wrap_i64_of (by omega) (by omega), decide_eq_false (show ¬ (k : Int) < 1 by omega), decide_eq_false (show ¬ (k : Int) > 15 by omega), decide_eq_false (show ¬ n < 0 by omega), decide_eq_true (show (0 : Int) ≤ ((4 * k : Nat) : Int) by omega)]
  rfl
theorem hex_all (k n : Nat) (h : n < 16 ^ (k + 1)) : hexL (k + 1) n = List.replicate (k - (revD k (n / 16)).length) (codeV 0) ++ ((n % 16 :: revD k (n / 16)).map codeV).reverse := by
  rw [Nat.pow_succ] at h
  have e := revP_hex (k + 1) n
  have e2 : hexD (k + 1) n = (revP (k + 1) n).reverse := by rw [← e, List.reverse_reverse]
  rw [hexL_map, e2, revP, revP_D k (n / 16) (by omega)]
  simp
theorem Hex_ok {K n k : Nat} (hk : k ≤ 14) (h : n < 16 ^ (k + 1)) (hK : 200 ≤ K) : Fnum_Hex K (n : Int) ((k + 1 : Nat) : Int) = some (strU (hexL (k + 1) n), 0) := by
  have hp : 16 ^ (k + 1) ≤ 16 ^ 15 := Nat.pow_le_pow_right (by decide) (by omega)
  have hp2 : (16 : Nat) ^ 15 = 1152921504606846976 := by decide
  have e : 4 * ((k + 1 : Nat) : Int) = ((4 * (k + 1) : Nat) : Int) := by omega
  have e3 : ¬ ((2 ^ (4 * (k + 1)) : Nat) : Int) ≤ (n : Int) := by
    rw [Nat.pow_mul]
    have : (2 : Nat) ^ 4 = 16 := rfl
    rw [this]
    omega
  have e4 : IntKind.u64.wrap (n : Int) = (n : Int) := wrap_u64_of (by omega) (by omega)
  have hl := revD_len k (n / 16)
  have er : Frep K (ByteArray.mk #[48]) (IntKind.i64.wrap (((k + 1 : Nat) : Int) - (((strU (((n % 16 :: revD k (n / 16)).map codeV).reverse)).size : Nat) : Int))) = some (strU (List.replicate (k - (revD k (n / 16)).length) (codeV 0))) := by
    have es : IntKind.i64.wrap (((k + 1 : Nat) : Int) - (((strU (((n % 16 :: revD k (n / 16)).map codeV).reverse)).size : Nat) : Int)) = ((k - (revD k (n / 16)).length : Nat) : Int) := by
      rw [strU_size]
      simp only [List.length_reverse, List.length_map, List.length_cons]
      rw [wrap_i64_of (by omega) (by omega)]
      omega
    rw [es]
    unfold Frep
    rw [decide_eq_true rfl, decide_eq_true (by omega), decide_eq_true (by omega), Int.toNat_natCast, zeros_eq]
    rfl
  unfold Fnum_Hex
  rw [e, shr_pos (by omega) (by omega), decide_eq_false e3, wrap_i64_of (by omega) (by omega), decide_eq_false (show ¬ ((k + 1 : Nat) : Int) < 1 by omega), decide_eq_false (show ¬ ((k + 1 : Nat) : Int) > 15 by omega), decide_eq_false (show ¬ (n : Int) < 0 by omega), decide_eq_true (show (0 : Int) ≤ ((4 * (k + 1) : Nat) : Int) by omega), e4, lay_eq h (by omega) (by omega) hK]
  simp only [cond_true, cond_false, Option.bind_some]
  rw [er, hex_all k n h, strU_append]
  simp only [Option.bind_some]
  rw [cat_ok (by
    rw [strU_size, strU_size]
    simp only [List.length_reverse, List.length_map, List.length_cons, List.length_replicate]
    omega)]
  rfl
theorem unhex_tot (s : ByteArray) (hs : s.size ≤ 100) : ∀ (K : Nat) (i : Nat) (p : Int), s.size < i + K → i ≤ s.size → ∃ r, FR03_Unhex_5 s K p (i : Int) = some r
  | 0, i, p, h, h2 => by omega
  | K + 1, i, p, h, h2 => by
    rw [FR03_Unhex_5]
    rcases Decidable.em (i < s.size) with g | g
    · have r : inR (i : Int) s.size = true := by simp only [inR, Bool.and_eq_true, decide_eq_true_eq]; omega
      have w : IntKind.i64.wrap ((i : Int) + 1) = ((i + 1 : Nat) : Int) := by rw [wrap_i64_of (by omega) (by omega)]; omega
      have ih := fun p => unhex_tot s hs K (i + 1) p (by omega) (by omega)
      rw [decide_eq_true (by omega), r, w]
      simp only [cond_true]
      cases decide (IntKind.i64.wrap (byteAt s i) ≥ 48) <;> cases decide (IntKind.i64.wrap (byteAt s i) ≤ 57) <;> cases decide (IntKind.i64.wrap (byteAt s i) ≥ 97) <;> cases decide (IntKind.i64.wrap (byteAt s i) ≤ 102) <;> simp only [cond_true, cond_false] <;> first | exact ih _ | exact ⟨_, rfl⟩
    · rw [decide_eq_false (by omega)]
      exact ⟨_, rfl⟩
theorem FR03_Unhex_tot {s : ByteArray} {K : Nat} (hK : 200 ≤ K) : ∃ r, FR03_Unhex K s = some r := by
  unfold FR03_Unhex
  rcases Decidable.em ((s.size : Int) < 1) with g | g
  · rw [decide_eq_true g]; exact ⟨_, rfl⟩
  · rw [decide_eq_false g]
    rcases Decidable.em ((s.size : Int) > 15) with g2 | g2
    · rw [decide_eq_true g2]; exact ⟨_, rfl⟩
    · rw [decide_eq_false g2]
      exact unhex_tot s (by omega) K 0 0 (by omega) (by omega)

end

end Go.Proofs.YtnkahfikkpmcbaaDoor.Lf
