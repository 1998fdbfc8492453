/- Several texts in one: EVi, EVj, EVk. -/
import Derived.Test.YtdmcdijlpnbghaaGreatDoorQI24
import Derived.Lib.ParseIntBCases
import Derived.Lib.ParseIntBTie
import Derived.Lib.Walk
import Derived.WalkKit
import Derived.BigCall
import Derived.BigGuard
import Derived.Test.YtdmcdijlpnbghaaGreatDoorQI23
namespace Go.Proofs.YtdmcdijlpnbghaaGreatDoor.Lf

section
open Go Go.Dt Go.Proofs
set_option linter.unusedVariables false
set_option linter.unusedSimpArgs false

def digs : ByteArray := ⟨#[48, 49, 50, 51, 52, 53, 54, 55, 56, 57, 97, 98, 99, 100, 101, 102]⟩
theorem strN_data : ∀ (l : List Int) (s : ByteArray), (strN l s).data = s.data ++ (l.map fun n => UInt8.ofNat n.toNat).toArray
  | [], s => by simp [strN]
  | n :: l, s => by
    rw [strN, strN_data l]
    apply Array.ext'
    simp [ByteArray.push]
theorem strU_data (xs : List U8) : (strU xs).data = (xs.map fun b => UInt8.ofNat b.n.toNat).toArray := by
  unfold strU
  rw [strN_data, List.map_map]
  apply Array.ext'
  simp [Function.comp_def]
theorem strU_append (xs ys : List U8) : strU (xs ++ ys) = strU xs ++ strU ys := by
  apply ByteArray.ext
  rw [ByteArray.data_append, strU_data, strU_data, strU_data]
  apply Array.ext'
  simp
theorem strU_size (xs : List U8) : (strU xs).size = xs.length := by
  show (strU xs).data.size = _
  rw [strU_data]
  simp
theorem cat_ok {a b : ByteArray} (h : a.size + b.size ≤ 1000000) : catOk a b = true := Nat.ble_eq_true_of_le (by omega)

/-- The code of a digit. -/
def codeV (d : Nat) : U8 := ⟨if d > 9 then 87 + d else 48 + d⟩
theorem code_b {d : Nat} (h : d < 16) : 0 ≤ (codeV d).n ∧ (codeV d).n ≤ 255 := by
  unfold codeV
  simp only
  split <;> omega
theorem byte_strU {xs : List U8} {i : Nat} {b : U8} (hi : xs[i]? = some b) (h : 0 ≤ b.n ∧ b.n ≤ 255) : byteAt (strU xs) (i : Int) = b.n := by
  have e : (strU xs)[i]? = some (UInt8.ofNat b.n.toNat) := by
    have hlt : i < xs.length := (List.getElem?_eq_some_iff.1 hi).1
    have hs : i < (strU xs).size := by rw [strU_size]; exact hlt
    rw [getElem?_pos (strU xs) i hs]
    have : (strU xs)[i] = (strU xs).data[i]'hs := rfl
    rw [this]
    congr 1
    have hd := strU_data xs
    have q : (strU xs).data[i]? = some (UInt8.ofNat b.n.toNat) := by
      rw [hd]
      simp [hi]
    have hs2 : i < (strU xs).data.size := hs
    rw [Array.getElem?_eq_getElem hs2] at q
    exact Option.some.inj q
  unfold byteAt
  rw [Int.toNat_natCast, e, Option.getD_some]
  have : (UInt8.ofNat b.n.toNat).toNat = b.n.toNat % 256 := by simp
  rw [this]
  omega
theorem getR_at {xs : List U8} {i : Nat} {b : U8} (h : xs[i]? = some b) : getR xs i = b := by
  unfold getR
  rw [List.getD_eq_getElem?_getD, h]; rfl
theorem rev_loop (a0 : List U8) : ∀ (K : Nat) (pre mid post : List U8), mid.length < 2 * K → pre.length + mid.length + post.length ≤ 100000 →
    Fslices_Reverse_1 a0 K (pre ++ mid ++ post) (pre.length : Int) ((pre.length : Int) + mid.length - 1) = some ((), pre ++ mid.reverse ++ post)
  | 0, _, _, _, h, _ => absurd h (Nat.not_lt_zero _)
  | K + 1, pre, [], post, h, hb => by
    rw [Fslices_Reverse_1, decide_eq_false (by simp; omega)]
    rfl
  | K + 1, pre, x :: t, post, h, hb => by
    rcases List.eq_nil_or_concat t with rfl | ⟨m, y, rfl⟩
    · rw [Fslices_Reverse_1, decide_eq_false (by simp)]
      rfl
    · rw [List.concat_eq_append] at h hb ⊢
      have hj : (pre.length : Int) + ((x :: (m ++ [y])).length : Nat) - 1 = ((pre.length + m.length + 1 : Nat) : Int) := by simp; omega
      have hlen : (pre ++ x :: (m ++ [y]) ++ post).length = pre.length + m.length + 2 + post.length := by simp; omega
      have gx : getR (pre ++ x :: (m ++ [y]) ++ post) pre.length = x := getR_at (by simp)
      have gy : getR (pre ++ x :: (m ++ [y]) ++ post) (pre.length + m.length + 1) = y := getR_at (by
        rw [List.append_assoc, List.getElem?_append_right (by omega), show pre.length + m.length + 1 - pre.length = m.length + 1 by omega]
        simp)
      have r1 : inR ((pre.length : Nat) : Int) (pre ++ x :: (m ++ [y]) ++ post).length = true := by
        rw [hlen]; simp only [inR, Bool.and_eq_true, decide_eq_true_eq]; omega
      have r2 : inR ((pre.length + m.length + 1 : Nat) : Int) (pre ++ x :: (m ++ [y]) ++ post).length = true := by
        rw [hlen]; simp only [inR, Bool.and_eq_true, decide_eq_true_eq]; omega
      have e : ((pre ++ x :: (m ++ [y]) ++ post).set pre.length y).set (pre.length + m.length + 1) x = (pre ++ [y]) ++ m ++ (x :: post) := by
        have e1 : (pre ++ x :: (m ++ [y]) ++ post).set pre.length y = (pre ++ y :: m) ++ (y :: post) := by simp [List.set_append]
        rw [e1, List.set_append_right _ _ (by simp; omega)]
        have e2 : pre.length + m.length + 1 - (pre ++ y :: m).length = 0 := by simp; omega
        rw [e2]
        simp
      have hb' : pre.length + m.length + 2 + post.length ≤ 100000 := by simp at hb; omega
      have w1 : IntKind.i64.wrap ((pre.length : Int) + 1) = ((pre ++ [y]).length : Int) := by rw [wrap_i64_of (by omega) (by omega)]; simp
      have w2 : IntKind.i64.wrap (((pre.length + m.length + 1 : Nat) : Int) - 1) = ((pre ++ [y]).length : Int) + m.length - 1 := by rw [wrap_i64_of (by omega) (by omega)]; simp; omega
      have ih := rev_loop a0 K (pre ++ [y]) m (x :: post) (by simp at h; omega) (by simp; omega)
      rw [Fslices_Reverse_1, hj, decide_eq_true (by omega)]
      simp only [cond_true, r1, r2, Int.toNat_natCast, gx, gy, w1, w2]
      show Fslices_Reverse_1 a0 K (((pre ++ x :: (m ++ [y]) ++ post).set pre.length y).set (pre.length + m.length + 1) x) _ _ = _
      rw [e, ih]
      simp
theorem Fslices_Reverse_eq {K : Nat} {xs : List U8} (h : xs.length < 2 * K) (hb : xs.length ≤ 100000) : Fslices_Reverse K xs = some ((), xs.reverse) := by
  have := rev_loop xs K [] xs [] h (by simpa using hb)
  unfold Fslices_Reverse
  rw [wrap_i64_of (by omega) (by omega)]
  simpa using this

theorem code_all : (List.range 16).all (fun d => byteAt digs (d : Nat) == (codeV d).n) = true := by kernel_rfl
theorem code_eq {d : Nat} (h : d < 16) : byteAt digs (d : Int) = (codeV d).n := eq_of_beq (List.all_eq_true.1 code_all d (List.mem_range.2 h))
/-- Digits of a base of 10, the last one first; none of 0. -/
def decR : Nat → Nat → List Nat
  | 0, _ => []
  | f + 1, n => if 0 < n then n % 10 :: decR f (n / 10) else []
/-- At least one digit. -/
def decF (f n : Nat) : List Nat := (n % 10 :: decR f (n / 10)).reverse
theorem decR_len : ∀ f n, (decR f n).length ≤ f
  | 0, _ => Nat.le_refl _
  | f + 1, n => by
    have := decR_len f (n / 10)
    rw [decR]
    split
    · rw [List.length_cons]; omega
    · rw [List.length_nil]; omega
theorem decF_len (f n : Nat) : (decF f n).length ≤ f + 1 ∧ 1 ≤ (decF f n).length := by
  have := decR_len f (n / 10)
  unfold decF
  rw [List.length_reverse, List.length_cons]
  omega
theorem decF_small {f n : Nat} (h : n < 10) : decF f n = [n] := by
  have e : n / 10 = 0 := by omega
  have e2 : n % 10 = n := by omega
  unfold decF
  rw [e, e2]
  cases f <;> rfl
theorem decF_great {f n : Nat} (h : 10 ≤ n) : decF (f + 1) n = decF f (n / 10) ++ [n % 10] := by
  unfold decF
  rw [decR, if_pos (by omega), List.reverse_cons]
theorem decF_lt : ∀ f n d, d ∈ decF f n → d < 10
  | 0, n, d, h => by
    unfold decF at h
    simp [decR] at h
    omega
  | f + 1, n, d, h => by
    rcases Nat.lt_or_ge n 10 with g | g
    · rw [decF_small g] at h
      simp at h; omega
    · rw [decF_great g, List.mem_append, List.mem_singleton] at h
      rcases h with h | h
      · exact decF_lt f _ d h
      · omega
theorem decF_val : ∀ f n, n < 10 ^ (f + 1) → (decF f n).foldl (fun a d => a * 10 + d) 0 = n
  | 0, n, h => by
    rw [decF_small (by simpa using h)]
    simp
  | f + 1, n, h => by
    rcases Nat.lt_or_ge n 10 with g | g
    · rw [decF_small g]
      simp
    · rw [Nat.pow_succ] at h
      rw [decF_great g, List.foldl_append, decF_val f (n / 10) (by omega)]
      show n / 10 * 10 + n % 10 = n
      omega

def strD (n : Nat) : ByteArray := strU ((decF 19 n).map codeV)
def minusS : ByteArray := ByteArray.mk #[OfNat.ofNat 45]
/-- A number's text. -/
def sD (v : Int) : ByteArray := if v < 0 then minusS ++ strD v.natAbs else strD v.natAbs
theorem strD_size (n : Nat) : (strD n).size ≤ 20 ∧ 1 ≤ (strD n).size := by
  have := decF_len 19 n
  unfold strD
  rw [strU_size, List.length_map]
  omega
theorem minus_size (b : ByteArray) : (minusS ++ b).size = b.size + 1 := by
  rw [ByteArray.size_append, show minusS.size = 1 from rfl]; omega

/-! ### The program's -/
theorem lay10_succ (a0 : Int) (K : Nat) (n : Int) (acc : List U8) : Fnum_lay_3 a0 10 (K + 1) n acc = (bif decide (n > 0) then bif (10 : Int) != 0 then bif inR (n.tmod 10) digs.size then bif room (acc.length + ([⟨byteAt digs (n.tmod 10)⟩] : List U8).length) 1 then bif (10 : Int) != 0 then Fnum_lay_3 a0 10 K (IntKind.u64.wrap (n.tdiv 10)) (acc ++ [⟨byteAt digs (n.tmod 10)⟩]) else none else none else none else none else (Fslices_Reverse K acc).bind fun u => some (strU u.2)) := rfl
theorem lay10_loop (a0 : Int) : ∀ (f n K : Nat) (acc : List U8), n < 10 ^ f → n < 18446744073709551616 → f ≤ 20 → acc.length + f ≤ 40 → f + 100 ≤ K → Fnum_lay_3 a0 10 K (n : Int) acc = some (strU (acc ++ (decR f n).map codeV).reverse)
  | f, n, 0, _, _, _, _, _, hK => by omega
  | 0, n, K + 1, acc, h, hb, hf, ha, hK => by
    have : n = 0 := by omega
    subst this
    rw [lay10_succ, decide_eq_false (by decide), Fslices_Reverse_eq (by omega) (by omega)]
    simp [decR]
  | f + 1, n, K + 1, acc, h, hb, hf, ha, hK => by
    rw [Nat.pow_succ] at h
    rw [lay10_succ, decR]
    rcases Nat.eq_zero_or_pos n with rfl | hn
    · rw [decide_eq_false (by decide), Fslices_Reverse_eq (by omega) (by omega), if_neg (Nat.lt_irrefl 0)]
      simp
    · have e1 : ((n : Int).tmod 10) = ((n % 10 : Nat) : Int) := by rw [Int.tmod_eq_emod_of_nonneg (by omega)]; omega
      have hm : n % 10 < 16 := by omega
      have e2 : inR ((n % 10 : Nat) : Int) digs.size = true := by
        simp only [inR, Bool.and_eq_true, decide_eq_true_eq]
        refine ⟨by omega, ?_⟩
        show ((n % 10 : Nat) : Int) < ((16 : Nat) : Int)
        omega
      have e3 : ∀ b : U8, room (acc.length + ([b] : List U8).length) 1 = true := fun b => by
        simp only [room, Bool.and_eq_true, decide_eq_true_eq, List.length_singleton]; omega
      have e5 : ((10 : Int) != 0) = true := rfl
      have e6 : (⟨(codeV (n % 10)).n⟩ : U8) = codeV (n % 10) := rfl
      rw [decide_eq_true (by omega), if_pos hn, e1, code_eq hm, e2, e3, e5, e6]
      simp only [cond_true]
      have e4 : IntKind.u64.wrap ((n : Int).tdiv 10) = ((n / 10 : Nat) : Int) := by
        rw [Int.tdiv_eq_ediv_of_nonneg (by omega)]
        show ((n : Int) / 10) % 18446744073709551616 = _
        omega
      rw [e4, lay10_loop a0 f (n / 10) K _ (by omega) (by omega) (by omega) (by simp; omega) (by omega)]
      simp
theorem lay10_eq {n K : Nat} (hb : n < 18446744073709551616) (hK : 200 ≤ K) : Fnum_lay K (n : Int) 10 = some (strD n) := by
  have hm : n % 10 < 16 := by omega
  have e1 : ((n : Int).tmod 10) = ((n % 10 : Nat) : Int) := by rw [Int.tmod_eq_emod_of_nonneg (by omega)]; omega
  have e2 : inR ((n % 10 : Nat) : Int) digs.size = true := by
    simp only [inR, Bool.and_eq_true, decide_eq_true_eq]
    refine ⟨by omega, ?_⟩
    show ((n % 10 : Nat) : Int) < ((16 : Nat) : Int)
    omega
  have e4 : IntKind.u64.wrap ((n : Int).tdiv 10) = ((n / 10 : Nat) : Int) := by
    rw [Int.tdiv_eq_ediv_of_nonneg (by omega)]
    show ((n : Int) / 10) % 18446744073709551616 = _
    omega
  have e6 : (⟨(codeV (n % 10)).n⟩ : U8) = codeV (n % 10) := rfl
  have e : Fnum_lay K (n : Int) 10 = (bif (10 : Int) != 0 then bif inR ((n : Int).tmod 10) digs.size then bif (10 : Int) != 0 then Fnum_lay_3 (n : Int) 10 K (IntKind.u64.wrap ((n : Int).tdiv 10)) [⟨byteAt digs ((n : Int).tmod 10)⟩] else none else none else none) := rfl
  have e5 : ((10 : Int) != 0) = true := rfl
  have p19 : (10 : Nat) ^ 19 = 10000000000000000000 := by decide
  rw [e, e1, code_eq hm, e2, e4, e5, e6]
  simp only [cond_true]
  rw [lay10_loop _ 19 (n / 10) K _ (by omega) (by omega) (by omega) (by simp) (by omega)]
  unfold strD decF
  simp
theorem Dec_eq {K : Nat} {v : Int} (h1 : -9223372036854775808 ≤ v) (h2 : v ≤ 9223372036854775807) (hK : 200 ≤ K) : Fnum_Dec K v = some (sD v) := by
  unfold Fnum_Dec sD
  rcases Decidable.em (v < 0) with g | g
  · have e : IntKind.u64.wrap (0 - IntKind.u64.wrap v) = (v.natAbs : Int) := by
      show (0 - v % 18446744073709551616) % 18446744073709551616 = _
      omega
    have hs := strD_size v.natAbs
    rw [decide_eq_true g, e, lay10_eq (by omega) hK, if_pos g]
    simp only [cond_true, Option.bind_some]
    rw [cat_ok (show (ByteArray.mk #[OfNat.ofNat 45]).size + (strD v.natAbs).size ≤ 1000000 by
      have : (ByteArray.mk #[OfNat.ofNat 45]).size = 1 := rfl
      omega)]
    rfl
  · have e : IntKind.u64.wrap v = (v.natAbs : Int) := by
      show v % 18446744073709551616 = _
      omega
    rw [decide_eq_false g, e, lay10_eq (by omega) hK, if_neg g]
    rfl

/-! ### The reference's -/
theorem u8code {d : Nat} (h : d < 10) : (⟨IntKind.u8.wrap (IntKind.i64.wrap (48 + (d : Int)))⟩ : U8) = codeV d := by
  unfold codeV
  rw [if_neg (by omega), wrap_i64_of (by omega) (by omega)]
  congr 1
  show (48 + (d : Int)) % 256 = _
  omega
theorem R03_Dec_pos : ∀ (f n K : Nat), n < 10 ^ (f + 1) → n ≤ 9223372036854775807 → f < K → f ≤ 1000 → FR03_Dec K (n : Int) = some (strU ((decF f n).map codeV))
  | f, n, 0, _, _, h, _ => absurd h (Nat.not_lt_zero _)
  | f, n, K + 1, h, hb, hK, hf => by
    have g0 : decide ((n : Int) < 0) = false := decide_eq_false (by omega)
    rcases Nat.lt_or_ge n 10 with g | g
    · rw [FR03_Dec, g0, decide_eq_true (show (n : Int) < 10 by omega), decF_small g, u8code g]
      rfl
    · cases f with
      | zero => rw [Nat.zero_add, Nat.pow_one] at h; omega
      | succ f =>
        have hl := decF_len f (n / 10)
        rw [Nat.pow_succ] at h
        have e1 : ((n : Int).tmod 10) = ((n % 10 : Nat) : Int) := by rw [Int.tmod_eq_emod_of_nonneg (by omega)]; omega
        have e3 : IntKind.i64.wrap ((n : Int).tdiv 10) = ((n / 10 : Nat) : Int) := by
          rw [Int.tdiv_eq_ediv_of_nonneg (by omega), wrap_i64_of (by omega) (by omega)]; omega
        have ok : ∀ b : U8, catOk (strU ((decF f (n / 10)).map codeV)) (strU [b]) = true := fun b => cat_ok (by rw [strU_size, strU_size, List.length_map]; simp; omega)
        rw [FR03_Dec, g0, decide_eq_false (show ¬ (n : Int) < 10 by omega), e3, R03_Dec_pos f (n / 10) K (by omega) (by omega) (by omega) (by omega), decF_great g]
        simp only [cond_false, Option.bind_some]
        show (bif catOk _ (strU [⟨IntKind.u8.wrap (IntKind.i64.wrap (48 + (n : Int).tmod 10))⟩]) then _ else none) = _
        rw [e1, u8code (by omega), ok]
        rw [cond_true, List.map_append, strU_append]
        rfl
theorem R03_Dec_neg : ∀ (f n K : Nat), n < 10 ^ (f + 1) → 1 ≤ n → n ≤ 9223372036854775808 → f < K → f ≤ 1000 → FR03_Dec K (-(n : Int)) = some (minusS ++ strU ((decF f n).map codeV))
  | f, n, 0, _, _, _, h, _ => absurd h (Nat.not_lt_zero _)
  | f, n, K + 1, h, h1, hb, hK, hf => by
    have g0 : decide (-(n : Int) < 0) = true := decide_eq_true (by omega)
    rcases Nat.lt_or_ge n 10 with g | g
    · have e : (48 - -(n : Int)) = 48 + (n : Int) := by omega
      rw [FR03_Dec, g0, decide_eq_true (show -(n : Int) > -10 by omega), decF_small g, e, u8code g]
      rfl
    · cases f with
      | zero => rw [Nat.zero_add, Nat.pow_one] at h; omega
      | succ f =>
        have hl := decF_len f (n / 10)
        rw [Nat.pow_succ] at h
        have e1 : ((-(n : Int)).tmod 10) = -((n % 10 : Nat) : Int) := by rw [Int.neg_tmod, Int.tmod_eq_emod_of_nonneg (by omega)]; omega
        have e3 : IntKind.i64.wrap ((-(n : Int)).tdiv 10) = -((n / 10 : Nat) : Int) := by
          rw [Int.neg_tdiv, Int.tdiv_eq_ediv_of_nonneg (by omega), wrap_i64_of (by omega) (by omega)]; omega
        have e4 : 48 - -((n % 10 : Nat) : Int) = 48 + ((n % 10 : Nat) : Int) := by omega
        have ok : ∀ b : U8, catOk (minusS ++ strU ((decF f (n / 10)).map codeV)) (strU [b]) = true := fun b => cat_ok (by rw [minus_size, strU_size, strU_size, List.length_map]; simp; omega)
        rw [FR03_Dec, g0, decide_eq_false (show ¬ -(n : Int) > -10 by omega), e3, R03_Dec_neg f (n / 10) K (by omega) (by omega) (by omega) (by omega) (by omega), decF_great g]
        simp only [cond_false, cond_true, Option.bind_some]
        show (bif catOk _ (strU [⟨IntKind.u8.wrap (IntKind.i64.wrap (48 - (-(n : Int)).tmod 10))⟩]) then _ else none) = _
        rw [e1, e4, u8code (by omega), ok]
        rw [cond_true, List.map_append, strU_append, ByteArray.append_assoc]
        rfl
theorem R03_Dec_eq {K : Nat} {v : Int} (h1 : -9223372036854775808 ≤ v) (h2 : v ≤ 9223372036854775807) (hK : 20 ≤ K) : FR03_Dec K v = some (sD v) := by
  have p : (10 : Nat) ^ (19 + 1) = 100000000000000000000 := by decide
  unfold sD
  rcases Decidable.em (v < 0) with g | g
  · have e : v = -((v.natAbs : Nat) : Int) := by omega
    rw [if_pos g]
    conv => lhs; rw [e]
    exact R03_Dec_neg 19 v.natAbs K (by omega) (by omega) (by omega) (by omega) (by omega)
  · have e : v = ((v.natAbs : Nat) : Int) := by omega
    rw [if_neg g]
    conv => lhs; rw [e]
    exact R03_Dec_pos 19 v.natAbs K (by omega) (by omega) (by omega) (by omega)

/-- A number's text, its bytes as they are. -/
def cs (v : Int) : List U8 := if v < 0 then ⟨45⟩ :: (decF 19 v.natAbs).map codeV else (decF 19 v.natAbs).map codeV
theorem sD_cs (v : Int) : sD v = strU (cs v) := by
  unfold sD cs
  split
  · rw [show (⟨45⟩ : U8) :: (decF 19 v.natAbs).map codeV = [⟨45⟩] ++ (decF 19 v.natAbs).map codeV from rfl, strU_append]
    rfl
  · rfl
theorem cs_len (v : Int) : (cs v).length ≤ 21 := by
  have := decF_len 19 v.natAbs
  unfold cs
  split <;> simp <;> omega

/-! ### The library's -/
theorem code_u8 {d : Nat} (h : d < 10) : (UInt8.ofNat (codeV d).n.toNat).toNat = 48 + d := by
  unfold codeV
  rw [if_neg (by omega)]
  have : (48 + (d : Int)).toNat = 48 + d := by omega
  rw [this]
  have : (UInt8.ofNat (48 + d)).toNat = (48 + d) % 256 := by simp
  omega
theorem fold_ge : ∀ (ds : List Nat) (acc : Nat), acc ≤ ds.foldl (fun a d => a * 10 + d) acc
  | [], _ => Nat.le_refl _
  | d :: ds, acc => by
    rw [List.foldl_cons]
    have := fold_ge ds (acc * 10 + d)
    omega
theorem uint_ok : ∀ (ds : List Nat) (acc : Nat), (∀ d, d ∈ ds → d < 10) → ds.foldl (fun a d => a * 10 + d) acc ≤ 9223372036854775808 →
    Lib.parseUintM (2 ^ 64 - 1) acc (ds.map fun d => UInt8.ofNat (codeV d).n.toNat) = .ok (ds.foldl (fun a d => a * 10 + d) acc)
  | [], acc, _, _ => rfl
  | d :: ds, acc, hd, hv => by
    have h := hd d (by simp)
    rw [List.foldl_cons] at hv ⊢
    have := fold_ge ds (acc * 10 + d)
    rw [List.map_cons, Lib.parseUintM, code_u8 h, if_pos (by omega), if_neg (by omega), if_neg (by omega), show 48 + d - 48 = d by omega]
    exact uint_ok ds _ (fun x hx => hd x (by simp [hx])) hv
theorem sD_list (v : Int) : (sD v).data.toList = (cs v).map fun b => UInt8.ofNat b.n.toNat := by
  rw [sD_cs, strU_data]
theorem parse_sD {v : Int} (h1 : -9223372036854775808 ≤ v) (h2 : v ≤ 9223372036854775807) : Lib.parseIntB 64 (sD v).data.toList = .ok v := by
  have p : (10 : Nat) ^ (19 + 1) = 100000000000000000000 := by decide
  have p63 : (2 : Nat) ^ (64 - 1) = 9223372036854775808 := by decide
  have hval := decF_val 19 v.natAbs (by omega)
  have hlt := decF_lt 19 v.natAbs
  have hlen := decF_len 19 v.natAbs
  have hu : Lib.parseUintB 64 (((decF 19 v.natAbs).map codeV).map fun b => UInt8.ofNat b.n.toNat) = .ok v.natAbs := by
    have := uint_ok (decF 19 v.natAbs) 0 hlt (by rw [hval]; omega)
    rw [hval] at this
    unfold Lib.parseUintB
    rw [if_neg (by
      intro e
      have := congrArg List.length e
      simp at this
      rw [this] at hlen
      simp at hlen), List.map_map]
    exact this
  rw [sD_list]
  unfold cs
  rcases Decidable.em (v < 0) with g | g
  · rw [if_pos g, List.map_cons]
    show Lib.parseIntB 64 (45 :: _) = _
    rw [Lib.parseIntB_minus, hu]
    show (if 2 ^ (64 - 1) < v.natAbs then Lib.NumEnd.range else .ok (-(v.natAbs : Int))) = _
    rw [if_neg (by rw [p63]; omega)]
    congr 1
    omega
  · rw [if_neg g]
    cases hl : decF 19 v.natAbs with
    | nil => rw [hl] at hlen; simp at hlen
    | cons d ds =>
      have hd := hlt d (by rw [hl]; simp)
      rw [hl] at hu
      rw [List.map_cons, List.map_cons] at hu ⊢
      rw [Lib.parseIntB_plain _ _ _ (by rw [code_u8 hd]; omega) (by rw [code_u8 hd]; omega), hu]
      show (if 2 ^ (64 - 1) ≤ v.natAbs then Lib.NumEnd.range else .ok (v.natAbs : Int)) = _
      rw [if_neg (by rw [p63]; omega)]
      congr 1
      omega

/-! ### The reference's -/
theorem undec_step {s : ByteArray} {K i p d : Nat} (hi : i < s.size) (hs : s.size ≤ 100) (hd : d < 10) (hb : byteAt s (i : Int) = 48 + (d : Int)) (hp : p * 10 + d < 18446744073709551616) :
    FR03_Undec_6 s (K + 1) (p : Int) (i : Int) = FR03_Undec_6 s K ((p * 10 + d : Nat) : Int) ((i + 1 : Nat) : Int) := by
  have e1 : decide ((i : Int) < (s.size : Int)) = true := decide_eq_true (by omega)
  have e2 : inR (i : Int) s.size = true := by
    simp only [inR, Bool.and_eq_true, decide_eq_true_eq]
    omega
  have e3 : IntKind.i64.wrap ((i : Int) + 1) = ((i + 1 : Nat) : Int) := by rw [wrap_i64_of (by omega) (by omega)]; omega
  have e4 : IntKind.u64.wrap (IntKind.u64.wrap (IntKind.u64.wrap ((p : Int) * 10) + IntKind.u64.wrap (48 + (d : Int))) - 48) = ((p * 10 + d : Nat) : Int) := by
    show ((((p : Int) * 10) % 18446744073709551616 + (48 + (d : Int)) % 18446744073709551616) % 18446744073709551616 - 48) % 18446744073709551616 = _
    omega
  rw [FR03_Undec_6, e1, hb, e2, e3, e4, decide_eq_false (show ¬ (48 + (d : Int)) < 48 by omega), decide_eq_false (show ¬ (48 + (d : Int)) > 57 by omega)]
  simp only [cond_true, cond_false]
  cases h0 : ((i : Int) == 0) with
  | false => rfl
  | true =>
    have : i = 0 := by have := eq_of_beq h0; omega
    subst this
    rw [show byteAt s 0 = 48 + (d : Int) from hb]
    have : ((48 + (d : Int)) == 45) = false := by rw [beq_eq_false_iff_ne]; omega
    rw [this]
    rfl
theorem undec_run {s : ByteArray} {xs : List U8} (hs : s = strU xs) (hl : xs.length ≤ 100) : ∀ (ds : List Nat) (i p K : Nat), (∀ d, d ∈ ds → d < 10) → xs.drop i = ds.map codeV → i ≤ xs.length → ds.foldl (fun a d => a * 10 + d) p ≤ 9223372036854775808 →
    FR03_Undec_6 s (K + ds.length) (p : Int) (i : Int) = FR03_Undec_6 s K ((ds.foldl (fun a d => a * 10 + d) p : Nat) : Int) (xs.length : Int)
  | [], i, p, K, _, hdr, hi, _ => by
    have : xs.length - i = 0 := by rw [← List.length_drop, hdr]; rfl
    have : i = xs.length := by omega
    subst this
    rfl
  | d :: ds, i, p, K, hd, hdr, hi, hv => by
    have h := hd d (by simp)
    rw [List.foldl_cons] at hv ⊢
    have hge := fold_ge ds (p * 10 + d)
    have hlen : xs.length - i = ds.length + 1 := by rw [← List.length_drop, hdr]; simp
    have hx : xs[i]? = some (codeV d) := by
      have := congrArg (fun l => l[0]?) hdr
      simpa using this
    have hb : byteAt s (i : Int) = 48 + (d : Int) := by
      rw [hs, byte_strU hx (code_b (by omega))]
      unfold codeV
      rw [if_neg (by omega)]
    have hsz : s.size = xs.length := by rw [hs, strU_size]
    rw [show K + (d :: ds).length = K + ds.length + 1 from rfl, undec_step (by omega) (by omega) h hb (by omega)]
    refine undec_run hs hl ds (i + 1) (p * 10 + d) K (fun x hx => hd x (by simp [hx])) ?_ (by omega) hv
    have := congrArg List.tail hdr
    rw [List.tail_drop] at this
    simpa using this
theorem Undec_sD {K : Nat} {v : Int} (h1 : -9223372036854775808 ≤ v) (h2 : v ≤ 9223372036854775807) (hK : 200 ≤ K) : FR03_Undec K (sD v) = some (v, true) := by
  have p : (10 : Nat) ^ (19 + 1) = 100000000000000000000 := by decide
  have hval := decF_val 19 v.natAbs (by omega)
  have hlt := decF_lt 19 v.natAbs
  have hlen := decF_len 19 v.natAbs
  have hl := cs_len v
  have hsz : (sD v).size = (cs v).length := by rw [sD_cs, strU_size]
  -- at the end
  have fin : ∀ (K : Nat) (q : Int), 30 ≤ K → q = (v.natAbs : Int) → byteAt (sD v) 0 = (if v < 0 then 45 else byteAt (sD v) 0) → (¬ v < 0 → (byteAt (sD v) 0 == 45) = false) → FR03_Undec_6 (sD v) K q ((cs v).length : Int) = some (v, true) := fun K q hK hq hb0 hb1 => by
    obtain ⟨K, rfl⟩ : ∃ k, K = k + 1 := ⟨K - 1, by omega⟩
    have e1 : decide (((cs v).length : Int) < ((sD v).size : Int)) = false := decide_eq_false (by omega)
    rw [FR03_Undec_6, e1]
    simp only [cond_false]
    rcases Decidable.em (v < 0) with g | g
    · rw [if_pos g] at hb0
      have e2 : IntKind.i64.wrap (0 - IntKind.i64.wrap q) = v := by
        rw [IntKind.wrap_i64, IntKind.wrap_i64]
        omega
      rw [hb0, e2, R03_Dec_eq h1 h2 (by omega)]
      simp
    · have e2 : IntKind.i64.wrap q = v := by
        rw [wrap_i64_of (by omega) (by omega)]; omega
      rw [hb1 g, e2, R03_Dec_eq h1 h2 (by omega)]
      simp
  have nz : ((((sD v).size : Nat) : Int) == 0) = false := by
    rw [beq_eq_false_iff_ne, hsz]
    unfold cs
    split <;> simp only [List.length_cons, List.length_map] <;> omega
  have le20 : (sD v).size ≤ 20 := by
    have : (decF 19 v.natAbs).length ≤ 19 := by
      have p18 : (10 : Nat) ^ (18 + 1) = 10000000000000000000 := by decide
      have key : ∀ f n, n < 10 ^ (f + 1) → (decF f n).length ≤ f + 1 := fun f n _ => (decF_len f n).1
      have eqf : ∀ f n, n < 10 ^ (f + 1) → decF (f + 1) n = decF f n := by
        intro f
        induction f with
        | zero => intro n h; rw [decF_small (by simpa using h), decF_small (by simpa using h)]
        | succ f ih =>
          intro n h
          rcases Nat.lt_or_ge n 10 with g | g
          · rw [decF_small g, decF_small g]
          · rw [Nat.pow_succ] at h
            rw [decF_great g, decF_great g, ih (n / 10) (by omega)]
      rw [eqf 18 v.natAbs (by omega)]
      exact key 18 _ (by omega)
    rw [hsz]
    unfold cs
    split <;> simp <;> omega
  have r0 : inR 0 (sD v).size = true := by
    have : (sD v).size ≠ 0 := fun e => by rw [e] at nz; cases nz
    simp only [inR, Bool.and_eq_true, decide_eq_true_eq]
    omega
  unfold FR03_Undec
  rw [nz, decide_eq_false (show ¬ (((sD v).size : Nat) : Int) > 20 by omega), r0]
  simp only [cond_true, cond_false]
  rcases Decidable.em (v < 0) with g | g
  · have hcs : cs v = ⟨45⟩ :: (decF 19 v.natAbs).map codeV := by unfold cs; rw [if_pos g]
    have hb0 : byteAt (sD v) 0 = 45 := by
      rw [sD_cs]
      exact byte_strU (i := 0) (b := ⟨45⟩) (by rw [hcs]; rfl) (by simp)
    obtain ⟨k, rfl⟩ : ∃ k, K = (k + (decF 19 v.natAbs).length) + 1 := ⟨K - 1 - (decF 19 v.natAbs).length, by omega⟩
    have e1 : decide ((0 : Int) < ((sD v).size : Int)) = true := decide_eq_true (by
      have : (sD v).size ≠ 0 := fun e => by rw [e] at nz; cases nz
      omega)
    rw [FR03_Undec_6, e1, hb0]
    simp only [cond_true]
    show FR03_Undec_6 (sD v) (k + (decF 19 v.natAbs).length) 0 (IntKind.i64.wrap (0 + 1)) = _
    have := undec_run (sD_cs v) (by omega) (decF 19 v.natAbs) 1 0 k hlt (by rw [hcs]; rfl) (by rw [hcs]; simp) (by rw [hval]; omega)
    rw [hval] at this
    refine Eq.trans this (fin k _ (by omega) rfl (by rw [if_pos g]; exact hb0) (fun h => absurd g h))
  · have hcs : cs v = (decF 19 v.natAbs).map codeV := by unfold cs; rw [if_neg g]
    obtain ⟨k, rfl⟩ : ∃ k, K = k + (decF 19 v.natAbs).length := ⟨K - (decF 19 v.natAbs).length, by omega⟩
    have := undec_run (sD_cs v) (by omega) (decF 19 v.natAbs) 0 0 k hlt (by rw [hcs]; rfl) (by omega) (by rw [hval]; omega)
    rw [hval] at this
    refine Eq.trans this (fin k _ (by omega) rfl (by rw [if_neg g]) (fun _ => ?_))
    cases hl : decF 19 v.natAbs with
    | nil => rw [hl] at hlen; simp at hlen
    | cons d ds =>
      have hd := hlt d (by rw [hl]; simp)
      have hb : byteAt (sD v) 0 = (codeV d).n := by
        rw [sD_cs]
        exact byte_strU (i := 0) (b := codeV d) (by rw [hcs, hl]; rfl) (code_b (by omega))
      rw [hb, beq_eq_false_iff_ne]
      unfold codeV
      rw [if_neg (by omega)]
      show 48 + (d : Int) ≠ 45
      omega
/-- What the program's reading of a text tells. -/
def U (s : ByteArray) : Int × Int := match Lib.parseIntB 64 s.data.toList with
  | .ok v => if sD v = s then (v, 0) else (0, 6)
  | _ => (0, 6)
theorem U_sD {v : Int} (h1 : -9223372036854775808 ≤ v) (h2 : v ≤ 9223372036854775807) : U (sD v) = (v, 0) := by
  unfold U
  rw [parse_sD h1 h2]
  simp
end

section
open Go Go.Dt Go.Proofs Go.Shelf Go.RowKit
set_option linter.unusedVariables false
set_option linter.unusedSimpArgs false

/-- What the two variables of strconv hold: interfaces. -/
def Errs (w : World) : Prop := (∃ ev, w.cell? ⟨2, 0, none⟩ = some ev ∧ (ev = .nilIface ∨ ∃ te pe, ev = .iface te pe)) ∧ (∃ ev, w.cell? ⟨3, 0, none⟩ = some ev ∧ (ev = .nilIface ∨ ∃ te pe, ev = .iface te pe))
theorem Errs.mono {w w' : World} (h : Errs w) (hb : Below w.heap.size w w') : Errs w' := by
  obtain ⟨⟨a, h1, h2⟩, b, h3, h4⟩ := h
  exact ⟨⟨a, (hb.cell (show (⟨2, 0, none⟩ : Addr).block < w.heap.size from Lib.lt_of_cell h1)).trans h1, h2⟩, b, (hb.cell (show (⟨3, 0, none⟩ : Addr).block < w.heap.size from Lib.lt_of_cell h3)).trans h3, h4⟩

theorem pi_ok {s : ByteArray} {v : Int} (hs : s.size ≤ 1000) (hp : Lib.parseIntB 64 s.data.toList = .ok v) (w : World) :
    Calls Tryz.prog 46 #[.string s, .int .i64 10, .int .i64 64] w fun e w' => e = .returned (.tuple #[.int .i64 v, .nilIface]) ∧ Below w.heap.size w w' :=
  (Any.strconv_ParseInt_10_at64_ok laysPI s (by omega) v hp w).mono fun e w' ⟨he, hw⟩ => ⟨he, by
    rcases hw with rfl | ⟨t, rfl⟩
    · exact Below.refl _ _
    · exact Lib.bytesWorld_below _ _ _⟩
theorem pi_err {s : ByteArray} (hs : s.size ≤ 1000) (hp : ∀ v, Lib.parseIntB 64 s.data.toList ≠ .ok v) (w : World) (he : Errs w) :
    Calls Tryz.prog 46 #[.string s, .int .i64 10, .int .i64 64] w fun e w' => ∃ x N, e = .returned (.tuple #[.int .i64 x, .iface 140 (.pointer (some ⟨N, 0, none⟩))]) ∧ Below w.heap.size w w' := by
  obtain ⟨⟨a, h1, h2⟩, b, h3, h4⟩ := he
  cases h : Lib.parseIntB 64 s.data.toList with
  | ok v => exact absurd h (hp v)
  | range => exact (Any.strconv_ParseInt_10_at64_range laysPI s (by omega) h b w h3 h4).mono fun e w' ⟨N, he, _, _, hb⟩ => ⟨_, N, he, hb⟩
  | _ => exact (Any.strconv_ParseInt_10_at64_syntax laysPI s (by omega) h a w h1 h2).mono fun e w' ⟨N, he, _, _, hb⟩ => ⟨_, N, he, hb⟩
theorem dec_calls {v : Int} (h1 : -9223372036854775808 ≤ v) (h2 : v ≤ 9223372036854775807) (w : World) (hg : GloOk (froH w)) :
    Calls Tryz.prog 47 #[.int .i64 v] w fun e w' => e = .returned (.string (sD v)) ∧ Below w.heap.size w w' :=
  Con.calls (cnum_Dec 200 v _ (Dec_eq h1 h2 (Nat.le_refl _))) rfl #[.int .i64 v] w rfl (fun i => by
    rcases i with _ | i
    · exact RV.int _ _
    · exact RV.any _) hg

set_option maxHeartbeats 4000000 in
set_option maxRecDepth 100000 in
theorem undec_err {s : ByteArray} (hs : s.size ≤ 1000) (hp : ∀ v, Lib.parseIntB 64 s.data.toList ≠ .ok v) (w : World) (he : Errs w) :
    Calls Tryz.prog 25 #[.string s] w fun e w' => e = .returned (.tuple #[.int .i64 0, .int .i64 6]) ∧ Below w.heap.size w w' := by
  have hI := pi_err hs hp w he
  go_enter Tryz.func25, Tryz.ntmps25
  go_wp2_with (go_at_call 46; refine hI.mono ?_; rintro e W1 ⟨x, N, rfl, hb⟩)
  go_ret2
  exact ⟨rfl, hb⟩
set_option maxHeartbeats 4000000 in
set_option maxRecDepth 100000 in
theorem undec_same {s : ByteArray} {v : Int} (hs : s.size ≤ 1000) (hp : Lib.parseIntB 64 s.data.toList = .ok v) (hq : ((sD v).toList == s.toList) = true) (w : World) (hg : GloOk (froH w)) :
    Calls Tryz.prog 25 #[.string s] w fun e w' => e = .returned (.tuple #[.int .i64 v, .int .i64 0]) ∧ Below w.heap.size w w' := by
  have hI := pi_ok hs hp w
  have hv := Lib.parseIntB_bounds hp
  have hD := fun (W : World) (k : Below w.heap.size w W) => dec_calls (v := v) (by omega) (by omega) W (glo_below hg k)
  go_enter Tryz.func25, Tryz.ntmps25
  go_wp2_with (first
    | (go_at_call 46; refine hI.mono ?_; rintro e W1 ⟨rfl, hb⟩)
    | (go_at_call 47; refine (hD _ (by assumption)).mono ?_; rintro e W2 ⟨rfl, hb2⟩))
  all_goals first
    | (exfalso; simp_all; done)
    | (go_ret2; exact ⟨rfl, hb.trans (hb2.mono hb.size)⟩)
set_option maxHeartbeats 4000000 in
set_option maxRecDepth 100000 in
theorem undec_other {s : ByteArray} {v : Int} (hs : s.size ≤ 1000) (hp : Lib.parseIntB 64 s.data.toList = .ok v) (hq : ((sD v).toList == s.toList) = false) (w : World) (hg : GloOk (froH w)) :
    Calls Tryz.prog 25 #[.string s] w fun e w' => e = .returned (.tuple #[.int .i64 0, .int .i64 6]) ∧ Below w.heap.size w w' := by
  have hI := pi_ok hs hp w
  have hv := Lib.parseIntB_bounds hp
  have hD := fun (W : World) (k : Below w.heap.size w W) => dec_calls (v := v) (by omega) (by omega) W (glo_below hg k)
  go_enter Tryz.func25, Tryz.ntmps25
  go_wp2_with (first
    | (go_at_call 46; refine hI.mono ?_; rintro e W1 ⟨rfl, hb⟩)
    | (go_at_call 47; refine (hD _ (by assumption)).mono ?_; rintro e W2 ⟨rfl, hb2⟩))
  all_goals first
    | (exfalso; simp_all; done)
    | (go_ret2; exact ⟨rfl, hb.trans (hb2.mono hb.size)⟩)
theorem errs_of {w : World} (h : GloOk (froH w)) : Errs w := by
  obtain ⟨_, _, _, ⟨e2, h2, p2⟩, e3, h3, p3⟩ := h
  exact ⟨⟨e2, fro_cell h2 rfl, p2⟩, e3, fro_cell h3 rfl, p3⟩
theorem undec_calls {s : ByteArray} (hs : s.size ≤ 1000) (w : World) (hg : GloOk (froH w)) :
    Calls Tryz.prog 25 #[.string s] w fun e w' => e = .returned (.tuple #[.int .i64 (U s).1, .int .i64 (U s).2]) ∧ Below w.heap.size w w' := by
  unfold U
  cases h : Lib.parseIntB 64 s.data.toList with
  | ok v =>
    rcases Decidable.em (sD v = s) with g | g
    · simp only [if_pos g]
      exact undec_same hs h (by rw [g]; exact beq_self_eq_true _) w hg
    · simp only [if_neg g]
      refine undec_other hs h (by
        rw [beq_eq_false_iff_ne]
        intro e
        rw [ByteArray.toList_eq, ByteArray.toList_eq] at e
        exact g (ByteArray.ext (Array.toList_inj.1 e))) w hg
  | range => exact undec_err hs (fun v e => by rw [h] at e; cases e) w (errs_of hg)
  | _ => exact undec_err hs (fun v e => by rw [h] at e; cases e) w (errs_of hg)
/-- What num.Undec tells; of a text that is too long, nothing is said. -/
def Fnum_Undec (_ : Nat) (s : ByteArray) : Option (Int × Int) := bif decide (s.size ≤ 1000) then some (U s) else none
abbrev Enum_Undec : Int × Int → Value := fun r => .tuple ⟨[.int .i64 r.1, .int .i64 r.2]⟩
theorem cnum_Undec (K : Nat) (a0 : ByteArray) : ∀ r, Fnum_Undec K a0 = some r → Con Tryz.prog 25 [.string a0] (Enum_Undec r) := fun r h => by
  unfold Fnum_Undec at h
  cases hd : decide (a0.size ≤ 1000) with
  | false => rw [hd] at h; cases h
  | true =>
    rw [hd] at h
    cases h
    exact Con.of Tryz.func25 (by kernel_rfl) rfl (FnEq.ofBelowG rfl rfl fun w hg => undec_calls (of_decide_eq_true hd) w hg)

end

section
open Go Go.Dt Go.Proofs
set_option linter.unusedVariables false

/-! ### 24 -/
abbrev Etrace_Event_1 : Bool → Value := fun r => .bool r
def Ftrace_Event_1 (K : Nat) (a0 : TTraceshape) (a1 : List ByteArray) : Option Bool :=
  bif inR 0 a1.length then
    bif (a0.word.toList == (getR a1 0).toList) then
      some (bif true then a0.many == IntKind.i64.wrap ((↑a1.length : Int) - 1) else false)
    else
      some false
  else none
theorem ctrace_Event_1 (K : Nat) (a0 : TTraceshape) (a1 : List ByteArray) : ∀ r, Ftrace_Event_1 K a0 a1 = some r → Con Tryz.prog 24 [.agg ⟨[.string a0.word, .int .i64 a0.many]⟩, frp [lst a1] 0] (Etrace_Event_1 r) := by
  refine Con.lift Tryz.func24 (by kernel_rfl) rfl (fun _ => rfl) ?_
  unfold Ftrace_Event_1
  exact
    L.ld mixed 9 53 [(lst a1)] 0 ((lst a1)) (by kernel_rfl) (by kernel_rfl) <|
    L.idx mixed 0 _ (rows a1) 1 IntKind.i64 _ (by kernel_rfl) (fun h1a h1b =>
    L.ld mixed 0 9 (rows a1) ((0 : Int).toNat * 1 + 0) (.string (getR a1 (0 : Int).toNat)) (by kernel_rfl) (load1_rows (i := (0 : Int).toNat) (d := 0) rfl (toNat_lt h1a h1b) (by kernel_rfl) (Nat.le_of_ble_eq_true (by kernel_rfl)) (by kernel_rfl)) <|
    L.gu mixed 2 _ (by kernel_rfl)
      (fun h2 =>
      L.ld mixed 2 53 [(lst a1)] 0 ((lst a1)) (by kernel_rfl) (by kernel_rfl) <|
      L.ret _ mixed Tryz.func24 _ (by kernel_rfl) rfl)
      (fun h2 =>
      L.ret _ mixed Tryz.func24 _ (by kernel_rfl) rfl))
/-! ### 22 -/
abbrev Eslices_IndexFunc_trace_Event_1 : Int → Value := fun r => .int .i64 r
def Fslices_IndexFunc_trace_Event_1_2 (a0 : List TTraceshape) (a1 : List ByteArray) : Nat → Int → Option Int
  | 0, _ => none
  | K + 1, p8 =>
    bif (decide (p8 < (↑a0.length : Int))) then
      bif inR p8 a0.length then
        (Ftrace_Event_1 K ((getR a0 p8.toNat)) a1).bind fun u3 =>
        bif u3 then
          some p8
        else
          Fslices_IndexFunc_trace_Event_1_2 a0 a1 K (IntKind.i64.wrap (p8 + 1))
      else none
    else
      some (-1)
def Fslices_IndexFunc_trace_Event_1 (K : Nat) (a0 : List TTraceshape) (a1 : List ByteArray) : Option Int :=
  Fslices_IndexFunc_trace_Event_1_2 a0 a1 K 0
def Hslices_IndexFunc_trace_Event_1_2 (fn : Func) (a0 : List TTraceshape) (a1 : List ByteArray) (p8 : Int) : VS := headS fn 2 [(0, (lst a0)), (1, (Value.func (Fn.func (OfNat.ofNat 24)) (Array.mk []) (Array.mk [Value.iface 4000000001 (Value.tuple (Array.mk [Value.int IntKind.i64 0, Value.agg (Array.mk [lst a1])]))]))), (7, (Value.int IntKind.i64 ((↑a0.length : Int)))), (8, .int .i64 p8)] []
theorem lslices_IndexFunc_trace_Event_1 (a0 : List TTraceshape) (a1 : List ByteArray) : ∀ K : Nat, (∀ (p8 : Int), Lifts Tryz.prog 22 0 Eslices_IndexFunc_trace_Event_1 (Hslices_IndexFunc_trace_Event_1_2 Tryz.f22 a0 a1 p8) (Fslices_IndexFunc_trace_Event_1_2 a0 a1 K p8)) := by
  intro K
  induction K with
  | zero =>
    exact fun p8 => (by rw [Fslices_IndexFunc_trace_Event_1_2]; exact L.no)
  | succ K ih =>
    have IH2 := ih
    refine fun p8 => ?_
    · rw [Fslices_IndexFunc_trace_Event_1_2]
      exact
        L.br mixed 5 _ (by kernel_rfl)
          (fun h1 =>
          L.idx mixed 13 _ (rows a0) 2 IntKind.i64 _ (by kernel_rfl) (fun h2a h2b =>
          L.ld mixed 0 63 (rows a0) (p8.toNat * 2 + 0) (.agg ⟨[.string (getR a0 p8.toNat).word, .int .i64 (getR a0 p8.toNat).many]⟩) (by kernel_rfl) (loadN_rows (i := p8.toNat) (d := 0) (k := 2) rfl (toNat_lt h2a h2b) (by kernel_rfl) (by kernel_rfl) (Nat.le_of_ble_eq_true (by kernel_rfl)) (by kernel_rfl)) <|
          L.callO mixed (fun u3 : Bool => .bool u3) (ctrace_Event_1 K ((getR a0 p8.toNat)) a1) (by kernel_rfl) (fun u3 hu3 =>
          L.br mixed 1 _ (by kernel_rfl)
            (fun h4 =>
            L.ret _ mixed Tryz.func22 _ (by kernel_rfl) rfl)
            (fun h4 =>
            L.jump mixed 7 [0, 1, 7, 8] (by kernel_rfl) (IH2 (IntKind.i64.wrap (p8 + 1)))))))
          (fun h1 =>
          L.ret _ mixed Tryz.func22 _ (by kernel_rfl) rfl)
theorem cslices_IndexFunc_trace_Event_1 (K : Nat) (a0 : List TTraceshape) (a1 : List ByteArray) : ∀ r, Fslices_IndexFunc_trace_Event_1 K a0 a1 = some r → Con Tryz.prog 22 [lst a0, .func (.func 24) ⟨[]⟩ ⟨[frp [lst a1] 0]⟩] (Eslices_IndexFunc_trace_Event_1 r) := by
  have IH2 := lslices_IndexFunc_trace_Event_1 a0 a1 K
  refine Con.lift Tryz.func22 (by kernel_rfl) rfl (fun _ => rfl) ?_
  unfold Fslices_IndexFunc_trace_Event_1
  exact
    L.jump mixed 13 [0, 1, 7, 8] (by kernel_rfl) (IH2 0)
/-! ### 7 -/
abbrev Etrace_Event : TEvent × Int → Value := fun r => .tuple ⟨[.agg ⟨[.int .i64 r.1.Who, .int .i64 r.1.Kind, .int .i64 r.1.A, .int .i64 r.1.B]⟩, .int .i64 r.2]⟩
def Ftrace_Event_7 (a0 : ByteArray) : Nat → Int → Int → Int → Int → (List ByteArray) → Int → Int → Option (TEvent × Int)
  | 0, _, _, _, _, _, _, _ => none
  | K + 1, p6, p7_0, p7_1, p7_2, p27, p28, p29 =>
    bif (decide (p29 < p28)) then
      bif inR p29 p27.length then
        bif (decide (p6 < 1)) then
          some (((⟨0, 0, 0, 0⟩ : TEvent), 13))
        else
          (Fnum_Undec K (getR p27 p29.toNat)).bind fun u9 =>
          bif inR p29 3 then
            bif (u9.snd != 0) then
              some (((⟨0, 0, 0, 0⟩ : TEvent), 13))
            else
              Ftrace_Event_7 a0 K p6 (selI p29.toNat 0 u9.fst p7_0) (selI p29.toNat 1 u9.fst p7_1) (selI p29.toNat 2 u9.fst p7_2) p27 p28 (IntKind.i64.wrap (p29 + 1))
          else none
      else none
    else
      bif (decide (p6 < 1)) then
        some (((⟨0, 0, 0, 0⟩ : TEvent), 13))
      else
        some (((⟨p7_0, p6, p7_1, p7_2⟩ : TEvent), 0))
def Ftrace_Event (K : Nat) (a0 : ByteArray) : Option (TEvent × Int) :=
  (Flex_Words K a0).bind fun u1 =>
  bif (u1.snd != 0) then
    some (((⟨0, 0, 0, 0⟩ : TEvent), 13))
  else
    bif (bif false then true else decide ((↑u1.fst.length : Int) < 2)) then
      some (((⟨0, 0, 0, 0⟩ : TEvent), 13))
    else
      (Ftrace_shapes K).bind fun u4 =>
      (Fslices_IndexFunc_trace_Event_1 K u4 (u1.fst)).bind fun u5 =>
      bif cutOk u1.fst.length ((some (1 : Int)).getD 0) ((Option.none : Option Int).getD u1.fst.length) then
        Ftrace_Event_7 a0 K u5 0 0 0 (List.take ((none.getD (↑u1.fst.length : Int)).toNat - 1) (List.drop 1 u1.fst)) ((↑(List.take ((none.getD (↑u1.fst.length : Int)).toNat - 1) (List.drop 1 u1.fst)).length : Int)) 0
      else none
def Htrace_Event_7 (fn : Func) (a0 : ByteArray) (p6 : Int) (p7_0 : Int) (p7_1 : Int) (p7_2 : Int) (p27 : List ByteArray) (p28 : Int) (p29 : Int) : VS := headS fn 7 [(2, .pointer (some ⟨0, 0, none⟩)), (6, .int .i64 p6), (7, .pointer (some ⟨1, 0, none⟩)), (27, lst p27), (28, .int .i64 p28), (29, .int .i64 p29)] [.cells [(Value.int IntKind.i64 0), (Value.int IntKind.i64 0), (Value.int IntKind.i64 0), (Value.int IntKind.i64 0)] 0 true, .cells [.int IntKind.i64 p7_0, .int IntKind.i64 p7_1, .int IntKind.i64 p7_2] 0 true]
theorem ltrace_Event (a0 : ByteArray) : ∀ K : Nat, (∀ (p6 : Int) (p7_0 : Int) (p7_1 : Int) (p7_2 : Int) (p27 : List ByteArray) (p28 : Int) (p29 : Int), Lifts Tryz.prog 7 0 Etrace_Event (Htrace_Event_7 Tryz.f7 a0 p6 p7_0 p7_1 p7_2 p27 p28 p29) (Ftrace_Event_7 a0 K p6 p7_0 p7_1 p7_2 p27 p28 p29)) := by
  intro K
  induction K with
  | zero =>
    exact fun p6 p7_0 p7_1 p7_2 p27 p28 p29 => (by rw [Ftrace_Event_7]; exact L.no)
  | succ K ih =>
    have IH7 := ih
    refine fun p6 p7_0 p7_1 p7_2 p27 p28 p29 => ?_
    · rw [Ftrace_Event_7]
      exact
        L.br mixed 5 _ (by kernel_rfl)
          (fun h6 =>
          L.idx mixed 6 _ (rows p27) 1 IntKind.i64 _ (by kernel_rfl) (fun h7a h7b =>
          L.ld mixed 0 9 (rows p27) (p29.toNat * 1 + 0) (.string (getR p27 p29.toNat)) (by kernel_rfl) (load1_rows (i := p29.toNat) (d := 0) rfl (toNat_lt h7a h7b) (by kernel_rfl) (Nat.le_of_ble_eq_true (by kernel_rfl)) (by kernel_rfl)) <|
          L.br mixed 9 _ (by kernel_rfl)
            (fun h8 =>
            L.brIs mixed 7 _ true h8 (by kernel_rfl) <|
            L.ret _ mixed Tryz.func7 _ (by kernel_rfl) rfl)
            (fun h8 =>
            L.callO mixed (fun u9 : Int × Int => .tuple ⟨[.int .i64 u9.1, .int .i64 u9.2]⟩) (cnum_Undec K (getR p27 p29.toNat)) (by kernel_rfl) (fun u9 hu9 =>
            L.oidx mixed 3 1 0 _ 1 IntKind.i64 _ (by kernel_rfl) (fun h10a h10b =>
            L.ost mixed 0 (Value.int IntKind.i64 u9.fst) 1 1 (0 + p29.toNat * 1) (List.map (Value.int IntKind.i64) ([p7_0, p7_1, p7_2] : List Int)) [.int IntKind.i64 (selI p29.toNat 0 u9.fst p7_0), .int IntKind.i64 (selI p29.toNat 1 u9.fst p7_1), .int IntKind.i64 (selI p29.toNat 2 u9.fst p7_2)] 0 (by kernel_rfl) rfl rfl (lit_fit _ p29.toNat _ ([p7_0, p7_1, p7_2] : List Int) (by show 0 + p29.toNat * 1 = p29.toNat * 1 + 0; omega) (by have := (toNat_lt h10a h10b); simpa using this)) (lit_set _ _ p29.toNat _ ([p7_0, p7_1, p7_2] : List Int) (by show 0 + p29.toNat * 1 = p29.toNat * 1 + 0; omega) (by have := (toNat_lt h10a h10b); simpa using this)) <|
            L.br mixed 7 _ (by kernel_rfl)
              (fun h11 =>
              L.ret _ mixed Tryz.func7 _ (by kernel_rfl) rfl)
              (fun h11 =>
              L.jump mixed 7 [2, 6, 7, 27, 28, 29] (by kernel_rfl) (IH7 p6 (selI p29.toNat 0 u9.fst p7_0) (selI p29.toNat 1 u9.fst p7_1) (selI p29.toNat 2 u9.fst p7_2) p27 p28 (IntKind.i64.wrap (p29 + 1)))))))))
          (fun h6 =>
          L.br mixed 7 _ (by kernel_rfl)
            (fun h12 =>
            L.ret _ mixed Tryz.func7 _ (by kernel_rfl) rfl)
            (fun h12 =>
            L.ret _ mixed Tryz.func7 _ (by kernel_rfl) rfl))
theorem ctrace_Event (K : Nat) (a0 : ByteArray) : ∀ r, Ftrace_Event K a0 = some r → Con Tryz.prog 7 [.string a0] (Etrace_Event r) := by
  have IH7 := ltrace_Event a0 K
  refine Con.lift Tryz.func7 (by kernel_rfl) rfl (fun _ => rfl) ?_
  unfold Ftrace_Event
  exact
    L.callO mixed (fun u1 : List ByteArray × Int => .tuple ⟨[lst u1.1, .int .i64 u1.2]⟩) (clex_Words K a0) (by kernel_rfl) (fun u1 hu1 =>
    L.gu mixed 13 _ (by kernel_rfl)
      (fun h2 =>
      L.ret _ mixed Tryz.func7 _ (by kernel_rfl) rfl)
      (fun h2 =>
      L.br mixed 5 _ (by kernel_rfl)
        (fun h3 =>
        L.ret _ mixed Tryz.func7 _ (by kernel_rfl) rfl)
        (fun h3 =>
        L.frzP mixed 2 4 1 0 0 [(lst u1.fst)] (by kernel_rfl) (by kernel_rfl) (by kernel_rfl) (by kernel_rfl) <|
        L.callO mixed (fun u4 : List TTraceshape => lst u4) (ctrace_shapes K) (by kernel_rfl) (fun u4 hu4 =>
        L.callO mixed (fun u5 : Int => .int .i64 u5) (cslices_IndexFunc_trace_Event_1 K u4 (u1.fst)) (by kernel_rfl) (fun u5 hu5 =>
        L.ld mixed 9 53 [(lst u1.fst)] 0 ((lst u1.fst)) (by kernel_rfl) (by kernel_rfl) <|
        L.sl mixed 0 u1.fst (some (1 : Int)) (Option.none : Option Int) (by kernel_rfl) <|
        L.jumpG mixed 5 [2, 6, 7, 27, 28, 29] [.own 0, .own 2] [] (by kernel_rfl) (by kernel_rfl) (by kernel_rfl) trivial (by kernel_rfl) (by kernel_rfl) (IH7 u5 0 0 0 (List.take ((none.getD (↑u1.fst.length : Int)).toNat - 1) (List.drop 1 u1.fst)) ((↑(List.take ((none.getD (↑u1.fst.length : Int)).toNat - 1) (List.drop 1 u1.fst)).length : Int)) 0))))))
/-! ### 8 -/
abbrev ER37_Event : TEvent × Bool → Value := fun r => .tuple ⟨[.agg ⟨[.int .i64 r.1.Who, .int .i64 r.1.Kind, .int .i64 r.1.A, .int .i64 r.1.B]⟩, .bool r.2]⟩
mutual
def FR37_Event_6 (a0 : ByteArray) : Nat → (List ByteArray) → Int → Int → Int → Int → Option (TEvent × Bool)
  | 0, _, _, _, _, _ => none
  | K + 1, p4, p6_0, p6_1, p6_2, p7 =>
    bif (decide (p7 < (↑p4.length : Int))) then
      bif inR p7 p4.length then
        (FR03_Undec K (getR p4 p7.toNat)).bind fun u7 =>
        bif inR (IntKind.i64.wrap (p7 - 1)) 3 then
          FR37_Event_6 a0 K p4 (selI (IntKind.i64.wrap (p7 - 1)).toNat 0 u7.fst p6_0) (selI (IntKind.i64.wrap (p7 - 1)).toNat 1 u7.fst p6_1) (selI (IntKind.i64.wrap (p7 - 1)).toNat 2 u7.fst p6_2) (IntKind.i64.wrap (p7 + 1))
        else none
      else none
    else
      FR37_Event_10 a0 K ((⟨p6_0, p6_1, p6_2⟩ : A3I)) 1
def FR37_Event_10 (a0 : ByteArray) : Nat → A3I → Int → Option (TEvent × Bool)
  | 0, _, _ => none
  | K + 1, p6, p8 =>
    bif (decide (p8 ≤ 5)) then
      (FR37_May K ((⟨p6.e0, p8, p6.e1, p6.e2⟩ : TEvent))).bind fun u10 =>
      bif u10 then
        (FR37_Line K ((⟨p6.e0, p8, p6.e1, p6.e2⟩ : TEvent))).bind fun u12 =>
        bif (bif true then u12.toList == a0.toList else false) then
          some (((⟨p6.e0, p8, p6.e1, p6.e2⟩ : TEvent), true))
        else
          FR37_Event_10 a0 K p6 (IntKind.i64.wrap (p8 + 1))
      else
        FR37_Event_10 a0 K p6 (IntKind.i64.wrap (p8 + 1))
    else
      some (((⟨0, 0, 0, 0⟩ : TEvent), false))
end
def FR37_Event (K : Nat) (a0 : ByteArray) : Option (TEvent × Bool) :=
  (FR04_Words K a0).bind fun u1 =>
  bif !u1.snd then
    some (((⟨0, 0, 0, 0⟩ : TEvent), false))
  else
    bif (bif false then true else decide ((↑u1.fst.length : Int) < 2)) then
      some (((⟨0, 0, 0, 0⟩ : TEvent), false))
    else
      bif (bif false then true else decide ((↑u1.fst.length : Int) > 4)) then
        some (((⟨0, 0, 0, 0⟩ : TEvent), false))
      else
        FR37_Event_6 a0 K u1.fst 0 0 0 1
def HR37_Event_6 (fn : Func) (a0 : ByteArray) (p4 : List ByteArray) (p6_0 : Int) (p6_1 : Int) (p6_2 : Int) (p7 : Int) : VS := headS fn 6 [(0, (Value.string a0)), (2, .pointer (some ⟨0, 0, none⟩)), (4, lst p4), (6, .pointer (some ⟨1, 0, none⟩)), (7, .int .i64 p7)] [.cells [(Value.int IntKind.i64 0), (Value.int IntKind.i64 0), (Value.int IntKind.i64 0), (Value.int IntKind.i64 0)] 0 true, .cells [.int IntKind.i64 p6_0, .int IntKind.i64 p6_1, .int IntKind.i64 p6_2] 0 true]
def HR37_Event_10 (fn : Func) (a0 : ByteArray) (p6 : A3I) (p8 : Int) : VS := headS fn 10 [(0, (Value.string a0)), (2, .pointer (some ⟨0, 0, none⟩)), (6, frp [.int .i64 p6.e0, .int .i64 p6.e1, .int .i64 p6.e2] 0), (8, .int .i64 p8)] [.cells [(Value.int IntKind.i64 0), (Value.int IntKind.i64 0), (Value.int IntKind.i64 0), (Value.int IntKind.i64 0)] 0 true]
theorem lR37_Event (a0 : ByteArray) : ∀ K : Nat, (∀ (p4 : List ByteArray) (p6_0 : Int) (p6_1 : Int) (p6_2 : Int) (p7 : Int), Lifts Tryz.prog 8 0 ER37_Event (HR37_Event_6 Tryz.f8 a0 p4 p6_0 p6_1 p6_2 p7) (FR37_Event_6 a0 K p4 p6_0 p6_1 p6_2 p7)) ∧ (∀ (p6 : A3I) (p8 : Int), Lifts Tryz.prog 8 0 ER37_Event (HR37_Event_10 Tryz.f8 a0 p6 p8) (FR37_Event_10 a0 K p6 p8)) := by
  intro K
  induction K with
  | zero =>
    exact ⟨fun p4 p6_0 p6_1 p6_2 p7 => (by rw [FR37_Event_6]; exact L.no), fun p6 p8 => (by rw [FR37_Event_10]; exact L.no)⟩
  | succ K ih =>
    obtain ⟨IH6, IH10⟩ := ih
    refine ⟨fun p4 p6_0 p6_1 p6_2 p7 => ?_, fun p6 p8 => ?_⟩
    · rw [FR37_Event_6]
      exact
        L.br mixed 8 _ (by kernel_rfl)
          (fun h5 =>
          L.idx mixed 8 _ (rows p4) 1 IntKind.i64 _ (by kernel_rfl) (fun h6a h6b =>
          L.ld mixed 0 9 (rows p4) (p7.toNat * 1 + 0) (.string (getR p4 p7.toNat)) (by kernel_rfl) (load1_rows (i := p7.toNat) (d := 0) rfl (toNat_lt h6a h6b) (by kernel_rfl) (Nat.le_of_ble_eq_true (by kernel_rfl)) (by kernel_rfl)) <|
          L.callO mixed (fun u7 : Int × Bool => .tuple ⟨[.int .i64 u7.1, .bool u7.2]⟩) (cR03_Undec K (getR p4 p7.toNat)) (by kernel_rfl) (fun u7 hu7 =>
          L.oidx mixed 3 1 0 _ 1 IntKind.i64 _ (by kernel_rfl) (fun h8a h8b =>
          L.ost mixed 0 (Value.int IntKind.i64 u7.fst) 1 1 (0 + (IntKind.i64.wrap (p7 - 1)).toNat * 1) (List.map (Value.int IntKind.i64) ([p6_0, p6_1, p6_2] : List Int)) [.int IntKind.i64 (selI (IntKind.i64.wrap (p7 - 1)).toNat 0 u7.fst p6_0), .int IntKind.i64 (selI (IntKind.i64.wrap (p7 - 1)).toNat 1 u7.fst p6_1), .int IntKind.i64 (selI (IntKind.i64.wrap (p7 - 1)).toNat 2 u7.fst p6_2)] 0 (by kernel_rfl) rfl rfl (lit_fit _ (IntKind.i64.wrap (p7 - 1)).toNat _ ([p6_0, p6_1, p6_2] : List Int) (by show 0 + (IntKind.i64.wrap (p7 - 1)).toNat * 1 = (IntKind.i64.wrap (p7 - 1)).toNat * 1 + 0; omega) (by have := (toNat_lt h8a h8b); simpa using this)) (lit_set _ _ (IntKind.i64.wrap (p7 - 1)).toNat _ ([p6_0, p6_1, p6_2] : List Int) (by show 0 + (IntKind.i64.wrap (p7 - 1)).toNat * 1 = (IntKind.i64.wrap (p7 - 1)).toNat * 1 + 0; omega) (by have := (toNat_lt h8a h8b); simpa using this)) <|
          L.jump mixed 8 [0, 2, 4, 6, 7] (by kernel_rfl) (IH6 p4 (selI (IntKind.i64.wrap (p7 - 1)).toNat 0 u7.fst p6_0) (selI (IntKind.i64.wrap (p7 - 1)).toNat 1 u7.fst p6_1) (selI (IntKind.i64.wrap (p7 - 1)).toNat 2 u7.fst p6_2) (IntKind.i64.wrap (p7 + 1)))))))
          (fun h5 =>
          L.frzP mixed 7 6 1 0 0 [(Value.int IntKind.i64 p6_0), (Value.int IntKind.i64 p6_1), (Value.int IntKind.i64 p6_2)] (by kernel_rfl) (by kernel_rfl) (by kernel_rfl) (by kernel_rfl) <|
          L.jumpG mixed 1 [0, 2, 6, 8] [.own 0] [] (by kernel_rfl) (by kernel_rfl) (by kernel_rfl) trivial (by kernel_rfl) (by kernel_rfl) (IH10 ((⟨p6_0, p6_1, p6_2⟩ : A3I)) 1))
    · rw [FR37_Event_10]
      exact
        L.br mixed 6 _ (by kernel_rfl)
          (fun h9 =>
          L.ld mixed 6 3 [(Value.int IntKind.i64 p6.e0), (Value.int IntKind.i64 p6.e1), (Value.int IntKind.i64 p6.e2)] 0 ((Value.int IntKind.i64 p6.e0)) (by kernel_rfl) (by kernel_rfl) <|
          L.ld mixed 2 3 [(Value.int IntKind.i64 p6.e0), (Value.int IntKind.i64 p6.e1), (Value.int IntKind.i64 p6.e2)] 1 ((Value.int IntKind.i64 p6.e1)) (by kernel_rfl) (by kernel_rfl) <|
          L.ld mixed 1 3 [(Value.int IntKind.i64 p6.e0), (Value.int IntKind.i64 p6.e1), (Value.int IntKind.i64 p6.e2)] 2 ((Value.int IntKind.i64 p6.e2)) (by kernel_rfl) (by kernel_rfl) <|
          L.callO mixed (fun u10 : Bool => .bool u10) (cR37_May K ((⟨p6.e0, p8, p6.e1, p6.e2⟩ : TEvent))) (by kernel_rfl) (fun u10 hu10 =>
          L.gu mixed 1 _ (by kernel_rfl)
            (fun h11 =>
            L.callO mixed (fun u12 : ByteArray => .string u12) (cR37_Line K ((⟨p6.e0, p8, p6.e1, p6.e2⟩ : TEvent))) (by kernel_rfl) (fun u12 hu12 =>
            L.br mixed 4 _ (by kernel_rfl)
              (fun h13 =>
              L.ret _ mixed Tryz.func8 _ (by kernel_rfl) rfl)
              (fun h13 =>
              L.jumpG mixed 8 [0, 2, 6, 8] [.own 0] [] (by kernel_rfl) (by kernel_rfl) (by kernel_rfl) trivial (by kernel_rfl) (by kernel_rfl) (IH10 p6 (IntKind.i64.wrap (p8 + 1))))))
            (fun h11 =>
            L.jumpG mixed 15 [0, 2, 6, 8] [.own 0] [] (by kernel_rfl) (by kernel_rfl) (by kernel_rfl) trivial (by kernel_rfl) (by kernel_rfl) (IH10 p6 (IntKind.i64.wrap (p8 + 1))))))
          (fun h9 =>
          L.ret _ mixed Tryz.func8 _ (by kernel_rfl) rfl)
theorem cR37_Event (K : Nat) (a0 : ByteArray) : ∀ r, FR37_Event K a0 = some r → Con Tryz.prog 8 [.string a0] (ER37_Event r) := by
  obtain ⟨IH6, IH10⟩ := lR37_Event a0 K
  refine Con.lift Tryz.func8 (by kernel_rfl) rfl (fun _ => rfl) ?_
  unfold FR37_Event
  exact
    L.callO mixed (fun u1 : List ByteArray × Bool => .tuple ⟨[lst u1.1, .bool u1.2]⟩) (cR04_Words K a0) (by kernel_rfl) (fun u1 hu1 =>
    L.gu mixed 12 _ (by kernel_rfl)
      (fun h2 =>
      L.ret _ mixed Tryz.func8 _ (by kernel_rfl) rfl)
      (fun h2 =>
      L.gu mixed 5 _ (by kernel_rfl)
        (fun h3 =>
        L.ret _ mixed Tryz.func8 _ (by kernel_rfl) rfl)
        (fun h3 =>
        L.br mixed 5 _ (by kernel_rfl)
          (fun h4 =>
          L.ret _ mixed Tryz.func8 _ (by kernel_rfl) rfl)
          (fun h4 =>
          L.jump mixed 12 [0, 2, 4, 6, 7] (by kernel_rfl) (IH6 u1.fst 0 0 0 1)))))

end

end Go.Proofs.YtdmcdijlpnbghaaGreatDoor.Lf
