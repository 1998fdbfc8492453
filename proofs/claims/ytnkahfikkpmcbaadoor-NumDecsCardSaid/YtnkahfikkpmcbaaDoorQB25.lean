/- Several texts in one: LNq, LNr, LNs. -/
import Derived.Test.YtnkahfikkpmcbaaDoorQB24
import Derived.Lib.ParseIntBCases
import Derived.Lib.ParseIntBTie
import Derived.Shelf.Strconv.ParseIntPublic10
namespace Go.Proofs.YtnkahfikkpmcbaaDoor.Lf

section
open Go Go.Dt Go.Proofs
set_option linter.unusedVariables false
set_option linter.unusedSimpArgs false

/-- Digits of a base of 10, the last one first; none of 0. -/
def decR : Nat → Nat → List Nat
  | 0, _ => []
  | f + 1, n => if 0 < n then n % 10 :: decR f (n / 10) else []
/-- At least one digit. -/
def decF (f n : Nat) : List Nat := (n % 10 :: decR f (n / 10)).reverse
theorem decR_len : ∀ f n, (decR f n).length ≤ f
  | 0, _ => Nat.le_refl _
  | f + 1, n => by
    have := decR_len f (n / 10)
    rw [decR]
    split
    · rw [List.length_cons]; omega
    · rw [List.length_nil]; omega
theorem decF_len (f n : Nat) : (decF f n).length ≤ f + 1 ∧ 1 ≤ (decF f n).length := by
  have := decR_len f (n / 10)
  unfold decF
  rw [List.length_reverse, List.length_cons]
  omega
theorem decF_small {f n : Nat} (h : n < 10) : decF f n = [n] := by
  have e : n / 10 = 0 := by omega
  have e2 : n % 10 = n := by omega
  unfold decF
  rw [e, e2]
  cases f <;> rfl
theorem decF_great {f n : Nat} (h : 10 ≤ n) : decF (f + 1) n = decF f (n / 10) ++ [n % 10] := by
  unfold decF
  rw [decR, if_pos (by omega), List.reverse_cons]
theorem decF_lt : ∀ f n d, d ∈ decF f n → d < 10
  | 0, n, d, h => by
    unfold decF at h
    simp [decR] at h
    omega
  | f + 1, n, d, h => by
    rcases Nat.lt_or_ge n 10 with g | g
    · rw [decF_small g] at h
      simp at h; omega
    · rw [decF_great g, List.mem_append, List.mem_singleton] at h
      rcases h with h | h
      · exact decF_lt f _ d h
      · omega
theorem decF_val : ∀ f n, n < 10 ^ (f + 1) → (decF f n).foldl (fun a d => a * 10 + d) 0 = n
  | 0, n, h => by
    rw [decF_small (by simpa using h)]
    simp
  | f + 1, n, h => by
    rcases Nat.lt_or_ge n 10 with g | g
    · rw [decF_small g]
      simp
    · rw [Nat.pow_succ] at h
      rw [decF_great g, List.foldl_append, decF_val f (n / 10) (by omega)]
      show n / 10 * 10 + n % 10 = n
      omega

def strD (n : Nat) : ByteArray := strU ((decF 19 n).map codeV)
def minusS : ByteArray := ByteArray.mk #[OfNat.ofNat 45]
/-- A number's text. -/
def sD (v : Int) : ByteArray := if v < 0 then minusS ++ strD v.natAbs else strD v.natAbs
theorem strD_size (n : Nat) : (strD n).size ≤ 20 ∧ 1 ≤ (strD n).size := by
  have := decF_len 19 n
  unfold strD
  rw [strU_size, List.length_map]
  omega
theorem minus_size (b : ByteArray) : (minusS ++ b).size = b.size + 1 := by
  rw [ByteArray.size_append, show minusS.size = 1 from rfl]; omega

/-! ### The program's -/
theorem lay10_succ (a0 : Int) (K : Nat) (n : Int) (acc : List U8) : Fnum_lay_3 a0 10 (K + 1) n acc = (bif decide (n > 0) then bif (10 : Int) != 0 then bif inR (n.tmod 10) digs.size then bif room (acc.length + ([⟨byteAt digs (n.tmod 10)⟩] : List U8).length) 1 then bif (10 : Int) != 0 then Fnum_lay_3 a0 10 K (IntKind.u64.wrap (n.tdiv 10)) (acc ++ [⟨byteAt digs (n.tmod 10)⟩]) else none else none else none else none else (Fslices_Reverse K acc).bind fun u => some (strU u.2)) := rfl
theorem lay10_loop (a0 : Int) : ∀ (f n K : Nat) (acc : List U8), n < 10 ^ f → n < 18446744073709551616 → f ≤ 20 → acc.length + f ≤ 40 → f + 100 ≤ K → Fnum_lay_3 a0 10 K (n : Int) acc = some (strU (acc ++ (decR f n).map codeV).reverse)
  | f, n, 0, _, _, _, _, _, hK => by omega
  | 0, n, K + 1, acc, h, hb, hf, ha, hK => by
    have : n = 0 := by omega
    subst this
    rw [lay10_succ, decide_eq_false (by decide), Fslices_Reverse_eq (by omega) (by omega)]
    simp [decR]
  | f + 1, n, K + 1, acc, h, hb, hf, ha, hK => by
    rw [Nat.pow_succ] at h
    rw [lay10_succ, decR]
    rcases Nat.eq_zero_or_pos n with rfl | hn
    · rw [decide_eq_false (by decide), Fslices_Reverse_eq (by omega) (by omega), if_neg (Nat.lt_irrefl 0)]
      simp
    · have e1 : ((n : Int).tmod 10) = ((n % 10 : Nat) : Int) := by rw [Int.tmod_eq_emod_of_nonneg (by omega)]; omega
      have hm : n % 10 < 16 := by omega
      have e2 : inR ((n % 10 : Nat) : Int) digs.size = true := by
        simp only [inR, Bool.and_eq_true, decide_eq_true_eq]
        refine ⟨by omega, ?_⟩
        show ((n % 10 : Nat) : Int) < ((16 : Nat) : Int)
        omega
      have e3 : ∀ b : U8, room (acc.length + ([b] : List U8).length) 1 = true := fun b => by
        simp only [room, Bool.and_eq_true, decide_eq_true_eq, List.length_singleton]; omega
      have e5 : ((10 : Int) != 0) = true := rfl
      have e6 : (⟨(codeV (n % 10)).n⟩ : U8) = codeV (n % 10) := rfl
      rw [decide_eq_true (by omega), if_pos hn, e1, code_eq hm, e2, e3, e5, e6]
      simp only [cond_true]
      have e4 : IntKind.u64.wrap ((n : Int).tdiv 10) = ((n / 10 : Nat) : Int) := by
        rw [Int.tdiv_eq_ediv_of_nonneg (by omega)]
        show ((n : Int) / 10) % 18446744073709551616 = _
        omega
      rw [e4, lay10_loop a0 f (n / 10) K _ (by omega) (by omega) (by omega) (by simp; omega) (by omega)]
      simp
theorem lay10_eq {n K : Nat} (hb : n < 18446744073709551616) (hK : 200 ≤ K) : Fnum_lay K (n : Int) 10 = some (strD n) := by
  have hm : n % 10 < 16 := by omega
  have e1 : ((n : Int).tmod 10) = ((n % 10 : Nat) : Int) := by rw [Int.tmod_eq_emod_of_nonneg (by omega)]; omega
  have e2 : inR ((n % 10 : Nat) : Int) digs.size = true := by
    simp only [inR, Bool.and_eq_true, decide_eq_true_eq]
    refine ⟨by omega, ?_⟩
    show ((n % 10 : Nat) : Int) < ((16 : Nat) : Int)
    omega
  have e4 : IntKind.u64.wrap ((n : Int).tdiv 10) = ((n / 10 : Nat) : Int) := by
    rw [Int.tdiv_eq_ediv_of_nonneg (by omega)]
    show ((n : Int) / 10) % 18446744073709551616 = _
    omega
  have e6 : (⟨(codeV (n % 10)).n⟩ : U8) = codeV (n % 10) := rfl
  have e : Fnum_lay K (n : Int) 10 = (bif (10 : Int) != 0 then bif inR ((n : Int).tmod 10) digs.size then bif (10 : Int) != 0 then Fnum_lay_3 (n : Int) 10 K (IntKind.u64.wrap ((n : Int).tdiv 10)) [⟨byteAt digs ((n : Int).tmod 10)⟩] else none else none else none) := rfl
  have e5 : ((10 : Int) != 0) = true := rfl
  have p19 : (10 : Nat) ^ 19 = 10000000000000000000 := by decide
  rw [e, e1, code_eq hm, e2, e4, e5, e6]
  simp only [cond_true]
  rw [lay10_loop _ 19 (n / 10) K _ (by omega) (by omega) (by omega) (by simp) (by omega)]
  unfold strD decF
  simp
theorem Dec_eq {K : Nat} {v : Int} (h1 : -9223372036854775808 ≤ v) (h2 : v ≤ 9223372036854775807) (hK : 200 ≤ K) : Fnum_Dec K v = some (sD v) := by
  unfold Fnum_Dec sD
  rcases Decidable.em (v < 0) with g | g
  · have e : IntKind.u64.wrap (0 - IntKind.u64.wrap v) = (v.natAbs : Int) := by
      show (0 - v % 18446744073709551616) % 18446744073709551616 = _
      omega
    have hs := strD_size v.natAbs
    rw [decide_eq_true g, e, lay10_eq (by omega) hK, if_pos g]
    simp only [cond_true, Option.bind_some]
    rw [cat_ok (show (ByteArray.mk #[OfNat.ofNat 45]).size + (strD v.natAbs).size ≤ 1000000 by
      have : (ByteArray.mk #[OfNat.ofNat 45]).size = 1 := rfl
      omega)]
    rfl
  · have e : IntKind.u64.wrap v = (v.natAbs : Int) := by
      show v % 18446744073709551616 = _
      omega
    rw [decide_eq_false g, e, lay10_eq (by omega) hK, if_neg g]
    rfl

/-! ### The reference's -/
theorem u8code {d : Nat} (h : d < 10) : (⟨IntKind.u8.wrap (IntKind.i64.wrap (48 + (d : Int)))⟩ : U8) = codeV d := by
  unfold codeV
  rw [if_neg (by omega), wrap_i64_of (by omega) (by omega)]
  congr 1
  show (48 + (d : Int)) % 256 = _
  omega
theorem R03_Dec_pos : ∀ (f n K : Nat), n < 10 ^ (f + 1) → n ≤ 9223372036854775807 → f < K → f ≤ 1000 → FR03_Dec K (n : Int) = some (strU ((decF f n).map codeV))
  | f, n, 0, _, _, h, _ => absurd h (Nat.not_lt_zero _)
  | f, n, K + 1, h, hb, hK, hf => by
    have g0 : decide ((n : Int) < 0) = false := decide_eq_false (by omega)
    rcases Nat.lt_or_ge n 10 with g | g
    · rw [FR03_Dec, g0, decide_eq_true (show (n : Int) < 10 by omega), decF_small g, u8code g]
      rfl
    · cases f with
      | zero => rw [Nat.zero_add, Nat.pow_one] at h; omega
      | succ f =>
        have hl := decF_len f (n / 10)
        rw [Nat.pow_succ] at h
        have e1 : ((n : Int).tmod 10) = ((n % 10 : Nat) : Int) := by rw [Int.tmod_eq_emod_of_nonneg (by omega)]; omega
        have e3 : IntKind.i64.wrap ((n : Int).tdiv 10) = ((n / 10 : Nat) : Int) := by
          rw [Int.tdiv_eq_ediv_of_nonneg (by omega), wrap_i64_of (by omega) (by omega)]; omega
        have ok : ∀ b : U8, catOk (strU ((decF f (n / 10)).map codeV)) (strU [b]) = true := fun b => cat_ok (by rw [strU_size, strU_size, List.length_map]; simp; omega)
        rw [FR03_Dec, g0, decide_eq_false (show ¬ (n : Int) < 10 by omega), e3, R03_Dec_pos f (n / 10) K (by omega) (by omega) (by omega) (by omega), decF_great g]
        simp only [cond_false, Option.bind_some]
        show (bif catOk _ (strU [⟨IntKind.u8.wrap (IntKind.i64.wrap (48 + (n : Int).tmod 10))⟩]) then _ else none) = _
        rw [e1, u8code (by omega), ok]
        rw [cond_true, List.map_append, strU_append]
        rfl
theorem R03_Dec_neg : ∀ (f n K : Nat), n < 10 ^ (f + 1) → 1 ≤ n → n ≤ 9223372036854775808 → f < K → f ≤ 1000 → FR03_Dec K (-(n : Int)) = some (minusS ++ strU ((decF f n).map codeV))
  | f, n, 0, _, _, _, h, _ => absurd h (Nat.not_lt_zero _)
  | f, n, K + 1, h, h1, hb, hK, hf => by
    have g0 : decide (-(n : Int) < 0) = true := decide_eq_true (by omega)
    rcases Nat.lt_or_ge n 10 with g | g
    · have e : (48 - -(n : Int)) = 48 + (n : Int) := by omega
      rw [FR03_Dec, g0, decide_eq_true (show -(n : Int) > -10 by omega), decF_small g, e, u8code g]
      rfl
    · cases f with
      | zero => rw [Nat.zero_add, Nat.pow_one] at h; omega
      | succ f =>
        have hl := decF_len f (n / 10)
        rw [Nat.pow_succ] at h
        have e1 : ((-(n : Int)).tmod 10) = -((n % 10 : Nat) : Int) := by rw [Int.neg_tmod, Int.tmod_eq_emod_of_nonneg (by omega)]; omega
        have e3 : IntKind.i64.wrap ((-(n : Int)).tdiv 10) = -((n / 10 : Nat) : Int) := by
          rw [Int.neg_tdiv, Int.tdiv_eq_ediv_of_nonneg (by omega), wrap_i64_of (by omega) (by omega)]; omega
        have e4 : 48 - -((n % 10 : Nat) : Int) = 48 + ((n % 10 : Nat) : Int) := by omega
        have ok : ∀ b : U8, catOk (minusS ++ strU ((decF f (n / 10)).map codeV)) (strU [b]) = true := fun b => cat_ok (by rw [minus_size, strU_size, strU_size, List.length_map]; simp; omega)
        rw [FR03_Dec, g0, decide_eq_false (show ¬ -(n : Int) > -10 by omega), e3, R03_Dec_neg f (n / 10) K (by omega) (by omega) (by omega) (by omega) (by omega), decF_great g]
        simp only [cond_false, cond_true, Option.bind_some]
        show (bif catOk _ (strU [⟨IntKind.u8.wrap (IntKind.i64.wrap (48 - (-(n : Int)).tmod 10))⟩]) then _ else none) = _
        rw [e1, e4, u8code (by omega), ok]
        rw [cond_true, List.map_append, strU_append, ByteArray.append_assoc]
        rfl
theorem R03_Dec_eq {K : Nat} {v : Int} (h1 : -9223372036854775808 ≤ v) (h2 : v ≤ 9223372036854775807) (hK : 20 ≤ K) : FR03_Dec K v = some (sD v) := by
  have p : (10 : Nat) ^ (19 + 1) = 100000000000000000000 := by decide
  unfold sD
  rcases Decidable.em (v < 0) with g | g
  · have e : v = -((v.natAbs : Nat) : Int) := by omega
    rw [if_pos g]
    conv => lhs; rw [e]
    exact R03_Dec_neg 19 v.natAbs K (by omega) (by omega) (by omega) (by omega) (by omega)
  · have e : v = ((v.natAbs : Nat) : Int) := by omega
    rw [if_neg g]
    conv => lhs; rw [e]
    exact R03_Dec_pos 19 v.natAbs K (by omega) (by omega) (by omega) (by omega)

end

section
open Go Go.Dt Go.Proofs
set_option linter.unusedVariables false
set_option linter.unusedSimpArgs false

/-- A number's text, its bytes as they are. -/
def cs (v : Int) : List U8 := if v < 0 then ⟨45⟩ :: (decF 19 v.natAbs).map codeV else (decF 19 v.natAbs).map codeV
theorem sD_cs (v : Int) : sD v = strU (cs v) := by
  unfold sD cs
  split
  · rw [show (⟨45⟩ : U8) :: (decF 19 v.natAbs).map codeV = [⟨45⟩] ++ (decF 19 v.natAbs).map codeV from rfl, strU_append]
    rfl
  · rfl
theorem cs_len (v : Int) : (cs v).length ≤ 21 := by
  have := decF_len 19 v.natAbs
  unfold cs
  split <;> simp <;> omega

/-! ### The library's -/
theorem code_u8 {d : Nat} (h : d < 10) : (UInt8.ofNat (codeV d).n.toNat).toNat = 48 + d := by
  unfold codeV
  rw [if_neg (by omega)]
  have : (48 + (d : Int)).toNat = 48 + d := by omega
  rw [this]
  have : (UInt8.ofNat (48 + d)).toNat = (48 + d) % 256 := by simp
  omega
theorem fold_ge : ∀ (ds : List Nat) (acc : Nat), acc ≤ ds.foldl (fun a d => a * 10 + d) acc
  | [], _ => Nat.le_refl _
  | d :: ds, acc => by
    rw [List.foldl_cons]
    have := fold_ge ds (acc * 10 + d)
    omega
theorem uint_ok : ∀ (ds : List Nat) (acc : Nat), (∀ d, d ∈ ds → d < 10) → ds.foldl (fun a d => a * 10 + d) acc ≤ 9223372036854775808 →
    Lib.parseUintM (2 ^ 64 - 1) acc (ds.map fun d => UInt8.ofNat (codeV d).n.toNat) = .ok (ds.foldl (fun a d => a * 10 + d) acc)
  | [], acc, _, _ => rfl
  | d :: ds, acc, hd, hv => by
    have h := hd d (by simp)
    rw [List.foldl_cons] at hv ⊢
    have := fold_ge ds (acc * 10 + d)
    rw [List.map_cons, Lib.parseUintM, code_u8 h, if_pos (by omega), if_neg (by omega), if_neg (by omega), show 48 + d - 48 = d by omega]
    exact uint_ok ds _ (fun x hx => hd x (by simp [hx])) hv
theorem sD_list (v : Int) : (sD v).data.toList = (cs v).map fun b => UInt8.ofNat b.n.toNat := by
  rw [sD_cs, strU_data]
theorem parse_sD {v : Int} (h1 : -9223372036854775808 ≤ v) (h2 : v ≤ 9223372036854775807) : Lib.parseIntB 64 (sD v).data.toList = .ok v := by
  have p : (10 : Nat) ^ (19 + 1) = 100000000000000000000 := by decide
  have p63 : (2 : Nat) ^ (64 - 1) = 9223372036854775808 := by decide
  have hval := decF_val 19 v.natAbs (by omega)
  have hlt := decF_lt 19 v.natAbs
  have hlen := decF_len 19 v.natAbs
  have hu : Lib.parseUintB 64 (((decF 19 v.natAbs).map codeV).map fun b => UInt8.ofNat b.n.toNat) = .ok v.natAbs := by
    have := uint_ok (decF 19 v.natAbs) 0 hlt (by rw [hval]; omega)
    rw [hval] at this
    unfold Lib.parseUintB
    rw [if_neg (by
      intro e
      have := congrArg List.length e
      simp at this
      rw [this] at hlen
      simp at hlen), List.map_map]
    exact this
  rw [sD_list]
  unfold cs
  rcases Decidable.em (v < 0) with g | g
  · rw [if_pos g, List.map_cons]
    show Lib.parseIntB 64 (45 :: _) = _
    rw [Lib.parseIntB_minus, hu]
    show (if 2 ^ (64 - 1) < v.natAbs then Lib.NumEnd.range else .ok (-(v.natAbs : Int))) = _
    rw [if_neg (by rw [p63]; omega)]
    congr 1
    omega
  · rw [if_neg g]
    cases hl : decF 19 v.natAbs with
    | nil => rw [hl] at hlen; simp at hlen
    | cons d ds =>
      have hd := hlt d (by rw [hl]; simp)
      rw [hl] at hu
      rw [List.map_cons, List.map_cons] at hu ⊢
      rw [Lib.parseIntB_plain _ _ _ (by rw [code_u8 hd]; omega) (by rw [code_u8 hd]; omega), hu]
      show (if 2 ^ (64 - 1) ≤ v.natAbs then Lib.NumEnd.range else .ok (v.natAbs : Int)) = _
      rw [if_neg (by rw [p63]; omega)]
      congr 1
      omega

/-! ### The reference's -/
theorem undec_step {s : ByteArray} {K i p d : Nat} (hi : i < s.size) (hs : s.size ≤ 100) (hd : d < 10) (hb : byteAt s (i : Int) = 48 + (d : Int)) (hp : p * 10 + d < 18446744073709551616) :
    FR03_Undec_6 s (K + 1) (p : Int) (i : Int) = FR03_Undec_6 s K ((p * 10 + d : Nat) : Int) ((i + 1 : Nat) : Int) := by
  have e1 : decide ((i : Int) < (s.size : Int)) = true := decide_eq_true (by omega)
  have e2 : inR (i : Int) s.size = true := by
    simp only [inR, Bool.and_eq_true, decide_eq_true_eq]
    omega
  have e3 : IntKind.i64.wrap ((i : Int) + 1) = ((i + 1 : Nat) : Int) := by rw [wrap_i64_of (by omega) (by omega)]; omega
  have e4 : IntKind.u64.wrap (IntKind.u64.wrap (IntKind.u64.wrap ((p : Int) * 10) + IntKind.u64.wrap (48 + (d : Int))) - 48) = ((p * 10 + d : Nat) : Int) := by
    show ((((p : Int) * 10) % 18446744073709551616 + (48 + (d : Int)) % 18446744073709551616) % 18446744073709551616 - 48) % 18446744073709551616 = _
    omega
  rw [FR03_Undec_6, e1, hb, e2, e3, e4, decide_eq_false (show ¬ (48 + (d : Int)) < 48 by omega), decide_eq_false (show ¬ (48 + (d : Int)) > 57 by omega)]
  simp only [cond_true, cond_false]
  cases h0 : ((i : Int) == 0) with
  | false => rfl
  | true =>
    have : i = 0 := by have := eq_of_beq h0; omega
    subst this
    rw [show byteAt s 0 = 48 + (d : Int) from hb]
    have : ((48 + (d : Int)) == 45) = false := by rw [beq_eq_false_iff_ne]; omega
    rw [this]
    rfl
theorem undec_run {s : ByteArray} {xs : List U8} (hs : s = strU xs) (hl : xs.length ≤ 100) : ∀ (ds : List Nat) (i p K : Nat), (∀ d, d ∈ ds → d < 10) → xs.drop i = ds.map codeV → i ≤ xs.length → ds.foldl (fun a d => a * 10 + d) p ≤ 9223372036854775808 →
    FR03_Undec_6 s (K + ds.length) (p : Int) (i : Int) = FR03_Undec_6 s K ((ds.foldl (fun a d => a * 10 + d) p : Nat) : Int) (xs.length : Int)
  | [], i, p, K, _, hdr, hi, _ => by
    have : xs.length - i = 0 := by rw [← List.length_drop, hdr]; rfl
    have : i = xs.length := by omega
    subst this
    rfl
  | d :: ds, i, p, K, hd, hdr, hi, hv => by
    have h := hd d (by simp)
    rw [List.foldl_cons] at hv ⊢
    have hge := fold_ge ds (p * 10 + d)
    have hlen : xs.length - i = ds.length + 1 := by rw [← List.length_drop, hdr]; simp
    have hx : xs[i]? = some (codeV d) := by
      have := congrArg (fun l => l[0]?) hdr
      simpa using this
    have hb : byteAt s (i : Int) = 48 + (d : Int) := by
      rw [hs, byte_strU hx (code_b (by omega))]
      unfold codeV
      rw [if_neg (by omega)]
    have hsz : s.size = xs.length := by rw [hs, strU_size]
    rw [show K + (d :: ds).length = K + ds.length + 1 from rfl, undec_step (by omega) (by omega) h hb (by omega)]
    refine undec_run hs hl ds (i + 1) (p * 10 + d) K (fun x hx => hd x (by simp [hx])) ?_ (by omega) hv
    have := congrArg List.tail hdr
    rw [List.tail_drop] at this
    simpa using this
theorem Undec_sD {K : Nat} {v : Int} (h1 : -9223372036854775808 ≤ v) (h2 : v ≤ 9223372036854775807) (hK : 200 ≤ K) : FR03_Undec K (sD v) = some (v, true) := by
  have p : (10 : Nat) ^ (19 + 1) = 100000000000000000000 := by decide
  have hval := decF_val 19 v.natAbs (by omega)
  have hlt := decF_lt 19 v.natAbs
  have hlen := decF_len 19 v.natAbs
  have hl := cs_len v
  have hsz : (sD v).size = (cs v).length := by rw [sD_cs, strU_size]
  -- at the end
  have fin : ∀ (K : Nat) (q : Int), 30 ≤ K → q = (v.natAbs : Int) → byteAt (sD v) 0 = (if v < 0 then 45 else byteAt (sD v) 0) → (¬ v < 0 → (byteAt (sD v) 0 == 45) = false) → FR03_Undec_6 (sD v) K q ((cs v).length : Int) = some (v, true) := fun K q hK hq hb0 hb1 => by
    obtain ⟨K, rfl⟩ : ∃ k, K = k + 1 := ⟨K - 1, by omega⟩
    have e1 : decide (((cs v).length : Int) < ((sD v).size : Int)) = false := decide_eq_false (by omega)
    rw [FR03_Undec_6, e1]
    simp only [cond_false]
    rcases Decidable.em (v < 0) with g | g
    · rw [if_pos g] at hb0
      have e2 : IntKind.i64.wrap (0 - IntKind.i64.wrap q) = v := by
        rw [IntKind.wrap_i64, IntKind.wrap_i64]
        omega
      rw [hb0, e2, R03_Dec_eq h1 h2 (by omega)]
      simp
    · have e2 : IntKind.i64.wrap q = v := by
        rw [wrap_i64_of (by omega) (by omega)]; omega
      rw [hb1 g, e2, R03_Dec_eq h1 h2 (by omega)]
      simp
  have nz : ((((sD v).size : Nat) : Int) == 0) = false := by
    rw [beq_eq_false_iff_ne, hsz]
    unfold cs
    split <;> simp only [List.length_cons, List.length_map] <;> omega
  have le20 : (sD v).size ≤ 20 := by
    have : (decF 19 v.natAbs).length ≤ 19 := by
      have p18 : (10 : Nat) ^ (18 + 1) = 10000000000000000000 := by decide
      have key : ∀ f n, n < 10 ^ (f + 1) → (decF f n).length ≤ f + 1 := fun f n _ => (decF_len f n).1
      have eqf : ∀ f n, n < 10 ^ (f + 1) → decF (f + 1) n = decF f n := by
        intro f
        induction f with
        | zero => intro n h; rw [decF_small (by simpa using h), decF_small (by simpa using h)]
        | succ f ih =>
          intro n h
          rcases Nat.lt_or_ge n 10 with g | g
          · rw [decF_small g, decF_small g]
          · rw [Nat.pow_succ] at h
            rw [decF_great g, decF_great g, ih (n / 10) (by omega)]
      rw [eqf 18 v.natAbs (by omega)]
      exact key 18 _ (by omega)
    rw [hsz]
    unfold cs
    split <;> simp <;> omega
  have r0 : inR 0 (sD v).size = true := by
    have : (sD v).size ≠ 0 := fun e => by rw [e] at nz; cases nz
    simp only [inR, Bool.and_eq_true, decide_eq_true_eq]
    omega
  unfold FR03_Undec
  rw [nz, decide_eq_false (show ¬ (((sD v).size : Nat) : Int) > 20 by omega), r0]
  simp only [cond_true, cond_false]
  rcases Decidable.em (v < 0) with g | g
  · have hcs : cs v = ⟨45⟩ :: (decF 19 v.natAbs).map codeV := by unfold cs; rw [if_pos g]
    have hb0 : byteAt (sD v) 0 = 45 := by
      rw [sD_cs]
      exact byte_strU (i := 0) (b := ⟨45⟩) (by rw [hcs]; rfl) (by simp)
    obtain ⟨k, rfl⟩ : ∃ k, K = (k + (decF 19 v.natAbs).length) + 1 := ⟨K - 1 - (decF 19 v.natAbs).length, by omega⟩
    have e1 : decide ((0 : Int) < ((sD v).size : Int)) = true := decide_eq_true (by
      have : (sD v).size ≠ 0 := fun e => by rw [e] at nz; cases nz
      omega)
    rw [FR03_Undec_6, e1, hb0]
    simp only [cond_true]
    show FR03_Undec_6 (sD v) (k + (decF 19 v.natAbs).length) 0 (IntKind.i64.wrap (0 + 1)) = _
    have := undec_run (sD_cs v) (by omega) (decF 19 v.natAbs) 1 0 k hlt (by rw [hcs]; rfl) (by rw [hcs]; simp) (by rw [hval]; omega)
    rw [hval] at this
    refine Eq.trans this (fin k _ (by omega) rfl (by rw [if_pos g]; exact hb0) (fun h => absurd g h))
  · have hcs : cs v = (decF 19 v.natAbs).map codeV := by unfold cs; rw [if_neg g]
    obtain ⟨k, rfl⟩ : ∃ k, K = k + (decF 19 v.natAbs).length := ⟨K - (decF 19 v.natAbs).length, by omega⟩
    have := undec_run (sD_cs v) (by omega) (decF 19 v.natAbs) 0 0 k hlt (by rw [hcs]; rfl) (by omega) (by rw [hval]; omega)
    rw [hval] at this
    refine Eq.trans this (fin k _ (by omega) rfl (by rw [if_neg g]) (fun _ => ?_))
    cases hl : decF 19 v.natAbs with
    | nil => rw [hl] at hlen; simp at hlen
    | cons d ds =>
      have hd := hlt d (by rw [hl]; simp)
      have hb : byteAt (sD v) 0 = (codeV d).n := by
        rw [sD_cs]
        exact byte_strU (i := 0) (b := codeV d) (by rw [hcs, hl]; rfl) (code_b (by omega))
      rw [hb, beq_eq_false_iff_ne]
      unfold codeV
      rw [if_neg (by omega)]
      show 48 + (d : Int) ≠ 45
      omega
/-- Whatever is read: it ends; what is read is the text of what is told. -/
theorem undec_any {s : ByteArray} (hs : s.size ≤ 100) : ∀ (m i K : Nat) (p : Int), i + m = s.size → m + 30 ≤ K → ∃ r, FR03_Undec_6 s K p (i : Int) = some r ∧ (r.2 = true → s = sD r.1 ∧ -9223372036854775808 ≤ r.1 ∧ r.1 ≤ 9223372036854775807)
  | 0, i, K, p, h, hK => by
    obtain ⟨K, rfl⟩ : ∃ k, K = k + 1 := ⟨K - 1, by omega⟩
    have key : ∀ x : Int, -9223372036854775808 ≤ x → x ≤ 9223372036854775807 → ∃ r, ((FR03_Dec K x).bind fun u => some (x, u.toList == s.toList)) = some r ∧ (r.2 = true → s = sD r.1 ∧ -9223372036854775808 ≤ r.1 ∧ r.1 ≤ 9223372036854775807) := fun x x1 x2 => by
      rw [R03_Dec_eq x1 x2 (by omega)]
      refine ⟨_, rfl, fun h => ⟨?_, x1, x2⟩⟩
      have h2 : (sD x).toList = s.toList := eq_of_beq h
      rw [ByteArray.toList_eq, ByteArray.toList_eq] at h2
      exact (ByteArray.ext (Array.toList_inj.1 h2)).symm
    have wb : ∀ x : Int, -9223372036854775808 ≤ IntKind.i64.wrap x ∧ IntKind.i64.wrap x ≤ 9223372036854775807 := fun x => by
      rw [IntKind.wrap_i64]
      omega
    rw [FR03_Undec_6, decide_eq_false (show ¬ (i : Int) < (s.size : Int) by omega)]
    simp only [cond_false]
    cases (byteAt s 0 == 45) with
    | true => exact key _ (wb _).1 (wb _).2
    | false => exact key _ (wb _).1 (wb _).2
  | m + 1, i, K, p, h, hK => by
    obtain ⟨K, rfl⟩ : ∃ k, K = k + 1 := ⟨K - 1, by omega⟩
    have ih := fun p => undec_any hs m (i + 1) K p (by omega) (by omega)
    have e2 : inR (i : Int) s.size = true := by
      simp only [inR, Bool.and_eq_true, decide_eq_true_eq]
      omega
    have e3 : IntKind.i64.wrap ((i : Int) + 1) = ((i + 1 : Nat) : Int) := by rw [wrap_i64_of (by omega) (by omega)]; omega
    have none : ∃ r : Int × Bool, some ((0 : Int), false) = some r ∧ (r.2 = true → s = sD r.1 ∧ -9223372036854775808 ≤ r.1 ∧ r.1 ≤ 9223372036854775807) := ⟨_, rfl, fun h => by cases h⟩
    rw [FR03_Undec_6, decide_eq_true (show (i : Int) < (s.size : Int) by omega), e2, e3]
    cases ((i : Int) == 0) <;> cases (byteAt s 0 == 45) <;> cases decide (byteAt s (i : Int) < 48) <;> cases decide (byteAt s (i : Int) > 57) <;> simp only [cond_true, cond_false] <;> first | exact ih _ | exact none
/-- What the program's reading of a text tells. -/
def U (s : ByteArray) : Int × Int := match Lib.parseIntB 64 s.data.toList with
  | .ok v => if sD v = s then (v, 0) else (0, 6)
  | _ => (0, 6)
theorem U_sD {v : Int} (h1 : -9223372036854775808 ≤ v) (h2 : v ≤ 9223372036854775807) : U (sD v) = (v, 0) := by
  unfold U
  rw [parse_sD h1 h2]
  simp
theorem Undec_U {s : ByteArray} (hs : s.size ≤ 100) {K : Nat} (hK : 200 ≤ K) : ∃ y, FR03_Undec K s = some y ∧ U s = hexR y := by
  have tot : ∃ r, FR03_Undec K s = some r ∧ (r.2 = true → s = sD r.1 ∧ -9223372036854775808 ≤ r.1 ∧ r.1 ≤ 9223372036854775807) := by
    have none : ∃ r : Int × Bool, some ((0 : Int), false) = some r ∧ (r.2 = true → s = sD r.1 ∧ -9223372036854775808 ≤ r.1 ∧ r.1 ≤ 9223372036854775807) := ⟨_, rfl, fun h => by cases h⟩
    unfold FR03_Undec
    cases h0 : ((s.size : Int) == 0) with
    | true => exact none
    | false =>
      have h0' : s.size ≠ 0 := fun e => by rw [e] at h0; cases h0
      have r0 : inR 0 s.size = true := by
        simp only [inR, Bool.and_eq_true, decide_eq_true_eq]
        omega
      rw [r0]
      cases decide ((s.size : Int) > 20) with
      | true => exact none
      | false => exact undec_any hs s.size 0 K 0 (by omega) (by omega)
  obtain ⟨⟨y, is⟩, hr, hy⟩ := tot
  refine ⟨_, hr, ?_⟩
  cases is with
  | true =>
    obtain ⟨he, b1, b2⟩ := hy rfl
    rw [he]
    exact U_sD b1 b2
  | false =>
    show U s = (0, 6)
    unfold U
    cases hp : Lib.parseIntB 64 s.data.toList with
    | ok v =>
      simp only
      split
      · rename_i hv
        have hb := Lib.parseIntB_bounds hp
        have := Undec_sD (K := K) (v := v) (by omega) (by omega) hK
        rw [hv, hr] at this
        cases this
      · rfl
    | range => rfl
    | _ => rfl

end

section
open Go Go.Dt Go.Proofs Go.Shelf
set_option linter.unusedVariables false

def laysPI_ren : Go.Shelf.Ren := ⟨fun | 174 => 15 | 247 => 19 | 245 => 20 | 287 => 29 | 279 => 30 | 280 => 31 | 281 => 32 | 282 => 33 | 321 => 40 | 322 => 41 | 316 => 42 | 171 => 44 | 205 => 43 | 243 => 47 | 246 => 48 | 283 => 49 | 284 => 50 | 285 => 51 | 286 => 52 | 129 => 54 | 317 => 53 | 318 => 55 | 319 => 56 | 320 => 57 | 337 => 58 | 338 => 59 | n => n, fun | 9 => 9 | 3 => 3 | 2 => 2 | 75 => 36 | 85 => 37 | 4 => 4 | 167 => 58 | 5 => 5 | 53 => 40 | 175 => 59 | 46 => 46 | 168 => 61 | 37 => 41 | 0 => 0 | 210 => 74 | 21 => 21 | 127 => 69 | 145 => 81 | 143 => 79 | 171 => 83 | 173 => 86 | 212 => 89 | 51 => 64 | 20 => 20 | 213 => 90 | 232 => 94 | 233 => 95 | 80 => 57 | n => n, fun | 15 => 0 | 16 => 1 | 17 => 3 | 18 => 4 | 19 => 5 | n => n⟩
theorem laysPI : Go.Proofs.LaysC.n174 Tryd.prog laysPI_ren := {
  mixed := by kernel_rfl
  f129 := Tryd.func54.trans (congrArg some (by kernel_rfl))
  f171 := Tryd.func44.trans (congrArg some (by kernel_rfl))
  f174 := Tryd.func15.trans (congrArg some (by kernel_rfl))
  f205 := Tryd.func43.trans (congrArg some (by kernel_rfl))
  f243 := Tryd.func47.trans (congrArg some (by kernel_rfl))
  f245 := Tryd.func20.trans (congrArg some (by kernel_rfl))
  f246 := Tryd.func48.trans (congrArg some (by kernel_rfl))
  f247 := Tryd.func19.trans (congrArg some (by kernel_rfl))
  f279 := Tryd.func30.trans (congrArg some (by kernel_rfl))
  f280 := Tryd.func31.trans (congrArg some (by kernel_rfl))
  f281 := Tryd.func32.trans (congrArg some (by kernel_rfl))
  f282 := Tryd.func33.trans (congrArg some (by kernel_rfl))
  f283 := Tryd.func49.trans (congrArg some (by kernel_rfl))
  f284 := Tryd.func50.trans (congrArg some (by kernel_rfl))
  f285 := Tryd.func51.trans (congrArg some (by kernel_rfl))
  f286 := Tryd.func52.trans (congrArg some (by kernel_rfl))
  f287 := Tryd.func29.trans (congrArg some (by kernel_rfl))
  f316 := Tryd.func42.trans (congrArg some (by kernel_rfl))
  f317 := Tryd.func53.trans (congrArg some (by kernel_rfl))
  f318 := Tryd.func55.trans (congrArg some (by kernel_rfl))
  f319 := Tryd.func56.trans (congrArg some (by kernel_rfl))
  f320 := Tryd.func57.trans (congrArg some (by kernel_rfl))
  f321 := Tryd.func40.trans (congrArg some (by kernel_rfl))
  f322 := Tryd.func41.trans (congrArg some (by kernel_rfl))
  f337 := Tryd.func58.trans (congrArg some (by kernel_rfl))
  f338 := Tryd.func59.trans (congrArg some (by kernel_rfl))
  t0 := Tryd.underlying0
  a0 := Tryd.isAgg0
  z0 := Tryd.sizeOf0
  v0 := Tryd.zeroValue0
  t2 := Tryd.underlying2
  a2 := Tryd.isAgg2
  z2 := Tryd.sizeOf2
  v2 := Tryd.zeroValue2
  t3 := Tryd.underlying3
  a3 := Tryd.isAgg3
  z3 := Tryd.sizeOf3
  v3 := Tryd.zeroValue3
  t4 := Tryd.underlying4
  a4 := Tryd.isAgg4
  z4 := Tryd.sizeOf4
  v4 := Tryd.zeroValue4
  t5 := Tryd.underlying5
  a5 := Tryd.isAgg5
  z5 := Tryd.sizeOf5
  v5 := Tryd.zeroValue5
  t9 := Tryd.underlying9
  a9 := Tryd.isAgg9
  z9 := Tryd.sizeOf9
  v9 := Tryd.zeroValue9
  t20 := Tryd.underlying20
  a20 := Tryd.isAgg20
  z20 := Tryd.sizeOf20
  v20 := Tryd.zeroValue20
  t21 := Tryd.underlying21
  a21 := Tryd.isAgg21
  z21 := Tryd.sizeOf21
  v21 := Tryd.zeroValue21
  t37 := Tryd.underlying41
  a37 := Tryd.isAgg41
  z37 := Tryd.sizeOf41
  v37 := Tryd.zeroValue41
  t46 := Tryd.underlying46
  a46 := Tryd.isAgg46
  z46 := Tryd.sizeOf46
  v46 := Tryd.zeroValue46
  t51 := Tryd.underlying64
  a51 := Tryd.isAgg64
  z51 := Tryd.sizeOf64
  v51 := Tryd.zeroValue64
  t53 := Tryd.underlying40
  a53 := Tryd.isAgg40
  z53 := Tryd.sizeOf40
  v53 := Tryd.zeroValue40
  t75 := Tryd.underlying36
  a75 := Tryd.isAgg36
  z75 := Tryd.sizeOf36
  v75 := Tryd.zeroValue36
  t85 := Tryd.underlying37
  a85 := Tryd.isAgg37
  z85 := Tryd.sizeOf37
  v85 := Tryd.zeroValue37
  t127 := Tryd.underlying69
  a127 := Tryd.isAgg69
  z127 := Tryd.sizeOf69
  v127 := Tryd.zeroValue69
  t143 := Tryd.underlying79
  a143 := Tryd.isAgg79
  z143 := Tryd.sizeOf79
  v143 := Tryd.zeroValue79
  t145 := Tryd.underlying81
  a145 := Tryd.isAgg81
  z145 := Tryd.sizeOf81
  v145 := Tryd.zeroValue81
  t167 := Tryd.underlying58
  a167 := Tryd.isAgg58
  z167 := Tryd.sizeOf58
  v167 := Tryd.zeroValue58
  t168 := Tryd.underlying61
  a168 := Tryd.isAgg61
  z168 := Tryd.sizeOf61
  v168 := Tryd.zeroValue61
  t171 := Tryd.underlying83
  a171 := Tryd.isAgg83
  z171 := Tryd.sizeOf83
  v171 := Tryd.zeroValue83
  t173 := Tryd.underlying86
  a173 := Tryd.isAgg86
  z173 := Tryd.sizeOf86
  v173 := Tryd.zeroValue86
  t175 := Tryd.underlying59
  a175 := Tryd.isAgg59
  z175 := Tryd.sizeOf59
  v175 := Tryd.zeroValue59
  t210 := Tryd.underlying74
  a210 := Tryd.isAgg74
  z210 := Tryd.sizeOf74
  v210 := Tryd.zeroValue74
  t212 := Tryd.underlying89
  a212 := Tryd.isAgg89
  z212 := Tryd.sizeOf89
  v212 := Tryd.zeroValue89
  t213 := Tryd.underlying90
  a213 := Tryd.isAgg90
  z213 := Tryd.sizeOf90
  t232 := Tryd.underlying94
  a232 := Tryd.isAgg94
  z232 := Tryd.sizeOf94
  v232 := Tryd.zeroValue94
  t233 := Tryd.underlying95
  a233 := Tryd.isAgg95
  z233 := Tryd.sizeOf95
  v233 := Tryd.zeroValue95
  g15 := by kernel_rfl
  g16 := by kernel_rfl
  g17 := by kernel_rfl
  g18 := by kernel_rfl
  g19 := by kernel_rfl
  t80 := Tryd.underlying57
  a80 := Tryd.isAgg57
  z80 := Tryd.sizeOf57
  v80 := Tryd.zeroValue57
  i0 := by kernel_rfl
  i2 := by kernel_rfl
  i3 := by kernel_rfl
  i4 := by kernel_rfl
  i5 := by kernel_rfl
  i9 := by kernel_rfl
  i20 := by kernel_rfl
  i21 := by kernel_rfl
  i37 := by kernel_rfl
  i46 := by kernel_rfl
  i51 := by kernel_rfl
  i53 := by kernel_rfl
  i75 := by kernel_rfl
  i80 := by kernel_rfl
  i85 := by kernel_rfl
  i127 := by kernel_rfl
  i143 := by kernel_rfl
  i145 := by kernel_rfl
  i167 := by kernel_rfl
  i168 := by kernel_rfl
  i171 := by kernel_rfl
  i173 := by kernel_rfl
  i175 := by kernel_rfl
  i210 := by kernel_rfl
  i212 := by kernel_rfl
  i232 := by kernel_rfl
  i233 := by kernel_rfl
  m15 := by kernel_rfl
  m16 := by kernel_rfl
  m17 := by kernel_rfl
  m18 := by kernel_rfl
  m19 := by kernel_rfl
  c0 := by kernel_rfl
  c2 := by kernel_rfl
  c3 := by kernel_rfl
  c4 := by kernel_rfl
  c5 := by kernel_rfl
  c9 := by kernel_rfl
  c20 := by kernel_rfl
  c21 := by kernel_rfl
  c37 := by kernel_rfl
  c46 := by kernel_rfl
  c51 := by kernel_rfl
  c53 := by kernel_rfl
  c75 := by kernel_rfl
  c80 := by kernel_rfl
  c85 := by kernel_rfl
  c127 := by kernel_rfl
  c143 := by kernel_rfl
  c145 := by kernel_rfl
  c167 := by kernel_rfl
  c168 := by kernel_rfl
  c171 := by kernel_rfl
  c173 := by kernel_rfl
  c175 := by kernel_rfl
  c210 := by kernel_rfl
  c212 := by kernel_rfl
  c213 := by kernel_rfl
  c232 := by kernel_rfl
  c233 := by kernel_rfl }

end

end Go.Proofs.YtnkahfikkpmcbaaDoor.Lf
