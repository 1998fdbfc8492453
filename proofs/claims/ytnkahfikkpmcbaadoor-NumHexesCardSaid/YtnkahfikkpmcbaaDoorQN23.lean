/- Several texts in one: LNi, LNj, LNk. -/
import Derived.Test.YtnkahfikkpmcbaaDoorQN22
namespace Go.Proofs.YtnkahfikkpmcbaaDoor.Lf

section
open Go Go.Dt Go.Proofs
set_option linter.unusedVariables false

theorem awake03_ok : ∀ K, 100 ≤ K → FL03_awake K = some true := fun K hK => by
  obtain ⟨n, rfl⟩ : ∃ n, K = n + 100 := ⟨K - 100, by omega⟩
  kernel_rfl

end

section
open Go Go.Dt Go.Proofs
set_option linter.unusedVariables false
set_option linter.unusedSimpArgs false

theorem strN_data : ∀ (l : List Int) (s : ByteArray), (strN l s).data = s.data ++ (l.map fun n => UInt8.ofNat n.toNat).toArray
  | [], s => by simp [strN]
  | n :: l, s => by
    rw [strN, strN_data l]
    apply Array.ext'
    simp [ByteArray.push]
theorem strU_data (xs : List U8) : (strU xs).data = (xs.map fun b => UInt8.ofNat b.n.toNat).toArray := by
  unfold strU
  rw [strN_data, List.map_map]
  apply Array.ext'
  simp [Function.comp_def]
theorem strU_append (xs ys : List U8) : strU (xs ++ ys) = strU xs ++ strU ys := by
  apply ByteArray.ext
  rw [ByteArray.data_append, strU_data, strU_data, strU_data]
  apply Array.ext'
  simp
theorem strU_size (xs : List U8) : (strU xs).size = xs.length := by
  show (strU xs).data.size = _
  rw [strU_data]
  simp
theorem cat_ok {a b : ByteArray} (h : a.size + b.size ≤ 1000000) : catOk a b = true := Nat.ble_eq_true_of_le (by omega)

/-- The code of a digit. -/
def codeV (d : Nat) : U8 := ⟨if d > 9 then 87 + d else 48 + d⟩
/-- So many digits of a base of 16, the last one last. -/
def hexL : Nat → Nat → List U8
  | 0, _ => []
  | k + 1, n => hexL k (n / 16) ++ [codeV (n % 16)]
theorem hexL_len : ∀ k n, (hexL k n).length = k
  | 0, _ => rfl
  | k + 1, n => by rw [hexL, List.length_append, hexL_len k]; rfl
theorem FR03_Hex_eq : ∀ (K k n : Nat), k < K → k ≤ 1000 → n ≤ 9223372036854775807 → FR03_Hex K (n : Int) (k : Int) = some (strU (hexL k n))
  | 0, k, n, h, _, _ => absurd h (Nat.not_lt_zero _)
  | K + 1, 0, n, h, _, _ => by
    rw [FR03_Hex]
    rfl
  | K + 1, k + 1, n, h, hk, hn => by
    have e1 : decide (((k + 1 : Nat) : Int) < 1) = false := decide_eq_false (by omega)
    have e2 : ((n : Int).tmod 16) = ((n % 16 : Nat) : Int) := by
      rw [Int.tmod_eq_emod_of_nonneg (by omega)]; omega
    have e3 : IntKind.i64.wrap ((n : Int).tdiv 16) = ((n / 16 : Nat) : Int) := by
      rw [Int.tdiv_eq_ediv_of_nonneg (by omega), wrap_i64_of (by omega) (by omega)]; omega
    have e4 : IntKind.i64.wrap (((k + 1 : Nat) : Int) - 1) = (k : Int) := by
      rw [wrap_i64_of (by omega) (by omega)]; omega
    have ih := FR03_Hex_eq K k (n / 16) (by omega) (by omega) (by omega)
    have hl := hexL_len k (n / 16)
    rw [FR03_Hex, hexL, strU_append]
    simp only [e1, e2, e3, e4, ih, cond_false, Option.bind_some]
    have hm : n % 16 < 16 := Nat.mod_lt _ (by decide)
    generalize n % 16 = d at *
    have ok : ∀ b : U8, catOk (strU (hexL k (n / 16))) (strU [b]) = true := fun b => cat_ok (by rw [strU_size, strU_size, hl]; simp; omega)
    rcases Decidable.em ((d : Int) > 9) with g | g
    · rw [decide_eq_true g]
      simp only [cond_true, ok]
      have e : (U8.mk (IntKind.u8.wrap (IntKind.i64.wrap (87 + (d : Int))))) = codeV d := by
        unfold codeV
        rw [if_pos (by omega), wrap_i64_of (by omega) (by omega)]
        congr 1
        show (87 + (d : Int)) % 256 = _
        omega
      rw [e]
    · rw [decide_eq_false g]
      simp only [cond_false, ok, cond_true]
      have e : (U8.mk (IntKind.u8.wrap (IntKind.i64.wrap (48 + (d : Int))))) = codeV d := by
        unfold codeV
        rw [if_neg (by omega), wrap_i64_of (by omega) (by omega)]
        congr 1
        show (48 + (d : Int)) % 256 = _
        omega
      rw [e]

end

section
open Go Go.Dt Go.Proofs
set_option linter.unusedVariables false
set_option linter.unusedSimpArgs false

def hexD : Nat → Nat → List Nat
  | 0, _ => []
  | k + 1, n => hexD k (n / 16) ++ [n % 16]
theorem hexD_len : ∀ k n, (hexD k n).length = k
  | 0, _ => rfl
  | k + 1, n => by rw [hexD, List.length_append, hexD_len k]; rfl
theorem hexD_lt : ∀ k n d, d ∈ hexD k n → d < 16
  | 0, _, d, h => by cases h
  | k + 1, n, d, h => by
    rw [hexD, List.mem_append] at h
    rcases h with h | h
    · exact hexD_lt k _ d h
    · rw [List.mem_singleton] at h; omega
theorem hexL_map : ∀ k n, hexL k n = (hexD k n).map codeV
  | 0, _ => rfl
  | k + 1, n => by rw [hexL, hexD, List.map_append, hexL_map k]; rfl
theorem hexD_val : ∀ k n, (hexD k n).foldl (fun a d => a * 16 + d) 0 = n % 16 ^ k
  | 0, n => by rw [Nat.pow_zero, Nat.mod_one]; rfl
  | k + 1, n => by
    rw [hexD, List.foldl_append, hexD_val k]
    show n / 16 % 16 ^ k * 16 + n % 16 = _
    rw [Nat.pow_succ, Nat.mul_comm (16 ^ k) 16, Nat.mod_mul]
    omega
theorem code_b {d : Nat} (h : d < 16) : 0 ≤ (codeV d).n ∧ (codeV d).n ≤ 255 := by
  unfold codeV
  simp only
  split <;> omega
theorem byte_strU {xs : List U8} {i : Nat} {b : U8} (hi : xs[i]? = some b) (h : 0 ≤ b.n ∧ b.n ≤ 255) : byteAt (strU xs) (i : Int) = b.n := by
  have e : (strU xs)[i]? = some (UInt8.ofNat b.n.toNat) := by
    have hlt : i < xs.length := (List.getElem?_eq_some_iff.1 hi).1
    have hs : i < (strU xs).size := by rw [strU_size]; exact hlt
    rw [getElem?_pos (strU xs) i hs]
    have : (strU xs)[i] = (strU xs).data[i]'hs := rfl
    rw [this]
    congr 1
    have hd := strU_data xs
    have q : (strU xs).data[i]? = some (UInt8.ofNat b.n.toNat) := by
      rw [hd]
      simp [hi]
    have hs2 : i < (strU xs).data.size := hs
    rw [Array.getElem?_eq_getElem hs2] at q
    exact Option.some.inj q
  unfold byteAt
  rw [Int.toNat_natCast, e, Option.getD_some]
  have : (UInt8.ofNat b.n.toNat).toNat = b.n.toNat % 256 := by simp
  rw [this]
  omega
theorem unhex_list {ds : List Nat} (hd : ∀ d, d ∈ ds → d < 16) (hl : ds.length ≤ 15) : ∀ (m i K acc : Nat), i + m = ds.length → m < K → acc < 16 ^ i → FR03_Unhex_5 (strU (ds.map codeV)) K (acc : Int) (i : Int) = some ((((ds.drop i).foldl (fun a d => a * 16 + d) acc : Nat) : Int), true)
  | 0, i, K + 1, acc, h, hK, ha => by
    have e1 : decide ((i : Int) < ((strU (ds.map codeV)).size : Int)) = false := decide_eq_false (by rw [strU_size, List.length_map]; omega)
    rw [FR03_Unhex_5, List.drop_of_length_le (by omega)]
    simp only [e1, cond_false]
    rfl
  | m + 1, i, K + 1, acc, h, hK, ha => by
    have hi : i < ds.length := by omega
    have e1 : decide ((i : Int) < ((strU (ds.map codeV)).size : Int)) = true := decide_eq_true (by rw [strU_size, List.length_map]; omega)
    have e2 : inR (i : Int) (strU (ds.map codeV)).size = true := by
      rw [strU_size, List.length_map]
      simp only [inR, Bool.and_eq_true, decide_eq_true_eq]
      omega
    have hm : ds[i] < 16 := hd _ (List.getElem_mem hi)
    have hb := code_b hm
    have eb : byteAt (strU (ds.map codeV)) (i : Int) = (codeV ds[i]).n := byte_strU (by simp [hi]) hb
    have hp : acc * 16 + ds[i] < 16 ^ (i + 1) := by rw [Nat.pow_succ]; omega
    have hp2 : 16 ^ (i + 1) ≤ 16 ^ 15 := Nat.pow_le_pow_right (by decide) (by omega)
    have hp3 : (16 : Nat) ^ 15 = 1152921504606846976 := by decide
    have en : IntKind.i64.wrap ((i : Int) + 1) = ((i + 1 : Nat) : Int) := by rw [wrap_i64_of (by omega) (by omega)]; omega
    have ih := unhex_list hd hl m (i + 1) K (acc * 16 + ds[i]) (by omega) (by omega) hp
    rw [FR03_Unhex_5, List.drop_eq_getElem_cons hi, List.foldl_cons]
    simp only [e1, e2, cond_true, eb, en]
    rw [← ih]
    generalize ds[i] = d at *
    unfold codeV at *
    simp only at *
    rw [wrap_i64_of (n := if d > 9 then 87 + (d : Int) else 48 + (d : Int)) (by omega) (by omega), wrap_i64_of (n := (acc : Int) * 16) (by omega) (by omega)]
    split
    · rename_i g
      rw [decide_eq_true (show (87 + (d : Int)) ≥ 48 by omega), decide_eq_false (show ¬ (87 + (d : Int)) ≤ 57 by omega), decide_eq_true (show (87 + (d : Int)) ≥ 97 by omega), decide_eq_true (show (87 + (d : Int)) ≤ 102 by omega)]
      simp only [cond_true, cond_false]
      congr 1
      rw [wrap_i64_of (n := (acc : Int) * 16 + (87 + (d : Int))) (by omega) (by omega), wrap_i64_of (by omega) (by omega)]
      omega
    · rename_i g
      rw [decide_eq_true (show (48 + (d : Int)) ≥ 48 by omega), decide_eq_true (show (48 + (d : Int)) ≤ 57 by omega)]
      simp only [cond_true]
      congr 1
      rw [wrap_i64_of (n := (acc : Int) * 16 + (48 + (d : Int))) (by omega) (by omega), wrap_i64_of (by omega) (by omega)]
      omega
  | _, _, 0, _, _, hK, _ => absurd hK (Nat.not_lt_zero _)
theorem FR03_Unhex_hex {k n K : Nat} (h1 : 1 ≤ k) (h2 : k ≤ 15) (hn : n < 16 ^ k) (hK : k < K) : FR03_Unhex K (strU (hexL k n)) = some ((n : Int), true) := by
  have hl := hexL_len k n
  have hd := hexD_len k n
  unfold FR03_Unhex
  rw [strU_size, hl, decide_eq_false (show ¬ ((k : Nat) : Int) < 1 by omega), decide_eq_false (show ¬ ((k : Nat) : Int) > 15 by omega)]
  simp only [cond_false]
  rw [hexL_map]
  have := unhex_list (hexD_lt k n) (by omega) k 0 K 0 (by omega) hK (by simp)
  rw [List.drop_zero, hexD_val, Nat.mod_eq_of_lt hn] at this
  exact this

end

end Go.Proofs.YtnkahfikkpmcbaaDoor.Lf
