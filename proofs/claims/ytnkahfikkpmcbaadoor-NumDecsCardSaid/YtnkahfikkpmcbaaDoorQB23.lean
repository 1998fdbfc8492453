/- Several texts in one: LNi, LNj, LNk. -/
import Derived.Test.YtnkahfikkpmcbaaDoorQB22
namespace Go.Proofs.YtnkahfikkpmcbaaDoor.Lf

section
open Go Go.Dt Go.Proofs
set_option linter.unusedVariables false

theorem awake03_ok : ∀ K, 100 ≤ K → FL03_awake K = some true := fun K hK => by
  obtain ⟨n, rfl⟩ : ∃ n, K = n + 100 := ⟨K - 100, by omega⟩
  kernel_rfl

end

section
open Go Go.Dt Go.Proofs
set_option linter.unusedVariables false
set_option linter.unusedSimpArgs false

theorem strN_data : ∀ (l : List Int) (s : ByteArray), (strN l s).data = s.data ++ (l.map fun n => UInt8.ofNat n.toNat).toArray
  | [], s => by simp [strN]
  | n :: l, s => by
    rw [strN, strN_data l]
    apply Array.ext'
    simp [ByteArray.push]
theorem strU_data (xs : List U8) : (strU xs).data = (xs.map fun b => UInt8.ofNat b.n.toNat).toArray := by
  unfold strU
  rw [strN_data, List.map_map]
  apply Array.ext'
  simp [Function.comp_def]
theorem strU_append (xs ys : List U8) : strU (xs ++ ys) = strU xs ++ strU ys := by
  apply ByteArray.ext
  rw [ByteArray.data_append, strU_data, strU_data, strU_data]
  apply Array.ext'
  simp
theorem strU_size (xs : List U8) : (strU xs).size = xs.length := by
  show (strU xs).data.size = _
  rw [strU_data]
  simp
theorem cat_ok {a b : ByteArray} (h : a.size + b.size ≤ 1000000) : catOk a b = true := Nat.ble_eq_true_of_le (by omega)

/-- The code of a digit. -/
def codeV (d : Nat) : U8 := ⟨if d > 9 then 87 + d else 48 + d⟩
end

section
open Go Go.Dt Go.Proofs
set_option linter.unusedVariables false
set_option linter.unusedSimpArgs false

theorem code_b {d : Nat} (h : d < 16) : 0 ≤ (codeV d).n ∧ (codeV d).n ≤ 255 := by
  unfold codeV
  simp only
  split <;> omega
theorem byte_strU {xs : List U8} {i : Nat} {b : U8} (hi : xs[i]? = some b) (h : 0 ≤ b.n ∧ b.n ≤ 255) : byteAt (strU xs) (i : Int) = b.n := by
  have e : (strU xs)[i]? = some (UInt8.ofNat b.n.toNat) := by
    have hlt : i < xs.length := (List.getElem?_eq_some_iff.1 hi).1
    have hs : i < (strU xs).size := by rw [strU_size]; exact hlt
    rw [getElem?_pos (strU xs) i hs]
    have : (strU xs)[i] = (strU xs).data[i]'hs := rfl
    rw [this]
    congr 1
    have hd := strU_data xs
    have q : (strU xs).data[i]? = some (UInt8.ofNat b.n.toNat) := by
      rw [hd]
      simp [hi]
    have hs2 : i < (strU xs).data.size := hs
    rw [Array.getElem?_eq_getElem hs2] at q
    exact Option.some.inj q
  unfold byteAt
  rw [Int.toNat_natCast, e, Option.getD_some]
  have : (UInt8.ofNat b.n.toNat).toNat = b.n.toNat % 256 := by simp
  rw [this]
  omega
end

end Go.Proofs.YtnkahfikkpmcbaaDoor.Lf
