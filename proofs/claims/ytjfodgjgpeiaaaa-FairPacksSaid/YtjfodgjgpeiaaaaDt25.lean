/- Rows of cells of a length that is not known, as functions of the place. -/
import Derived.Test.YtjfodgjgpeiaaaaDt24
namespace Go.Dt
open Go.RowKit
set_option linter.unusedVariables false

def rowV (n : Nat) (g : Nat → Value) : List Value := (List.range n).map g
abbrev row (n : Nat) (f : Nat → Int) : List Value := rowV n (fun i => .int .i64 (f i))
def upVal (g : Nat → Value) (i : Nat) (v : Value) : Nat → Value := fun j => if j = i then v else g j
def upI (f : Nat → Int) (i : Nat) (v : Int) : Nat → Int := fun j => if j = i then v else f j

theorem upI_same {f : Nat → Int} {i : Nat} {v : Int} : upI f i v i = v := by simp [upI]
theorem upI_other {f : Nat → Int} {i j : Nat} {v : Int} (h : j ≠ i) : upI f i v j = f j := by simp [upI, h]

@[simp] theorem rowV_length {n : Nat} {g : Nat → Value} : (rowV n g).length = n := by simp [rowV]
theorem rowV_get {n i : Nat} {g : Nat → Value} (h : i < n) : (rowV n g)[i]? = some (g i) := by simp [rowV, h]
theorem rowV_get' {n i : Nat} {g : Nat → Value} {v : Value} (h : i < n) (e : g i = v) : (rowV n g)[i]? = some v := by rw [rowV_get h, e]
theorem rowV_none {n i : Nat} {g : Nat → Value} (h : n ≤ i) : (rowV n g)[i]? = none := by simp [rowV, h]
theorem rowV_ext {n : Nat} {g h : Nat → Value} (e : ∀ i, i < n → g i = h i) : rowV n g = rowV n h := by
  unfold rowV
  exact List.map_congr_left fun i hi => e i (by simpa using hi)
theorem row_ext {n : Nat} {g h : Nat → Int} (e : ∀ i, i < n → g i = h i) : row n g = row n h := rowV_ext fun i hi => by rw [e i hi]
theorem eq_rowV {n : Nat} {g : Nat → Value} {l : List Value} (hl : l.length = n) (h : ∀ i, i < n → l[i]? = some (g i)) : l = rowV n g := by
  refine List.ext_getElem? fun i => ?_
  rcases Nat.lt_or_ge i n with hi | hi
  · rw [h i hi, rowV_get hi]
  · rw [List.getElem?_eq_none (by omega), rowV_none hi]
theorem rowV_take {n off m : Nat} {g : Nat → Value} (h : off + m ≤ n) : ((rowV n g).drop off).take m = rowV m (fun j => g (off + j)) := by
  refine eq_rowV (by simp; omega) fun i hi => ?_
  rw [List.getElem?_take, if_pos hi, List.getElem?_drop, rowV_get (by omega)]
theorem rowV_all {n : Nat} {g : Nat → Value} : ((rowV n g).drop 0).take n = rowV n g := by
  rw [rowV_take (by omega)]
  exact rowV_ext fun i _ => by rw [Nat.zero_add]
theorem rowV_splice1 {n i : Nat} {g : Nat → Value} {v : Value} (h : i < n) : splice (rowV n g) i [v] = rowV n (upVal g i v) := by
  refine eq_rowV (by rw [splice_length (by simp; omega)]; simp) fun j hj => ?_
  have hg := splice_get (c := rowV n g) (vs := [v]) (off := i) (by simp; omega) j undef
  have hl : (splice (rowV n g) i [v]).length = n := by rw [splice_length (by simp; omega)]; simp
  rw [List.getD_eq_getElem?_getD, List.getElem?_eq_getElem (by omega)] at hg
  rw [List.getElem?_eq_getElem (by omega)]
  simp only [Option.getD_some, List.length_singleton] at hg
  rw [hg]
  unfold upVal
  rcases Nat.lt_trichotomy j i with h1 | h1 | h1
  · rw [if_neg (by omega), if_neg (by omega), List.getD_eq_getElem?_getD, rowV_get hj]; rfl
  · subst h1; rw [if_pos (by omega), if_pos rfl]; simp
  · rw [if_neg (by omega), if_neg (by omega), List.getD_eq_getElem?_getD, rowV_get hj]; rfl
theorem row_splice1 {n i : Nat} {f : Nat → Int} {v : Int} (h : i < n) : splice (row n f) i [.int .i64 v] = row n (upI f i v) := by
  rw [row, rowV_splice1 h]
  exact rowV_ext fun j _ => by unfold upVal upI; split <;> rfl
theorem rowV_append {n m : Nat} {g h : Nat → Value} : rowV n g ++ rowV m h = rowV (n + m) (fun j => if j < n then g j else h (j - n)) := by
  refine eq_rowV (by simp) fun i hi => ?_
  rw [List.getElem?_append]
  simp only [rowV_length]
  split
  · rename_i h1; rw [rowV_get h1]
  · rw [rowV_get (by omega)]
theorem rowV_snoc {n : Nat} {g : Nat → Value} {v : Value} : rowV n g ++ [v] = rowV (n + 1) (upVal g n v) := by
  refine eq_rowV (by simp) fun i hi => ?_
  rw [List.getElem?_append]
  simp only [rowV_length]
  unfold upVal
  rcases Nat.lt_or_ge i n with h1 | h1
  · rw [if_pos h1, if_neg (by omega), rowV_get h1]
  · rw [if_neg (by omega), if_pos (by omega), show i - n = 0 by omega]; rfl
theorem row_snoc {n : Nat} {f : Nat → Int} {v : Int} : row n f ++ [.int .i64 v] = row (n + 1) (upI f n v) := by
  rw [row, rowV_snoc]
  exact rowV_ext fun j _ => by unfold upVal upI; split <;> rfl
theorem replicate_row {n : Nat} {v : Value} : List.replicate n v = rowV n (fun _ => v) := eq_rowV (by simp) fun i hi => by simp [hi]
theorem map_row {xs : List Int} {k : IntKind} : xs.map (Value.int k) = rowV xs.length (fun i => .int k (xs.getD i 0)) :=
  eq_rowV (by simp) fun i hi => by simp [hi]
theorem rowV_one {n : Nat} {g : Nat → Value} (h : ∀ i, i < n → one (g i) = true) : (rowV n g).all one = true := by
  rw [List.all_eq_true]
  intro x hx
  unfold rowV at hx
  rw [List.mem_map] at hx
  obtain ⟨i, hi, rfl⟩ := hx
  exact h i (by simpa using hi)
theorem row_one {n : Nat} {f : Nat → Int} : (row n f).all one = true := rowV_one fun _ _ => rfl

/-! ### Rows of flat elements -/
theorem rows_row {ss : List Sc} {n : Nat} {c : List Value} (h : RowsOk ss n c) : c = rowV (n * ss.length) (fun i => c.getD i undef) := eq_rowV h.length fun i hi => by
  have := h.length
  rw [List.getD_eq_getElem?_getD, List.getElem?_eq_getElem (by omega)]
  rfl

theorem wrap_nat {n : Nat} (h : n ≤ 9223372036854775807) : IntKind.i64.wrap (n : Int) = n := wrap_i64_of (by omega) (by omega)
theorem wrap_succ {n : Nat} (h : n < 9223372036854775807) : IntKind.i64.wrap ((n : Int) + 1) = ((n + 1 : Nat) : Int) := by
  rw [show (n : Int) + 1 = ((n + 1 : Nat) : Int) by omega]
  exact wrap_nat (by omega)

end Go.Dt
