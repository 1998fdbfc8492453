/- Stencils and depths. -/
import Derived.Test.YtfkmhhbpomkakaaFD
namespace Go.Proofs.Ytfkmhhbpomkakaa.Frag
open Go Go.Dt Go.Proofs
set_option linter.unusedVariables false
set_option linter.unusedSimpArgs false

theorem stenE_zero {a b c d e f g : Int} (h : stenE a b c d e f g = 0) : is7 a = true ∧ is8 b = true ∧ is8 c = true ∧ is8 d = true ∧ is7 e = true ∧ is7 f = true ∧ is7 g = true := by
  unfold stenE at h
  cases h0 : is7 a <;> cases h1 : is7 e <;> cases h2 : is7 f <;> cases h3 : is7 g <;> cases h4 : is8 b <;> cases h5 : is8 c <;> cases h6 : is8 d <;> simp_all
theorem k7_zero {k : Int} (h : is7 k = true) : k7 k = 0 := by unfold k7; rw [h]; rfl
theorem nat_of {n : Int} (h : is8 n = true) : ∃ x : Nat, x < 256 ∧ n = x := by
  have := is8_iff.1 h
  exact ⟨n.toNat, by omega, by omega⟩
theorem ofI (x : Nat) : BitVec.ofInt 64 (x : Int) = BitVec.ofNat 64 x := BitVec.ofInt_natCast ..
theorem toN {x : Nat} (h : x < 256) : (BitVec.ofNat 64 x).toNat = x := by rw [BitVec.toNat_ofNat]; exact Nat.mod_eq_of_lt (by omega)
theorem land_lt {x y : Nat} (h : x < 256) : x &&& y < 256 := Nat.lt_of_le_of_lt Nat.and_le_left h
theorem land_and {a b : Int} (ha : is8 a = true) (hb : is8 b = true) : IntKind.i64.wrap ↑(BitVec.ofInt 64 a &&& BitVec.ofInt 64 b).toNat = andA a b := by
  obtain ⟨x, hx, rfl⟩ := nat_of ha
  obtain ⟨y, hy, rfl⟩ := nat_of hb
  have := land_lt (y := y) hx
  rw [ofI, ofI, BitVec.toNat_and, toN hx, toN hy, andA_nat hx hy]
  exact wr_id (by omega) (by omega)
theorem compl (k : Nat) : ∀ o w j : Nat, o < 2 ^ k → w < 2 ^ k → o &&& (2 ^ (k + j) - 1 - w) = o &&& (2 ^ k - 1 - w) := by
  induction k with
  | zero => intro o w j ho hw; rw [show o = 0 by omega, Nat.zero_and, Nat.zero_and]
  | succ k ih =>
    intro o w j ho hw
    have i := ih (o / 2) (w / 2) j
    have p1 : 2 ^ (k + 1 + j) = 2 * 2 ^ (k + j) := by rw [show k + 1 + j = (k + j) + 1 by omega, Nat.pow_succ]; omega
    have p2 : 2 ^ (k + 1) = 2 * 2 ^ k := by rw [Nat.pow_succ]; omega
    have p3 : 2 ^ k ≤ 2 ^ (k + j) := Nat.pow_le_pow_right (by omega) (by omega)
    rw [p2] at ho hw
    rw [p1, p2]
    clear p1 p2 ih
    generalize 2 ^ k = A at *
    generalize 2 ^ (k + j) = B at *
    rw [land_half o (2 * B - 1 - w), land_half o (2 * A - 1 - w), show (2 * B - 1 - w) / 2 = B - 1 - w / 2 by omega, show (2 * A - 1 - w) / 2 = A - 1 - w / 2 by omega,
      show (2 * B - 1 - w) % 2 = (2 * A - 1 - w) % 2 by omega, i (by omega) (by omega)]
theorem put_bits {o n w : Int} (ho : is8 o = true) (hn : is8 n = true) (hw : is8 w = true) :
    IntKind.i64.wrap ↑(BitVec.ofInt 64 (IntKind.i64.wrap ↑(BitVec.ofInt 64 o &&& ~~~BitVec.ofInt 64 w).toNat) ||| BitVec.ofInt 64 (IntKind.i64.wrap ↑(BitVec.ofInt 64 n &&& BitVec.ofInt 64 w).toNat)).toNat = IntKind.i64.wrap (andA n w + andA o (IntKind.i64.wrap (255 - w))) := by
  obtain ⟨x, hx, rfl⟩ := nat_of ho
  obtain ⟨y, hy, rfl⟩ := nat_of hn
  obtain ⟨z, hz, rfl⟩ := nat_of hw
  have e1 : (BitVec.ofInt 64 (x : Int) &&& ~~~BitVec.ofInt 64 (z : Int)).toNat = (x &&& (255 - z)) := by
    rw [ofI, ofI, BitVec.toNat_and, BitVec.toNat_not, toN hx, toN hz]
    exact compl 8 x z 56 hx hz
  have e2 : (BitVec.ofInt 64 (y : Int) &&& BitVec.ofInt 64 (z : Int)).toNat = (y &&& z) := by rw [ofI, ofI, BitVec.toNat_and, toN hy, toN hz]
  have l1 := land_lt (y := 255 - z) hx
  have l2 := land_lt (y := z) hy
  have e3 : IntKind.i64.wrap (255 - (z : Int)) = ((255 - z : Nat) : Int) := by rw [wr_id (by omega) (by omega)]; omega
  have hd : (BitVec.ofInt 64 (x : Int) &&& ~~~BitVec.ofInt 64 (z : Int)) &&& (BitVec.ofInt 64 (y : Int) &&& BitVec.ofInt 64 (z : Int)) = 0#64 := by
    apply BitVec.eq_of_getLsbD_eq
    intro i hi
    simp only [BitVec.getLsbD_and, BitVec.getLsbD_not, BitVec.getLsbD_zero]
    cases (BitVec.ofInt 64 (z : Int)).getLsbD i <;> simp
  have ha := BitVec.add_eq_or_of_and_eq_zero _ _ hd
  have f1 : BitVec.ofInt 64 (IntKind.i64.wrap ↑(BitVec.ofInt 64 (x : Int) &&& ~~~BitVec.ofInt 64 (z : Int)).toNat) = BitVec.ofInt 64 (x : Int) &&& ~~~BitVec.ofInt 64 (z : Int) := by
    rw [wr_id (by omega) (by rw [e1]; omega), ofI, BitVec.ofNat_toNat, BitVec.setWidth_eq]
  have f2 : BitVec.ofInt 64 (IntKind.i64.wrap ↑(BitVec.ofInt 64 (y : Int) &&& BitVec.ofInt 64 (z : Int)).toNat) = BitVec.ofInt 64 (y : Int) &&& BitVec.ofInt 64 (z : Int) := by
    rw [wr_id (by omega) (by rw [e2]; omega), ofI, BitVec.ofNat_toNat, BitVec.setWidth_eq]
  rw [f1, f2, ← ha, BitVec.toNat_add, e1, e2, e3, andA_nat hy hz, andA_nat hx (by omega), Nat.mod_eq_of_lt (by omega)]
  congr 1
  omega
theorem ring1 {o : Int} (ho : is8 o = true) : IntKind.i64.wrap ↑(BitVec.ofInt 64 (IntKind.i64.wrap (o + 1)) &&& BitVec.ofInt 64 255).toNat = (o + 1) % 256 := by
  obtain ⟨x, hx, rfl⟩ := nat_of ho
  have h : ∀ x : Fin 256, IntKind.i64.wrap ↑(BitVec.ofInt 64 (IntKind.i64.wrap ((x.val : Int) + 1)) &&& BitVec.ofInt 64 255).toNat = ((x.val : Int) + 1) % 256 := by decide +kernel
  exact h ⟨x, hx⟩
theorem ring2 {o : Int} (ho : is8 o = true) : IntKind.i64.wrap ↑(BitVec.ofInt 64 (IntKind.i64.wrap (o - 1)) &&& BitVec.ofInt 64 255).toNat = (o + 255) % 256 := by
  obtain ⟨x, hx, rfl⟩ := nat_of ho
  have h : ∀ x : Fin 256, IntKind.i64.wrap ↑(BitVec.ofInt 64 (IntKind.i64.wrap ((x.val : Int) - 1)) &&& BitVec.ofInt 64 255).toNat = ((x.val : Int) + 255) % 256 := by decide +kernel
  exact h ⟨x, hx⟩
theorem passB_eq {k a b : Int} (hk : is7 k = true) : passB k a b = rpass k a b := by
  have h7 := is7_iff.1 hk
  unfold passB
  rw [hk, cond_true]
  have hc : k = 0 ∨ k = 1 ∨ k = 2 ∨ k = 3 ∨ k = 4 ∨ k = 5 ∨ k = 6 ∨ k = 7 := by omega
  rcases Int.lt_trichotomy a b with h | h | h
  · rw [show rel a b = 1 by unfold rel; rw [if_pos h]]
    rcases hc with rfl | rfl | rfl | rfl | rfl | rfl | rfl | rfl
    · exact Eq.trans (b := false) (by decide +kernel) (Eq.symm (by first | (simp [rpass]; done) | (simp [rpass]; omega)))
    · exact Eq.trans (b := true) (by decide +kernel) (Eq.symm (by first | (simp [rpass]; done) | (simp [rpass]; omega)))
    · exact Eq.trans (b := false) (by decide +kernel) (Eq.symm (by first | (simp [rpass]; done) | (simp [rpass]; omega)))
    · exact Eq.trans (b := true) (by decide +kernel) (Eq.symm (by first | (simp [rpass]; done) | (simp [rpass]; omega)))
    · exact Eq.trans (b := false) (by decide +kernel) (Eq.symm (by first | (simp [rpass]; done) | (simp [rpass]; omega)))
    · exact Eq.trans (b := true) (by decide +kernel) (Eq.symm (by first | (simp [rpass]; done) | (simp [rpass]; omega)))
    · exact Eq.trans (b := false) (by decide +kernel) (Eq.symm (by first | (simp [rpass]; done) | (simp [rpass]; omega)))
    · exact Eq.trans (b := true) (by decide +kernel) (Eq.symm (by first | (simp [rpass]; done) | (simp [rpass]; omega)))
  · rw [show rel a b = 2 by unfold rel; rw [if_neg (by omega), if_neg (by omega)]]
    rcases hc with rfl | rfl | rfl | rfl | rfl | rfl | rfl | rfl
    · exact Eq.trans (b := false) (by decide +kernel) (Eq.symm (by first | (simp [rpass]; done) | (simp [rpass]; omega)))
    · exact Eq.trans (b := false) (by decide +kernel) (Eq.symm (by first | (simp [rpass]; done) | (simp [rpass]; omega)))
    · exact Eq.trans (b := true) (by decide +kernel) (Eq.symm (by first | (simp [rpass]; done) | (simp [rpass]; omega)))
    · exact Eq.trans (b := true) (by decide +kernel) (Eq.symm (by first | (simp [rpass]; done) | (simp [rpass]; omega)))
    · exact Eq.trans (b := false) (by decide +kernel) (Eq.symm (by first | (simp [rpass]; done) | (simp [rpass]; omega)))
    · exact Eq.trans (b := false) (by decide +kernel) (Eq.symm (by first | (simp [rpass]; done) | (simp [rpass]; omega)))
    · exact Eq.trans (b := true) (by decide +kernel) (Eq.symm (by first | (simp [rpass]; done) | (simp [rpass]; omega)))
    · exact Eq.trans (b := true) (by decide +kernel) (Eq.symm (by first | (simp [rpass]; done) | (simp [rpass]; omega)))
  · rw [show rel a b = 4 by unfold rel; rw [if_neg (by omega), if_pos (by omega)]]
    rcases hc with rfl | rfl | rfl | rfl | rfl | rfl | rfl | rfl
    · exact Eq.trans (b := false) (by decide +kernel) (Eq.symm (by first | (simp [rpass]; done) | (simp [rpass]; omega)))
    · exact Eq.trans (b := false) (by decide +kernel) (Eq.symm (by first | (simp [rpass]; done) | (simp [rpass]; omega)))
    · exact Eq.trans (b := false) (by decide +kernel) (Eq.symm (by first | (simp [rpass]; done) | (simp [rpass]; omega)))
    · exact Eq.trans (b := false) (by decide +kernel) (Eq.symm (by first | (simp [rpass]; done) | (simp [rpass]; omega)))
    · exact Eq.trans (b := true) (by decide +kernel) (Eq.symm (by first | (simp [rpass]; done) | (simp [rpass]; omega)))
    · exact Eq.trans (b := true) (by decide +kernel) (Eq.symm (by first | (simp [rpass]; done) | (simp [rpass]; omega)))
    · exact Eq.trans (b := true) (by decide +kernel) (Eq.symm (by first | (simp [rpass]; done) | (simp [rpass]; omega)))
    · exact Eq.trans (b := true) (by decide +kernel) (Eq.symm (by first | (simp [rpass]; done) | (simp [rpass]; omega)))
theorem deed_is8 {o r : Int} (k : Int) (ho : is8 o = true) (hr : is8 r = true) : is8 (deedV k o r) = true := by
  have h1 := is8_iff.1 ho
  have h2 := is8_iff.1 hr
  rw [is8_iff]
  unfold deedV
  repeat' split
  all_goals omega

theorem c_deed {k o r : Int} (hk : is7 k = true) (ho : is8 o = true) (hr : is8 r = true) : Con Try.prog 123 [.int .i64 k, .int .i64 o, .int .i64 r] (.tuple ⟨[.int .i64 (deedV k o r), .int .i64 0]⟩) := by
  have hO := is8_iff.1 ho
  have w1 : IntKind.i64.wrap (o + 1) = o + 1 := wr_id (by omega) (by omega)
  have w2 : IntKind.i64.wrap (o - 1) = o - 1 := wr_id (by omega) (by omega)
  have w3 : IntKind.i64.wrap (255 - o) = 255 - o := wr_id (by omega) (by omega)
  have w4 : IntKind.i64.wrap (o + 255) = o + 255 := wr_id (by omega) (by omega)
  exact Con.run Try.func123 (by kernel_rfl) rfl <|
    R.call mixed (show Con Try.prog 144 [Value.int IntKind.i64 k] (Value.bool true) from (c_deed7.val rfl (by rw [hk]))) (by kernel_rfl) <|
    R.call mixed (show Con Try.prog 121 [Value.int IntKind.i64 o] (Value.bool true) from (c_is8s.val rfl (by first | rw [ho] | rw [hr]))) (by kernel_rfl) <|
    R.call mixed (show Con Try.prog 121 [Value.int IntKind.i64 r] (Value.bool true) from (c_is8s.val rfl (by first | rw [ho] | rw [hr]))) (by kernel_rfl) <|
    R.branch mixed 18 (k == 1) (by kernel_rfl)
     (fun h0 =>
       R.finIs mixed Try.func123 (Value.tuple ⟨[Value.int IntKind.i64 0, Value.int IntKind.i64 0]⟩) (by kernel_rfl) (by (first | rw [ring1 ho] | rw [ring2 ho] | skip); (try simp only [w1, w2, w3]); simp_all [deedV] <;> (repeat' split) <;> omega)
     )
     (fun h0 =>
       R.branch mixed 5 (k == 2) (by kernel_rfl)
        (fun h1 =>
          R.finIs mixed Try.func123 (Value.tuple ⟨[Value.int IntKind.i64 r, Value.int IntKind.i64 0]⟩) (by kernel_rfl) (by (first | rw [ring1 ho] | rw [ring2 ho] | skip); (try simp only [w1, w2, w3]); simp_all [deedV] <;> (repeat' split) <;> omega)
        )
        (fun h1 =>
          R.branch mixed 5 (k == 3) (by kernel_rfl)
           (fun h2 =>
             R.finIs mixed Try.func123 (Value.tuple ⟨[Value.int IntKind.i64 (if 255 < IntKind.i64.wrap (o + 1) then 255 else IntKind.i64.wrap (o + 1)), Value.int IntKind.i64 0]⟩) (by kernel_rfl) (by (first | rw [ring1 ho] | rw [ring2 ho] | skip); (try simp only [w1, w2, w3]); simp_all [deedV] <;> (repeat' split) <;> omega)
           )
           (fun h2 =>
             R.branch mixed 5 (k == 4) (by kernel_rfl)
              (fun h3 =>
                R.finIs mixed Try.func123 (Value.tuple ⟨[Value.int IntKind.i64 (if 0 > IntKind.i64.wrap (o - 1) then 0 else IntKind.i64.wrap (o - 1)), Value.int IntKind.i64 0]⟩) (by kernel_rfl) (by (first | rw [ring1 ho] | rw [ring2 ho] | skip); (try simp only [w1, w2, w3]); simp_all [deedV] <;> (repeat' split) <;> omega)
              )
              (fun h3 =>
                R.branch mixed 5 (k == 5) (by kernel_rfl)
                 (fun h4 =>
                   R.finIs mixed Try.func123 (Value.tuple ⟨[Value.int IntKind.i64 (IntKind.i64.wrap (255 - o)), Value.int IntKind.i64 0]⟩) (by kernel_rfl) (by (first | rw [ring1 ho] | rw [ring2 ho] | skip); (try simp only [w1, w2, w3]); simp_all [deedV] <;> (repeat' split) <;> omega)
                 )
                 (fun h4 =>
                   R.branch mixed 5 (k == 6) (by kernel_rfl)
                    (fun h5 =>
                      R.finIs mixed Try.func123 (Value.tuple ⟨[Value.int IntKind.i64 (IntKind.i64.wrap ↑(BitVec.ofInt 64 (IntKind.i64.wrap (o + 1)) &&& BitVec.ofInt 64 255).toNat), Value.int IntKind.i64 0]⟩) (by kernel_rfl) (by (first | rw [ring1 ho] | rw [ring2 ho] | skip); (try simp only [w1, w2, w3]); simp_all [deedV] <;> (repeat' split) <;> omega)
                    )
                    (fun h5 =>
                      R.branch mixed 5 (k == 7) (by kernel_rfl)
                       (fun h6 =>
                         R.finIs mixed Try.func123 (Value.tuple ⟨[Value.int IntKind.i64 (IntKind.i64.wrap ↑(BitVec.ofInt 64 (IntKind.i64.wrap (o - 1)) &&& BitVec.ofInt 64 255).toNat), Value.int IntKind.i64 0]⟩) (by kernel_rfl) (by (first | rw [ring1 ho] | rw [ring2 ho] | skip); (try simp only [w1, w2, w3]); simp_all [deedV] <;> (repeat' split) <;> omega)
                       )
                       (fun h6 =>
                         R.finIs mixed Try.func123 (Value.tuple ⟨[Value.int IntKind.i64 o, Value.int IntKind.i64 0]⟩) (by kernel_rfl) (by (first | rw [ring1 ho] | rw [ring2 ho] | skip); (try simp only [w1, w2, w3]); simp_all [deedV] <;> (repeat' split) <;> omega)
                       )
                    )
                 )
              )
           )
        )
     )

theorem c_rdeed {k o r : Int} (ho : is8 o = true) : Con Try.prog 131 [.int .i64 k, .int .i64 o, .int .i64 r] (.int .i64 (deedV k o r)) := by
  have hO := is8_iff.1 ho
  have w1 : IntKind.i64.wrap (o + 1) = o + 1 := wr_id (by omega) (by omega)
  have w2 : IntKind.i64.wrap (o - 1) = o - 1 := wr_id (by omega) (by omega)
  have w3 : IntKind.i64.wrap (255 - o) = 255 - o := wr_id (by omega) (by omega)
  have w4 : IntKind.i64.wrap (o + 255) = o + 255 := wr_id (by omega) (by omega)
  exact Con.run Try.func131 (by kernel_rfl) rfl <|
    R.branch mixed 15 (k == 1) (by kernel_rfl)
     (fun h0 =>
       R.finIs mixed Try.func131 (Value.int IntKind.i64 0) (by kernel_rfl) (by (try simp only [w1, w2, w3, w4]); (try rw [Int.tmod_eq_emod_of_nonneg (by omega)]); simp_all [deedV] <;> (repeat' split) <;> omega)
     )
     (fun h0 =>
       R.branch mixed 5 (k == 2) (by kernel_rfl)
        (fun h1 =>
          R.finIs mixed Try.func131 (Value.int IntKind.i64 r) (by kernel_rfl) (by (try simp only [w1, w2, w3, w4]); (try rw [Int.tmod_eq_emod_of_nonneg (by omega)]); simp_all [deedV] <;> (repeat' split) <;> omega)
        )
        (fun h1 =>
          R.branch mixed 5 (k == 3) (by kernel_rfl)
           (fun h2 =>
             R.branch mixed 6 (o == 255) (by kernel_rfl)
              (fun h3 =>
                R.finIs mixed Try.func131 (Value.int IntKind.i64 255) (by kernel_rfl) (by (try simp only [w1, w2, w3, w4]); (try rw [Int.tmod_eq_emod_of_nonneg (by omega)]); simp_all [deedV] <;> (repeat' split) <;> omega)
              )
              (fun h3 =>
                R.finIs mixed Try.func131 (Value.int IntKind.i64 (IntKind.i64.wrap (o + 1))) (by kernel_rfl) (by (try simp only [w1, w2, w3, w4]); (try rw [Int.tmod_eq_emod_of_nonneg (by omega)]); simp_all [deedV] <;> (repeat' split) <;> omega)
              )
           )
           (fun h2 =>
             R.branch mixed 5 (k == 4) (by kernel_rfl)
              (fun h3 =>
                R.branch mixed 6 (o == 0) (by kernel_rfl)
                 (fun h4 =>
                   R.finIs mixed Try.func131 (Value.int IntKind.i64 0) (by kernel_rfl) (by (try simp only [w1, w2, w3, w4]); (try rw [Int.tmod_eq_emod_of_nonneg (by omega)]); simp_all [deedV] <;> (repeat' split) <;> omega)
                 )
                 (fun h4 =>
                   R.finIs mixed Try.func131 (Value.int IntKind.i64 (IntKind.i64.wrap (o - 1))) (by kernel_rfl) (by (try simp only [w1, w2, w3, w4]); (try rw [Int.tmod_eq_emod_of_nonneg (by omega)]); simp_all [deedV] <;> (repeat' split) <;> omega)
                 )
              )
              (fun h3 =>
                R.branch mixed 5 (k == 5) (by kernel_rfl)
                 (fun h4 =>
                   R.finIs mixed Try.func131 (Value.int IntKind.i64 (IntKind.i64.wrap (255 - o))) (by kernel_rfl) (by (try simp only [w1, w2, w3, w4]); (try rw [Int.tmod_eq_emod_of_nonneg (by omega)]); simp_all [deedV] <;> (repeat' split) <;> omega)
                 )
                 (fun h4 =>
                   R.branch mixed 5 (k == 6) (by kernel_rfl)
                    (fun h5 =>
                      R.finIs mixed Try.func131 (Value.int IntKind.i64 ((IntKind.i64.wrap (o + 1)).tmod 256)) (by kernel_rfl) (by (try simp only [w1, w2, w3, w4]); (try rw [Int.tmod_eq_emod_of_nonneg (by omega)]); simp_all [deedV] <;> (repeat' split) <;> omega)
                    )
                    (fun h5 =>
                      R.branch mixed 5 (k == 7) (by kernel_rfl)
                       (fun h6 =>
                         R.finIs mixed Try.func131 (Value.int IntKind.i64 ((IntKind.i64.wrap (o + 255)).tmod 256)) (by kernel_rfl) (by (try simp only [w1, w2, w3, w4]); (try rw [Int.tmod_eq_emod_of_nonneg (by omega)]); simp_all [deedV] <;> (repeat' split) <;> omega)
                       )
                       (fun h6 =>
                         R.finIs mixed Try.func131 (Value.int IntKind.i64 o) (by kernel_rfl) (by (try simp only [w1, w2, w3, w4]); (try rw [Int.tmod_eq_emod_of_nonneg (by omega)]); simp_all [deedV] <;> (repeat' split) <;> omega)
                       )
                    )
                 )
              )
           )
        )
     )

theorem c_rpass {k o r : Int}  : Con Try.prog 92 [.int .i64 k, .int .i64 o, .int .i64 r] (.bool (rpass k o r)) := by
  exact Con.run Try.func92 (by kernel_rfl) rfl <|
    R.branch mixed 15 (k == 1) (by kernel_rfl)
     (fun h0 =>
       R.finIs mixed Try.func92 (Value.bool (decide (o < r))) (by kernel_rfl) (by first | (simp_all [rpass]; done) | (simp_all [rpass]; rw [Bool.eq_iff_iff]; simp))
     )
     (fun h0 =>
       R.branch mixed 5 (k == 2) (by kernel_rfl)
        (fun h1 =>
          R.finIs mixed Try.func92 (Value.bool (o == r)) (by kernel_rfl) (by first | (simp_all [rpass]; done) | (simp_all [rpass]; rw [Bool.eq_iff_iff]; simp))
        )
        (fun h1 =>
          R.branch mixed 5 (k == 3) (by kernel_rfl)
           (fun h2 =>
             R.finIs mixed Try.func92 (Value.bool (decide (o ≤ r))) (by kernel_rfl) (by first | (simp_all [rpass]; done) | (simp_all [rpass]; rw [Bool.eq_iff_iff]; simp))
           )
           (fun h2 =>
             R.branch mixed 5 (k == 4) (by kernel_rfl)
              (fun h3 =>
                R.finIs mixed Try.func92 (Value.bool (decide (o > r))) (by kernel_rfl) (by first | (simp_all [rpass]; done) | (simp_all [rpass]; rw [Bool.eq_iff_iff]; simp))
              )
              (fun h3 =>
                R.branch mixed 5 (k == 5) (by kernel_rfl)
                 (fun h4 =>
                   R.finIs mixed Try.func92 (Value.bool (o != r)) (by kernel_rfl) (by first | (simp_all [rpass]; done) | (simp_all [rpass]; rw [Bool.eq_iff_iff]; simp))
                 )
                 (fun h4 =>
                   R.branch mixed 5 (k == 6) (by kernel_rfl)
                    (fun h5 =>
                      R.finIs mixed Try.func92 (Value.bool (decide (o ≥ r))) (by kernel_rfl) (by first | (simp_all [rpass]; done) | (simp_all [rpass]; rw [Bool.eq_iff_iff]; simp))
                    )
                    (fun h5 =>
                      R.branch mixed 5 (k == 7) (by kernel_rfl)
                       (fun h6 =>
                         R.finIs mixed Try.func92 (Value.bool true) (by kernel_rfl) (by first | (simp_all [rpass]; done) | (simp_all [rpass]; rw [Bool.eq_iff_iff]; simp))
                       )
                       (fun h6 =>
                         R.finIs mixed Try.func92 (Value.bool false) (by kernel_rfl) (by first | (simp_all [rpass]; done) | (simp_all [rpass]; rw [Bool.eq_iff_iff]; simp))
                       )
                    )
                 )
              )
           )
        )
     )

theorem c_stest {s0 s1 s2 s3 s4 s5 s6 o : Int} (hs : stenE s0 s1 s2 s3 s4 s5 s6 = 0) (ho : is8 o = true) : Con Try.prog 77 [S7 s0 s1 s2 s3 s4 s5 s6, .int .i64 o] (.tuple ⟨[.bool (rpass s0 (andA s1 s2) (andA o s2)), .int .i64 0]⟩) := by
  obtain ⟨h0, h1, h2, h3, h4, h5, h6⟩ := stenE_zero hs
  exact Con.run Try.func77 (by kernel_rfl) rfl <|
    R.call mixed (show Con Try.prog 114 [Value.agg ⟨[Value.int IntKind.i64 s0, Value.int IntKind.i64 s1, Value.int IntKind.i64 s2, Value.int IntKind.i64 s3, Value.int IntKind.i64 s4, Value.int IntKind.i64 s5, Value.int IntKind.i64 s6]⟩] (Value.int IntKind.i64 0) from (c_stenE.val rfl (by rw [hs]))) (by kernel_rfl) <|
    R.call mixed (show Con Try.prog 121 [Value.int IntKind.i64 o] (Value.bool true) from (c_is8s.val rfl (by first | rw [ho] | rw [hr]))) (by kernel_rfl) <|
    R.call mixed (show Con Try.prog 122 [Value.int IntKind.i64 s0, Value.int IntKind.i64 (IntKind.i64.wrap ↑(BitVec.ofInt 64 s1 &&& BitVec.ofInt 64 s2).toNat), Value.int IntKind.i64 (IntKind.i64.wrap ↑(BitVec.ofInt 64 o &&& BitVec.ofInt 64 s2).toNat)] (Value.tuple ⟨[Value.bool (passB s0 (IntKind.i64.wrap ↑(BitVec.ofInt 64 s1 &&& BitVec.ofInt 64 s2).toNat) (IntKind.i64.wrap ↑(BitVec.ofInt 64 o &&& BitVec.ofInt 64 s2).toNat)), Value.int IntKind.i64 (k7 s0)]⟩) from c_passes) (by kernel_rfl) <|
    R.finIs mixed Try.func77 (Value.tuple ⟨[Value.bool (passB s0 (IntKind.i64.wrap ↑(BitVec.ofInt 64 s1 &&& BitVec.ofInt 64 s2).toNat) (IntKind.i64.wrap ↑(BitVec.ofInt 64 o &&& BitVec.ofInt 64 s2).toNat)), Value.int IntKind.i64 (k7 s0)]⟩) (by kernel_rfl) (by rw [land_and h1 h2, land_and ho h2, passB_eq h0, k7_zero h0])

theorem c_rstest {s0 s1 s2 s3 s4 s5 s6 o : Int}  : Con Try.prog 90 [S7 s0 s1 s2 s3 s4 s5 s6, .int .i64 o] (.bool (rpass s0 (andA s1 s2) (andA o s2))) := by
  exact Con.run Try.func90 (by kernel_rfl) rfl <|
    R.call mixed (show Con Try.prog 130 [Value.int IntKind.i64 s1, Value.int IntKind.i64 s2] (Value.int IntKind.i64 (andA s1 s2)) from c_and) (by kernel_rfl) <|
    R.call mixed (show Con Try.prog 130 [Value.int IntKind.i64 o, Value.int IntKind.i64 s2] (Value.int IntKind.i64 (andA o s2)) from c_and) (by kernel_rfl) <|
    R.call mixed (show Con Try.prog 92 [Value.int IntKind.i64 s0, Value.int IntKind.i64 (andA s1 s2), Value.int IntKind.i64 (andA o s2)] (Value.bool (rpass s0 (andA s1 s2) (andA o s2))) from c_rpass) (by kernel_rfl) <|
    R.finIs mixed Try.func90 (Value.bool (rpass s0 (andA s1 s2) (andA o s2))) (by kernel_rfl) (by rfl)

theorem c_sput0 {s0 s1 s2 s3 s4 s5 s6 o : Int} (hs : stenE s0 s1 s2 s3 s4 s5 s6 = 0) (ho : is8 o = true) : Con Try.prog 79 [S7 s0 s1 s2 s3 s4 s5 s6, .int .i64 0, .int .i64 o] (.tuple ⟨[.int .i64 (putS s4 s1 s3 o), .int .i64 0]⟩) := by
  obtain ⟨h0, h1, h2, h3, h4, h5, h6⟩ := stenE_zero hs
  exact Con.run Try.func79 (by kernel_rfl) rfl <|
    R.call mixed (show Con Try.prog 114 [Value.agg ⟨[Value.int IntKind.i64 s0, Value.int IntKind.i64 s1, Value.int IntKind.i64 s2, Value.int IntKind.i64 s3, Value.int IntKind.i64 s4, Value.int IntKind.i64 s5, Value.int IntKind.i64 s6]⟩] (Value.int IntKind.i64 0) from (c_stenE.val rfl (by rw [hs]))) (by kernel_rfl) <|
    R.call mixed (show Con Try.prog 123 [Value.int IntKind.i64 s4, Value.int IntKind.i64 o, Value.int IntKind.i64 s1] (Value.tuple ⟨[Value.int IntKind.i64 (deedV s4 o s1), Value.int IntKind.i64 0]⟩) from (c_deed (by assumption) ho h1)) (by kernel_rfl) <|
    R.finIs mixed Try.func79 (Value.tuple ⟨[Value.int IntKind.i64 (IntKind.i64.wrap ↑(BitVec.ofInt 64 (IntKind.i64.wrap ↑(BitVec.ofInt 64 o &&& ~~~BitVec.ofInt 64 s3).toNat) ||| BitVec.ofInt 64 (IntKind.i64.wrap ↑(BitVec.ofInt 64 (deedV s4 o s1) &&& BitVec.ofInt 64 s3).toNat)).toNat), Value.int IntKind.i64 0]⟩) (by kernel_rfl) (by rw [put_bits ho (deed_is8 s4 ho h1) h3]; rfl)

theorem c_sput1 {s0 s1 s2 s3 s4 s5 s6 o : Int} (hs : stenE s0 s1 s2 s3 s4 s5 s6 = 0) (ho : is8 o = true) : Con Try.prog 79 [S7 s0 s1 s2 s3 s4 s5 s6, .int .i64 1, .int .i64 o] (.tuple ⟨[.int .i64 (putS s5 s1 s3 o), .int .i64 0]⟩) := by
  obtain ⟨h0, h1, h2, h3, h4, h5, h6⟩ := stenE_zero hs
  exact Con.run Try.func79 (by kernel_rfl) rfl <|
    R.call mixed (show Con Try.prog 114 [Value.agg ⟨[Value.int IntKind.i64 s0, Value.int IntKind.i64 s1, Value.int IntKind.i64 s2, Value.int IntKind.i64 s3, Value.int IntKind.i64 s4, Value.int IntKind.i64 s5, Value.int IntKind.i64 s6]⟩] (Value.int IntKind.i64 0) from (c_stenE.val rfl (by rw [hs]))) (by kernel_rfl) <|
    R.call mixed (show Con Try.prog 123 [Value.int IntKind.i64 s5, Value.int IntKind.i64 o, Value.int IntKind.i64 s1] (Value.tuple ⟨[Value.int IntKind.i64 (deedV s5 o s1), Value.int IntKind.i64 0]⟩) from (c_deed (by assumption) ho h1)) (by kernel_rfl) <|
    R.finIs mixed Try.func79 (Value.tuple ⟨[Value.int IntKind.i64 (IntKind.i64.wrap ↑(BitVec.ofInt 64 (IntKind.i64.wrap ↑(BitVec.ofInt 64 o &&& ~~~BitVec.ofInt 64 s3).toNat) ||| BitVec.ofInt 64 (IntKind.i64.wrap ↑(BitVec.ofInt 64 (deedV s5 o s1) &&& BitVec.ofInt 64 s3).toNat)).toNat), Value.int IntKind.i64 0]⟩) (by kernel_rfl) (by rw [put_bits ho (deed_is8 s5 ho h1) h3]; rfl)

theorem c_sput2 {s0 s1 s2 s3 s4 s5 s6 o : Int} (hs : stenE s0 s1 s2 s3 s4 s5 s6 = 0) (ho : is8 o = true) : Con Try.prog 79 [S7 s0 s1 s2 s3 s4 s5 s6, .int .i64 2, .int .i64 o] (.tuple ⟨[.int .i64 (putS s6 s1 s3 o), .int .i64 0]⟩) := by
  obtain ⟨h0, h1, h2, h3, h4, h5, h6⟩ := stenE_zero hs
  exact Con.run Try.func79 (by kernel_rfl) rfl <|
    R.call mixed (show Con Try.prog 114 [Value.agg ⟨[Value.int IntKind.i64 s0, Value.int IntKind.i64 s1, Value.int IntKind.i64 s2, Value.int IntKind.i64 s3, Value.int IntKind.i64 s4, Value.int IntKind.i64 s5, Value.int IntKind.i64 s6]⟩] (Value.int IntKind.i64 0) from (c_stenE.val rfl (by rw [hs]))) (by kernel_rfl) <|
    R.call mixed (show Con Try.prog 123 [Value.int IntKind.i64 s6, Value.int IntKind.i64 o, Value.int IntKind.i64 s1] (Value.tuple ⟨[Value.int IntKind.i64 (deedV s6 o s1), Value.int IntKind.i64 0]⟩) from (c_deed (by assumption) ho h1)) (by kernel_rfl) <|
    R.finIs mixed Try.func79 (Value.tuple ⟨[Value.int IntKind.i64 (IntKind.i64.wrap ↑(BitVec.ofInt 64 (IntKind.i64.wrap ↑(BitVec.ofInt 64 o &&& ~~~BitVec.ofInt 64 s3).toNat) ||| BitVec.ofInt 64 (IntKind.i64.wrap ↑(BitVec.ofInt 64 (deedV s6 o s1) &&& BitVec.ofInt 64 s3).toNat)).toNat), Value.int IntKind.i64 0]⟩) (by kernel_rfl) (by rw [put_bits ho (deed_is8 s6 ho h1) h3]; rfl)

theorem c_rsput0 {s0 s1 s2 s3 s4 s5 s6 o : Int} (ho : is8 o = true) : Con Try.prog 91 [S7 s0 s1 s2 s3 s4 s5 s6, .int .i64 0, .int .i64 o] (.int .i64 (putS s4 s1 s3 o)) := by
  exact Con.run Try.func91 (by kernel_rfl) rfl <|
    R.call mixed (show Con Try.prog 131 [Value.int IntKind.i64 s4, Value.int IntKind.i64 o, Value.int IntKind.i64 s1] (Value.int IntKind.i64 (deedV s4 o s1)) from (c_rdeed ho)) (by kernel_rfl) <|
    R.call mixed (show Con Try.prog 130 [Value.int IntKind.i64 (deedV s4 o s1), Value.int IntKind.i64 s3] (Value.int IntKind.i64 (andA (deedV s4 o s1) s3)) from c_and) (by kernel_rfl) <|
    R.call mixed (show Con Try.prog 130 [Value.int IntKind.i64 o, Value.int IntKind.i64 (IntKind.i64.wrap (255 - s3))] (Value.int IntKind.i64 (andA o (IntKind.i64.wrap (255 - s3)))) from c_and) (by kernel_rfl) <|
    R.finIs mixed Try.func91 (Value.int IntKind.i64 (IntKind.i64.wrap (andA (deedV s4 o s1) s3 + andA o (IntKind.i64.wrap (255 - s3))))) (by kernel_rfl) (by rfl)

theorem c_rsput1 {s0 s1 s2 s3 s4 s5 s6 o : Int} (ho : is8 o = true) : Con Try.prog 91 [S7 s0 s1 s2 s3 s4 s5 s6, .int .i64 1, .int .i64 o] (.int .i64 (putS s5 s1 s3 o)) := by
  exact Con.run Try.func91 (by kernel_rfl) rfl <|
    R.call mixed (show Con Try.prog 131 [Value.int IntKind.i64 s5, Value.int IntKind.i64 o, Value.int IntKind.i64 s1] (Value.int IntKind.i64 (deedV s5 o s1)) from (c_rdeed ho)) (by kernel_rfl) <|
    R.call mixed (show Con Try.prog 130 [Value.int IntKind.i64 (deedV s5 o s1), Value.int IntKind.i64 s3] (Value.int IntKind.i64 (andA (deedV s5 o s1) s3)) from c_and) (by kernel_rfl) <|
    R.call mixed (show Con Try.prog 130 [Value.int IntKind.i64 o, Value.int IntKind.i64 (IntKind.i64.wrap (255 - s3))] (Value.int IntKind.i64 (andA o (IntKind.i64.wrap (255 - s3)))) from c_and) (by kernel_rfl) <|
    R.finIs mixed Try.func91 (Value.int IntKind.i64 (IntKind.i64.wrap (andA (deedV s5 o s1) s3 + andA o (IntKind.i64.wrap (255 - s3))))) (by kernel_rfl) (by rfl)

theorem c_rsput2 {s0 s1 s2 s3 s4 s5 s6 o : Int} (ho : is8 o = true) : Con Try.prog 91 [S7 s0 s1 s2 s3 s4 s5 s6, .int .i64 2, .int .i64 o] (.int .i64 (putS s6 s1 s3 o)) := by
  exact Con.run Try.func91 (by kernel_rfl) rfl <|
    R.call mixed (show Con Try.prog 131 [Value.int IntKind.i64 s6, Value.int IntKind.i64 o, Value.int IntKind.i64 s1] (Value.int IntKind.i64 (deedV s6 o s1)) from (c_rdeed ho)) (by kernel_rfl) <|
    R.call mixed (show Con Try.prog 130 [Value.int IntKind.i64 (deedV s6 o s1), Value.int IntKind.i64 s3] (Value.int IntKind.i64 (andA (deedV s6 o s1) s3)) from c_and) (by kernel_rfl) <|
    R.call mixed (show Con Try.prog 130 [Value.int IntKind.i64 o, Value.int IntKind.i64 (IntKind.i64.wrap (255 - s3))] (Value.int IntKind.i64 (andA o (IntKind.i64.wrap (255 - s3)))) from c_and) (by kernel_rfl) <|
    R.finIs mixed Try.func91 (Value.int IntKind.i64 (IntKind.i64.wrap (andA (deedV s6 o s1) s3 + andA o (IntKind.i64.wrap (255 - s3))))) (by kernel_rfl) (by rfl)

theorem c_dtest {k z o : Int} {p : Bool} (hk : is7 k = true) : Con Try.prog 78 [.int .i64 k, .bool p, .int .i64 z, .int .i64 o] (.tuple ⟨[.bool (rpass k z o), .int .i64 (bif rpass k z o && p then z else o), .int .i64 0]⟩) := by
  have e := passB_eq (a := z) (b := o) hk
  have e0 := k7_zero hk
  exact Con.run Try.func78 (by kernel_rfl) rfl <|
    R.call mixed (show Con Try.prog 122 [Value.int IntKind.i64 k, Value.int IntKind.i64 z, Value.int IntKind.i64 o] (Value.tuple ⟨[Value.bool (passB k z o), Value.int IntKind.i64 (k7 k)]⟩) from c_passes) (by kernel_rfl) <|
    R.branch mixed 14 (k7 k != 0) (by kernel_rfl)
     (fun h0 =>
       R.finIs mixed Try.func78 (Value.tuple ⟨[Value.bool false, Value.int IntKind.i64 0, Value.int IntKind.i64 (k7 k)]⟩) (by kernel_rfl) (by rw [← e]; simp_all)
     )
     (fun h0 =>
       R.guard mixed 4 (passB k z o) (by kernel_rfl)
        (fun h1 =>
          R.branch mixed 4 (bif true then p else false) (by kernel_rfl)
           (fun h2 =>
             R.finIs mixed Try.func78 (Value.tuple ⟨[Value.bool true, Value.int IntKind.i64 z, Value.int IntKind.i64 0]⟩) (by kernel_rfl) (by rw [← e]; simp_all)
           )
           (fun h2 =>
             R.finIs mixed Try.func78 (Value.tuple ⟨[Value.bool (passB k z o), Value.int IntKind.i64 o, Value.int IntKind.i64 0]⟩) (by kernel_rfl) (by rw [← e]; simp_all)
           )
        )
        (fun h1 =>
          R.finIs mixed Try.func78 (Value.tuple ⟨[Value.bool (passB k z o), Value.int IntKind.i64 o, Value.int IntKind.i64 0]⟩) (by kernel_rfl) (by rw [← e]; simp_all)
        )
     )

end Go.Proofs.Ytfkmhhbpomkakaa.Frag
