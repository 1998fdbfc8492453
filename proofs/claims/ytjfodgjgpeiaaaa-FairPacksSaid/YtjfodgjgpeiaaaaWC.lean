/- Package wide's reference: digits to the base 2^16, their sums and products; the product of two words. -/
import Derived.Test.YtjfodgjgpeiaaaaWB
namespace Go.Proofs.Ytjfodgjgpeiaaaa.Wide
open Go Go.Dt Go.Proofs

/-! ### The products of words -/
def lo' (x : Int) : Int := IntKind.u64.wrap ↑(BitVec.ofInt 64 x &&& BitVec.ofInt 64 4294967295).toNat
def hi' (x : Int) : Int := x.fdiv 4294967296
def mt (x y : Int) : Int := IntKind.u64.wrap (IntKind.u64.wrap (hi' x * lo' y) + hi' (IntKind.u64.wrap (lo' x * lo' y)))
def mw (x y : Int) : Int := IntKind.u64.wrap (lo' (mt x y) + IntKind.u64.wrap (lo' x * hi' y))
def mh (x y : Int) : Int := IntKind.u64.wrap (IntKind.u64.wrap (IntKind.u64.wrap (hi' x * hi' y) + hi' (mt x y)) + hi' (mw x y))

theorem mul64_raw (x y : Int) : FnEq Try.prog 72 [.int .u64 x, .int .u64 y] [] (.tuple #[.int .u64 (mh x y), .int .u64 (IntKind.u64.wrap (x * y))]) [] :=
  FnEq.straight mixed Try.func72 (by kernel_rfl) 2000 rfl (by kernel_rfl)

theorem mul_le {a b c d : Int} (ha : 0 ≤ a) (hb : 0 ≤ b) (hac : a ≤ c) (hbd : b ≤ d) : a * b ≤ c * d :=
  Int.le_trans (Int.mul_le_mul_of_nonneg_right hac hb) (Int.mul_le_mul_of_nonneg_left hbd (Int.le_trans ha hac))

theorem mul64_ (x y : Int) (hx : 0 ≤ x) (hx2 : x ≤ 18446744073709551615) (hy : 0 ≤ y) (hy2 : y ≤ 18446744073709551615) :
    FnEq Try.prog 72 [.int .u64 x, .int .u64 y] [] (.tuple #[.int .u64 (x * y / 18446744073709551616), .int .u64 (x * y % 18446744073709551616)]) [] := by
  refine (mul64_raw x y).val ?_
  have hlx : lo' x = x % 4294967296 := lo32 hx
  have hly : lo' y = y % 4294967296 := lo32 hy
  have hhx : hi' x = x / 4294967296 := Int.fdiv_eq_ediv_of_nonneg x (by omega)
  have hhy : hi' y = y / 4294967296 := Int.fdiv_eq_ediv_of_nonneg y (by omega)
  generalize hx0 : x % 4294967296 = x0 at hlx
  generalize hx1 : x / 4294967296 = x1 at hhx
  generalize hy0 : y % 4294967296 = y0 at hly
  generalize hy1 : y / 4294967296 = y1 at hhy
  have ex : x = x1 * 4294967296 + x0 := by omega
  have ey : y = y1 * 4294967296 + y0 := by omega
  have b00 : 0 ≤ x0 * y0 := Int.mul_nonneg (by omega) (by omega)
  have b01 : 0 ≤ x0 * y1 := Int.mul_nonneg (by omega) (by omega)
  have b10 : 0 ≤ x1 * y0 := Int.mul_nonneg (by omega) (by omega)
  have b11 : 0 ≤ x1 * y1 := Int.mul_nonneg (by omega) (by omega)
  have c00 : x0 * y0 ≤ 4294967295 * 4294967295 := mul_le (by omega) (by omega) (by omega) (by omega)
  have c01 : x0 * y1 ≤ 4294967295 * 4294967295 := mul_le (by omega) (by omega) (by omega) (by omega)
  have c10 : x1 * y0 ≤ 4294967295 * 4294967295 := mul_le (by omega) (by omega) (by omega) (by omega)
  have c11 : x1 * y1 ≤ 4294967295 * 4294967295 := mul_le (by omega) (by omega) (by omega) (by omega)
  have exy : x * y = (x1 * y1) * 18446744073709551616 + (x1 * y0 + x0 * y1) * 4294967296 + x0 * y0 := by
    rw [ex, ey]
    simp only [Int.add_mul, Int.mul_add]
    have h1 : x1 * 4294967296 * (y1 * 4294967296) = x1 * y1 * 18446744073709551616 := by
      rw [Int.mul_assoc, Int.mul_comm 4294967296, Int.mul_assoc, ← Int.mul_assoc]; rfl
    have h2 : x1 * 4294967296 * y0 = x1 * y0 * 4294967296 := by rw [Int.mul_assoc, Int.mul_comm 4294967296, ← Int.mul_assoc]
    have h3 : x0 * (y1 * 4294967296) = x0 * y1 * 4294967296 := by rw [← Int.mul_assoc]
    rw [h1, h2, h3]
    omega
  have et : mt x y = x1 * y0 + x0 * y0 / 4294967296 := by
    unfold mt
    rw [hlx, hly, hhx, wrap_u64_of b00 (by omega), wrap_u64_of b10 (by omega), hi', Int.fdiv_eq_ediv_of_nonneg _ (by omega), wrap_u64_of (by omega) (by omega)]
  generalize hp00 : x0 * y0 = p00 at *
  generalize hp01 : x0 * y1 = p01 at *
  generalize hp10 : x1 * y0 = p10 at *
  generalize hp11 : x1 * y1 = p11 at *
  have ew : mw x y = (p10 + p00 / 4294967296) % 4294967296 + p01 := by
    unfold mw
    rw [et, hlx, hhy, hp01, wrap_u64_of b01 (by omega), show lo' (p10 + p00 / 4294967296) = (p10 + p00 / 4294967296) % 4294967296 from lo32 (by omega), wrap_u64_of (by omega) (by omega)]
  have eh : mh x y = x * y / 18446744073709551616 := by
    unfold mh
    rw [et, ew, hhx, hhy, hp11, exy]
    unfold hi'
    rw [Int.fdiv_eq_ediv_of_nonneg _ (by omega), Int.fdiv_eq_ediv_of_nonneg _ (by omega), wrap_u64_of b11 (by omega), wrap_u64_of (n := p11 + _) (by omega) (by omega), wrap_u64_of (by omega) (by omega)]
    omega
  rw [eh, wrap_u64]

/-! ### Digits -/
def V8 (l : List Int) : Value := .agg ⟨[.int .i64 (l.getD 0 0), .int .i64 (l.getD 1 0), .int .i64 (l.getD 2 0), .int .i64 (l.getD 3 0), .int .i64 (l.getD 4 0), .int .i64 (l.getD 5 0), .int .i64 (l.getD 6 0), .int .i64 (l.getD 7 0)]⟩
def q16 (s : Int) : Int := IntKind.i64.wrap (s.tdiv 65536)
def r16 (s : Int) : Int := s.tmod 65536
def addAll : List Int → List Int → Int → List Int
  | a :: x, b :: y, c => r16 (IntKind.i64.wrap (IntKind.i64.wrap (a + b) + c)) :: addAll x y (q16 (IntKind.i64.wrap (IntKind.i64.wrap (a + b) + c)))
  | _, _, _ => []
def mulRow (a : Int) : List Int → List Int → Int → List Int
  | b :: x, d :: y, c => r16 (IntKind.i64.wrap (IntKind.i64.wrap (d + IntKind.i64.wrap (a * b)) + c)) :: mulRow a x y (q16 (IntKind.i64.wrap (IntKind.i64.wrap (d + IntKind.i64.wrap (a * b)) + c)))
  | _, _, _ => []
def mulAll : List Int → List Int → List Int → List Int
  | a :: x, bs, d :: y => match mulRow a bs (d :: y) 0 with
    | e :: z => e :: mulAll x bs z
    | [] => []
  | _, _, _ => []

theorem add_raw (a0 a1 a2 a3 a4 a5 a6 a7 b0 b1 b2 b3 b4 b5 b6 b7 : Int) : FnEq Try.prog 43 [V8 [a0, a1, a2, a3, a4, a5, a6, a7], V8 [b0, b1, b2, b3, b4, b5, b6, b7]] [] (V8 (addAll [a0, a1, a2, a3, a4, a5, a6, a7] [b0, b1, b2, b3, b4, b5, b6, b7] 0)) [] :=
  FnEq.straight mixed Try.func43 (by kernel_rfl) 1000 rfl (by kernel_rfl)
theorem mul_raw (a0 a1 a2 a3 a4 a5 a6 a7 b0 b1 b2 b3 b4 b5 b6 b7 : Int) : FnEq Try.prog 41 [V8 [a0, a1, a2, a3, a4, a5, a6, a7], V8 [b0, b1, b2, b3, b4, b5, b6, b7]] [] (V8 (mulAll [a0, a1, a2, a3, a4, a5, a6, a7] [b0, b1, b2, b3, b4, b5, b6, b7] [0, 0, 0, 0, 0, 0, 0, 0])) [] :=
  FnEq.straight mixed Try.func41 (by kernel_rfl) 4000 rfl (by kernel_rfl)

/-- What a list of digits says. -/
def valD : List Int → Int
  | [] => 0
  | d :: l => d + 65536 * valD l
def Dig (l : List Int) : Prop := ∀ d, d ∈ l → 0 ≤ d ∧ d ≤ 65535
theorem Dig.head {d : Int} {l : List Int} (h : Dig (d :: l)) : 0 ≤ d ∧ d ≤ 65535 := h d (by simp)
theorem Dig.tail {d : Int} {l : List Int} (h : Dig (d :: l)) : Dig l := fun x hx => h x (by simp [hx])
theorem Dig.cons {d : Int} {l : List Int} (h1 : 0 ≤ d) (h2 : d ≤ 65535) (h : Dig l) : Dig (d :: l) := fun x hx => by
  rcases List.mem_cons.1 hx with rfl | hx
  · exact ⟨h1, h2⟩
  · exact h x hx
theorem Dig.nil : Dig [] := fun _ h => by cases h

theorem addAll_ok : ∀ (xs bs : List Int) (c : Int), xs.length = bs.length → Dig xs → Dig bs → 0 ≤ c → c ≤ 1 →
    Dig (addAll xs bs c) ∧ (addAll xs bs c).length = xs.length ∧ ∃ t, valD (addAll xs bs c) = valD xs + valD bs + c + 65536 ^ xs.length * t
  | [], bs, c, hl, _, _, _, _ => by
    have : bs = [] := List.eq_nil_of_length_eq_zero hl.symm
    subst this
    exact ⟨Dig.nil, rfl, -c, by simp [addAll, valD]; omega⟩
  | a :: xs, [], c, hl, _, _, _, _ => by simp at hl
  | a :: xs, b :: bs, c, hl, ha, hb, h0, h1 => by
    obtain ⟨a0, a1⟩ := ha.head
    obtain ⟨b0, b1⟩ := hb.head
    have es : IntKind.i64.wrap (IntKind.i64.wrap (a + b) + c) = a + b + c := by rw [wrap_i64_of (n := a + b) (by omega) (by omega), wrap_i64_of (by omega) (by omega)]
    have er : r16 (a + b + c) = (a + b + c) % 65536 := tmod_pos (by omega)
    have eq : q16 (a + b + c) = (a + b + c) / 65536 := by unfold q16; rw [tdiv_pos (by omega), wrap_i64_of (by omega) (by omega)]
    obtain ⟨h2, h3, t, h4⟩ := addAll_ok xs bs (q16 (a + b + c)) (by simpa using hl) ha.tail hb.tail (by omega) (by omega)
    refine ⟨?_, ?_, t, ?_⟩
    · simp only [addAll, es]
      exact Dig.cons (by omega) (by omega) h2
    · simp only [addAll, es, List.length_cons, h3]
    · simp only [addAll, es, valD, h4, List.length_cons]
      have : (65536 : Int) ^ (xs.length + 1) * t = 65536 * (65536 ^ xs.length * t) := by rw [Int.pow_succ]; rw [Int.mul_comm _ 65536, Int.mul_assoc]
      rw [this, er, eq]
      omega

theorem mulRow_ok (a : Int) (a0 : 0 ≤ a) (a1 : a ≤ 65535) : ∀ (bs ds : List Int) (c : Int), ds.length ≤ bs.length → Dig bs → Dig ds → 0 ≤ c → c ≤ 65535 →
    Dig (mulRow a bs ds c) ∧ (mulRow a bs ds c).length = ds.length ∧ ∃ t, valD (mulRow a bs ds c) = valD ds + a * valD bs + c + 65536 ^ ds.length * t
  | bs, [], c, hl, _, _, _, _ => by
    refine ⟨?_, ?_, -(a * valD bs + c), ?_⟩
    · cases bs <;> exact Dig.nil
    · cases bs <;> rfl
    · cases bs <;> simp [mulRow, valD] <;> omega
  | [], d :: ds, c, hl, _, _, _, _ => by simp at hl
  | b :: bs, d :: ds, c, hl, hb, hd, h0, h1 => by
    obtain ⟨d0, d1⟩ := hd.head
    obtain ⟨b0, b1⟩ := hb.head
    have p0 : 0 ≤ a * b := Int.mul_nonneg a0 b0
    have p1 : a * b ≤ 65535 * 65535 := mul_le a0 b0 a1 b1
    have es : IntKind.i64.wrap (IntKind.i64.wrap (d + IntKind.i64.wrap (a * b)) + c) = d + a * b + c := by
      rw [wrap_i64_of (n := a * b) (by omega) (by omega), wrap_i64_of (n := d + a * b) (by omega) (by omega), wrap_i64_of (by omega) (by omega)]
    have ed : a * valD (b :: bs) = a * b + 65536 * (a * valD bs) := by
      show a * (b + 65536 * valD bs) = _
      rw [Int.mul_add, ← Int.mul_assoc, Int.mul_comm a 65536, Int.mul_assoc]
    have em : mulRow a (b :: bs) (d :: ds) c = r16 (d + a * b + c) :: mulRow a bs ds (q16 (d + a * b + c)) := by simp only [mulRow]; rw [es]
    rw [em]
    clear em es
    generalize a * b = p at *
    have er : r16 (d + p + c) = (d + p + c) % 65536 := tmod_pos (by omega)
    have eq : q16 (d + p + c) = (d + p + c) / 65536 := by unfold q16; rw [tdiv_pos (by omega), wrap_i64_of (by omega) (by omega)]
    obtain ⟨h2, h3, t, h4⟩ := mulRow_ok a a0 a1 bs ds (q16 (d + p + c)) (by simpa using hl) hb.tail hd.tail (by omega) (by omega)
    refine ⟨?_, ?_, t, ?_⟩
    · exact Dig.cons (by omega) (by omega) h2
    · simp only [List.length_cons, h3]
    · rw [ed]
      simp only [valD, h4, List.length_cons]
      have : (65536 : Int) ^ (ds.length + 1) * t = 65536 * (65536 ^ ds.length * t) := by rw [Int.pow_succ]; rw [Int.mul_comm _ 65536, Int.mul_assoc]
      rw [this, er, eq]
      omega

end Go.Proofs.Ytjfodgjgpeiaaaa.Wide
