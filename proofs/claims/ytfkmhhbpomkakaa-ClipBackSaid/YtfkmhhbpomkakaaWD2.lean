/- Package wide and its reference: products, sums, plain numbers, as numbers modulo 2^128. -/
import Derived.Test.YtfkmhhbpomkakaaWC2
namespace Go.Proofs.Ytfkmhhbpomkakaa.Wide
open Go Go.Dt Go.Proofs

/-- The eight digits of a number. -/
def digs (z : Int) : List Int := [z % 65536, z / 65536 % 65536, z / 4294967296 % 65536, z / 281474976710656 % 65536, z / 18446744073709551616 % 65536, z / 1208925819614629174706176 % 65536, z / 79228162514264337593543950336 % 65536, z / 5192296858534827628530496329220096 % 65536]

theorem DI_digs (z : Int) : DI z = V8 (digs z) := rfl

theorem digs_dig (z : Int) : Dig (digs z) := by
  intro d hd
  simp only [digs, List.mem_cons, List.not_mem_nil, or_false] at hd
  omega

theorem digs_val (z : Int) : ∃ t, valD (digs z) = z + 340282366920938463463374607431768211456 * t :=
  ⟨-(z / 340282366920938463463374607431768211456), by simp only [digs, valD]; omega⟩

/-- Eight digits, and the number that they stand for. -/
theorem V8_val {l : List Int} (hd : Dig l) (hl : l.length = 8) : V8 l = DI (valD l) := by
  match l, hl with
  | [a, b, c, d, e, f, g, h], _ =>
    have h0 := hd a (by simp); have h1 := hd b (by simp); have h2 := hd c (by simp); have h3 := hd d (by simp)
    have h4 := hd e (by simp); have h5 := hd f (by simp); have h6 := hd g (by simp); have h7 := hd h (by simp)
    have key : digs (valD [a, b, c, d, e, f, g, h]) = [a, b, c, d, e, f, g, h] := by
      simp only [valD, digs]
      congr 1
      · omega
      congr 1
      · omega
      congr 1
      · omega
      congr 1
      · omega
      congr 1
      · omega
      congr 1
      · omega
      congr 1
      · omega
      congr 1
      omega
    rw [DI_digs, key]

theorem mulAll_ok : ∀ (xs bs ds : List Int), xs.length = ds.length → ds.length ≤ bs.length → Dig xs → Dig bs → Dig ds →
    Dig (mulAll xs bs ds) ∧ (mulAll xs bs ds).length = ds.length ∧ ∃ t, valD (mulAll xs bs ds) = valD ds + valD xs * valD bs + 65536 ^ ds.length * t
  | [], bs, ds, hl, _, _, _, _ => by
    have : ds = [] := List.eq_nil_of_length_eq_zero hl.symm
    subst this
    exact ⟨Dig.nil, rfl, 0, by simp [mulAll, valD]⟩
  | a :: xs, bs, [], hl, _, _, _, _ => by simp at hl
  | a :: xs, bs, d :: ds, hl, hlb, hx, hb, hd => by
    obtain ⟨h1, h2, t, h3⟩ := mulRow_ok a hx.head.1 hx.head.2 bs (d :: ds) 0 hlb hb hd (by omega) (by omega)
    cases hr : mulRow a bs (d :: ds) 0 with
    | nil => rw [hr] at h2; simp at h2
    | cons e z =>
      rw [hr] at h1 h2 h3
      have hz : z.length = ds.length := by simpa using h2
      have em : mulAll (a :: xs) bs (d :: ds) = e :: mulAll xs bs z := by simp only [mulAll]; rw [hr]
      rw [em]
      obtain ⟨k1, k2, u, k3⟩ := mulAll_ok xs bs z (by rw [hz]; simpa using hl) (by rw [hz]; simp at hlb; omega) hx.tail hb h1.tail
      refine ⟨Dig.cons h1.head.1 h1.head.2 k1, by simp [k2, hz], t + u, ?_⟩
      show e + 65536 * valD (mulAll xs bs z) = _
      rw [k3]
      have h3' : e + 65536 * valD z = valD (d :: ds) + a * valD bs + 0 + 65536 ^ (d :: ds).length * t := h3
      have ea : valD (a :: xs) * valD bs = a * valD bs + 65536 * (valD xs * valD bs) := by
        show (a + 65536 * valD xs) * valD bs = _
        rw [Int.add_mul, Int.mul_assoc]
      have ep : (65536 : Int) ^ (d :: ds).length * (t + u) = 65536 ^ (d :: ds).length * t + 65536 * (65536 ^ z.length * u) := by
        rw [Int.mul_add, hz, List.length_cons, Int.pow_succ, ← Int.mul_assoc 65536 (65536 ^ ds.length) u, Int.mul_comm 65536 (65536 ^ ds.length)]
      rw [ea, ep]
      omega

theorem radd_ (A B : Int) : FnEq Try.prog 156 [DI A, DI B] [] (DI (A + B)) [] := by
  refine (show FnEq Try.prog 156 [V8 (digs A), V8 (digs B)] [] (V8 (addAll (digs A) (digs B) 0)) [] from add_raw _ _ _ _ _ _ _ _ _ _ _ _ _ _ _ _).val ?_
  obtain ⟨h1, h2, t, h3⟩ := addAll_ok (digs A) (digs B) 0 rfl (digs_dig A) (digs_dig B) (by omega) (by omega)
  rw [V8_val h1 h2, h3]
  obtain ⟨a, ha⟩ := digs_val A
  obtain ⟨b, hb⟩ := digs_val B
  refine DI_mod ?_
  have : (65536 : Int) ^ (digs A).length = 340282366920938463463374607431768211456 := by simp [digs]
  rw [ha, hb, this]
  omega

theorem mul_mod_form {A B a b m t : Int} : 0 + (A + m * a) * (B + m * b) + m * t = A * B + m * (A * b + a * B + m * (a * b) + t) := by
  simp only [Int.add_mul, Int.mul_add]
  have h1 : A * (m * b) = m * (A * b) := by rw [← Int.mul_assoc, Int.mul_comm A m, Int.mul_assoc]
  have h2 : m * a * B = m * (a * B) := by rw [Int.mul_assoc]
  have h3 : m * a * (m * b) = m * (m * (a * b)) := by rw [Int.mul_assoc, ← Int.mul_assoc a m b, Int.mul_comm a m, Int.mul_assoc m a b]
  rw [h1, h2, h3]
  omega

theorem rmul_ (A B : Int) : FnEq Try.prog 134 [DI A, DI B] [] (DI (A * B)) [] := by
  refine (show FnEq Try.prog 134 [V8 (digs A), V8 (digs B)] [] (V8 (mulAll (digs A) (digs B) [0, 0, 0, 0, 0, 0, 0, 0])) [] from mul_raw _ _ _ _ _ _ _ _ _ _ _ _ _ _ _ _).val ?_
  obtain ⟨h1, h2, t, h3⟩ := mulAll_ok (digs A) (digs B) [0, 0, 0, 0, 0, 0, 0, 0] rfl (by simp [digs]) (digs_dig A) (digs_dig B) (fun d hd => by simp at hd; omega)
  rw [V8_val h1 h2, h3]
  obtain ⟨a, ha⟩ := digs_val A
  obtain ⟨b, hb⟩ := digs_val B
  refine DI_mod ?_
  have e1 : (65536 : Int) ^ [(0 : Int), 0, 0, 0, 0, 0, 0, 0].length = 340282366920938463463374607431768211456 := by simp
  have e2 : valD [0, 0, 0, 0, 0, 0, 0, 0] = 0 := by decide
  rw [ha, hb, e1, e2, mul_mod_form]
  omega

theorem u16_div {x : Int} (hx : 0 ≤ x) (hx2 : x ≤ 18446744073709551615) : IntKind.u64.wrap (x.tdiv 65536) = x / 65536 := by
  rw [tdiv_pos hx]; exact wrap_u64_of (by omega) (by omega)
theorem i16_mod {x : Int} (hx : 0 ≤ x) : IntKind.i64.wrap (x.tmod 65536) = x % 65536 := by
  rw [tmod_pos hx]; exact wrap_i64_of (by omega) (by omega)

theorem rof_ (n : Int) (h1 : -9223372036854775808 ≤ n) (h2 : n ≤ 9223372036854775807) : FnEq Try.prog 135 [.int .i64 n] [] (DI n) [] := by
  have key : ∀ u, u = IntKind.u64.wrap n → ∀ d, d = (if n < 0 then (65535 : Int) else 0) →
      Value.agg ⟨[.int .i64 (IntKind.i64.wrap (u.tmod 65536)), .int .i64 (IntKind.i64.wrap ((IntKind.u64.wrap (u.tdiv 65536)).tmod 65536)), .int .i64 (IntKind.i64.wrap ((IntKind.u64.wrap ((IntKind.u64.wrap (u.tdiv 65536)).tdiv 65536)).tmod 65536)),
        .int .i64 (IntKind.i64.wrap ((IntKind.u64.wrap ((IntKind.u64.wrap ((IntKind.u64.wrap (u.tdiv 65536)).tdiv 65536)).tdiv 65536)).tmod 65536)), .int .i64 d, .int .i64 d, .int .i64 d, .int .i64 d]⟩ = DI n := by
    intro u hu d hd
    rw [wrap_u64] at hu
    have u0 : 0 ≤ u := by omega
    have u1 : u ≤ 18446744073709551615 := by omega
    rw [u16_div u0 u1, u16_div (x := u / 65536) (by omega) (by omega), u16_div (x := u / 65536 / 65536) (by omega) (by omega), i16_mod u0, i16_mod (by omega), i16_mod (by omega), i16_mod (by omega)]
    unfold DI
    have e0 : u % 65536 = n % 65536 := by omega
    have e1 : u / 65536 % 65536 = n / 65536 % 65536 := by omega
    have e2 : u / 65536 / 65536 % 65536 = n / 4294967296 % 65536 := by omega
    have e3 : u / 65536 / 65536 / 65536 % 65536 = n / 281474976710656 % 65536 := by omega
    have e4 : d = n / 18446744073709551616 % 65536 := by rw [hd]; split <;> omega
    have e5 : d = n / 1208925819614629174706176 % 65536 := by rw [hd]; split <;> omega
    have e6 : d = n / 79228162514264337593543950336 % 65536 := by rw [hd]; split <;> omega
    have e7 : d = n / 5192296858534827628530496329220096 % 65536 := by rw [hd]; split <;> omega
    rw [e0, e1, e2, e3, ← e4, ← e5, ← e6, ← e7]
  refine FnEq.run Try.func135 (by kernel_rfl) rfl <| RunsE.adv mixed 190 <| RunsE.branch (decide (n < 0)) (by kernel_rfl) (fun h => ?_) (fun h => ?_)
  · have hn : n < 0 := by simpa using h
    rw [← key _ rfl 65535 (by rw [if_pos hn])]
    exact RunsE.adv mixed 33 <| RunsE.cond (decide (n < 0)) true (by kernel_rfl) h <| RunsE.adv mixed 33 <| RunsE.cond (decide (n < 0)) true (by kernel_rfl) h <|
      RunsE.adv mixed 33 <| RunsE.cond (decide (n < 0)) true (by kernel_rfl) h <| RunsE.fin mixed Try.func135 1025 (by kernel_rfl)
  · have hn : ¬ n < 0 := by simpa using h
    rw [← key _ rfl 0 (by rw [if_neg hn])]
    exact RunsE.adv mixed 29 <| RunsE.cond (decide (n < 0)) false (by kernel_rfl) h <| RunsE.adv mixed 29 <| RunsE.cond (decide (n < 0)) false (by kernel_rfl) h <|
      RunsE.adv mixed 29 <| RunsE.cond (decide (n < 0)) false (by kernel_rfl) h <| RunsE.fin mixed Try.func135 1025 (by kernel_rfl)

/-! ### wide.Mul -/
theorem natAbs_mul_cases (a b : Int) : (a < 0 ↔ b < 0) ∧ (a.natAbs : Int) * b.natAbs = a * b ∨ ¬ (a < 0 ↔ b < 0) ∧ (a.natAbs : Int) * b.natAbs = -(a * b) := by
  rcases (show a < 0 ∨ 0 ≤ a by omega) with ha | ha <;> rcases (show b < 0 ∨ 0 ≤ b by omega) with hb | hb
  · left
    refine ⟨by simp [ha, hb], ?_⟩
    rw [show (a.natAbs : Int) = -a by omega, show (b.natAbs : Int) = -b by omega, Int.neg_mul_neg]
  · right
    refine ⟨by simp [ha, Int.not_lt.2 hb], ?_⟩
    rw [show (a.natAbs : Int) = -a by omega, show (b.natAbs : Int) = b by omega, Int.neg_mul]
  · right
    refine ⟨by simp [hb, Int.not_lt.2 ha], ?_⟩
    rw [show (a.natAbs : Int) = a by omega, show (b.natAbs : Int) = -b by omega, Int.mul_neg]
  · left
    refine ⟨by simp [Int.not_lt.2 ha, Int.not_lt.2 hb], ?_⟩
    rw [show (a.natAbs : Int) = a by omega, show (b.natAbs : Int) = b by omega]

theorem mul_ (a b : Int) (a1 : -9223372036854775808 ≤ a) (a2 : a ≤ 9223372036854775807) (b1 : -9223372036854775808 ≤ b) (b2 : b ≤ 9223372036854775807) : FnEq Try.prog 107 [.int .i64 a, .int .i64 b] [] (WI (a * b)) [] := by
  have hc := natAbs_mul_cases a b
  refine FnEq.run Try.func107 (by kernel_rfl) rfl <| RunsE.adv mixed 7 <| RunsE.call [.int .i64 a] Try.func139 (by kernel_rfl) (by kernel_rfl) rfl (amount_ a a1 a2) <|
    RunsE.adv mixed 1 <| RunsE.call [.int .i64 b] Try.func139 (by kernel_rfl) (by kernel_rfl) rfl (amount_ b b1 b2) <|
    RunsE.adv mixed 0 <| RunsE.call [.int .u64 a.natAbs, .int .u64 b.natAbs] Try.func138 (by kernel_rfl) (by kernel_rfl) rfl (mul64_ a.natAbs b.natAbs (by omega) (by omega) (by omega) (by omega)) <|
    RunsE.adv mixed 24 <| RunsE.branch (!(decide (a < 0) == decide (b < 0))) (by kernel_rfl) (fun h => ?_) (fun h => ?_)
  · rcases hc with ⟨hc, _⟩ | ⟨_, hp⟩
    · simp [hc] at h
    · have e : WI (a * b) = WI (-((a.natAbs : Int) * b.natAbs)) := by rw [hp, Int.neg_neg]
      rw [e]
      exact RunsE.adv mixed 3 <| RunsE.call [WI ((a.natAbs : Int) * b.natAbs)] Try.func140 (by kernel_rfl) (by kernel_rfl) rfl (neg_WI _) <| RunsE.fin mixed Try.func107 1002 (by kernel_rfl)
  · rcases hc with ⟨_, hp⟩ | ⟨hc, _⟩
    · rw [← hp]
      exact RunsE.fin mixed Try.func107 1006 (by kernel_rfl)
    · exact absurd (by simpa using h) hc

end Go.Proofs.Ytfkmhhbpomkakaa.Wide
