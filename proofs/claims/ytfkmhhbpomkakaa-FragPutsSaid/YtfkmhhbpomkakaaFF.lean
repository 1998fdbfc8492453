/- Blending. -/
import Derived.Test.YtfkmhhbpomkakaaFE
import Derived.Test.YtfkmhhbpomkakaaBA2
namespace Go.Proofs.Ytfkmhhbpomkakaa.Frag
open Go Go.Dt Go.Proofs
set_option linter.unusedVariables false
set_option linter.unusedSimpArgs false

def fac (k x y e f : Int) : Int := if k = 0 then 0 else if k = 1 then 255 else if k = 2 then x else if k = 3 then IntKind.i64.wrap (255 - x) else if k = 4 then y else if k = 5 then IntKind.i64.wrap (255 - y) else if k = 6 then e else if k = 7 then IntKind.i64.wrap (255 - e) else if k = 8 then f else IntKind.i64.wrap (255 - f)
def cutN (n : Int) : Int := sat (IntKind.i64.wrap ((IntKind.i64.wrap (n + 127)).tdiv 255)) 0 255
def eqOf (k a fa b fb : Int) : Int := if k = 1 then cutN (if 0 > IntKind.i64.wrap (IntKind.i64.wrap (a * fa) - IntKind.i64.wrap (b * fb)) then 0 else IntKind.i64.wrap (IntKind.i64.wrap (a * fa) - IntKind.i64.wrap (b * fb))) else if k = 2 then cutN (if 0 > IntKind.i64.wrap (IntKind.i64.wrap (b * fb) - IntKind.i64.wrap (a * fa)) then 0 else IntKind.i64.wrap (IntKind.i64.wrap (b * fb) - IntKind.i64.wrap (a * fa)))
  else if k = 3 then (if b < a then b else a) else if k = 4 then (if b > a then b else a) else cutN (IntKind.i64.wrap (IntKind.i64.wrap (a * fa) + IntKind.i64.wrap (b * fb)))
def chan (b0 b1 b2 x y e f : Int) : Int := eqOf b2 x (fac b0 x y e f) y (fac b1 x y e f)
abbrev mixC (b0 b1 b2 b3 r g b a x y z w : Int) : Value := C4 (bif b3 % 2 == 1 then chan b0 b1 b2 r x a w else x) (bif b3 / 2 % 2 == 1 then chan b0 b1 b2 g y a w else y) (bif b3 / 4 % 2 == 1 then chan b0 b1 b2 b z a w else z) (bif b3 / 8 % 2 == 1 then chan b0 b1 b2 a w a w else w)

theorem tintOk {r g b a : Int} (h : rightC r g b a = true) : Con Try.prog 74 [C4 r g b a] (.bool true) := h ▸ c_tint r g b a
theorem c_blend0 {b0 b1 b2 b3 : Int} (h0 : 0 ≤ b0 ∧ b0 ≤ 9) (h1 : 0 ≤ b1 ∧ b1 ≤ 9) (h2 : 0 ≤ b2 ∧ b2 ≤ 4) (h3 : 0 ≤ b3 ∧ b3 ≤ 15) : Con Try.prog 115 [R4 b0 b1 b2 b3] (.int .i64 0) := c_blendE.val rfl (by rw [blendE, if_pos ⟨h0, h1, h2⟩, if_pos h3])
theorem fac10 {k : Int} (h : 0 ≤ k ∧ k ≤ 9) : k = 0 ∨ k = 1 ∨ k = 2 ∨ k = 3 ∨ k = 4 ∨ k = 5 ∨ k = 6 ∨ k = 7 ∨ k = 8 ∨ k = 9 := by omega
theorem c_fac {k r g b a x y z w : Int} (hk : 0 ≤ k ∧ k ≤ 9) (h1 : rightC r g b a = true) (h2 : rightC x y z w = true) : Con Try.prog 124 [.int .i64 k, C4 r g b a, C4 x y z w] (.tuple ⟨[C4 (fac k r x a w) (fac k g y a w) (fac k b z a w) (fac k a w a w), .int .i64 0]⟩) := by
  rcases fac10 hk with rfl | rfl | rfl | rfl | rfl | rfl | rfl | rfl | rfl | rfl
  · exact Con.run Try.func124 (by kernel_rfl) rfl <| R.call mixed (tintOk h1) (by kernel_rfl) <| R.call mixed (tintOk h2) (by kernel_rfl) <| R.fin mixed Try.func124 (by kernel_rfl)
  · exact Con.run Try.func124 (by kernel_rfl) rfl <| R.call mixed (tintOk h1) (by kernel_rfl) <| R.call mixed (tintOk h2) (by kernel_rfl) <| R.fin mixed Try.func124 (by kernel_rfl)
  · exact Con.run Try.func124 (by kernel_rfl) rfl <| R.call mixed (tintOk h1) (by kernel_rfl) <| R.call mixed (tintOk h2) (by kernel_rfl) <| R.fin mixed Try.func124 (by kernel_rfl)
  · exact Con.run Try.func124 (by kernel_rfl) rfl <| R.call mixed (tintOk h1) (by kernel_rfl) <| R.call mixed (tintOk h2) (by kernel_rfl) <| R.fin mixed Try.func124 (by kernel_rfl)
  · exact Con.run Try.func124 (by kernel_rfl) rfl <| R.call mixed (tintOk h1) (by kernel_rfl) <| R.call mixed (tintOk h2) (by kernel_rfl) <| R.fin mixed Try.func124 (by kernel_rfl)
  · exact Con.run Try.func124 (by kernel_rfl) rfl <| R.call mixed (tintOk h1) (by kernel_rfl) <| R.call mixed (tintOk h2) (by kernel_rfl) <| R.fin mixed Try.func124 (by kernel_rfl)
  · exact Con.run Try.func124 (by kernel_rfl) rfl <| R.call mixed (tintOk h1) (by kernel_rfl) <| R.call mixed (tintOk h2) (by kernel_rfl) <| R.fin mixed Try.func124 (by kernel_rfl)
  · exact Con.run Try.func124 (by kernel_rfl) rfl <| R.call mixed (tintOk h1) (by kernel_rfl) <| R.call mixed (tintOk h2) (by kernel_rfl) <| R.fin mixed Try.func124 (by kernel_rfl)
  · exact Con.run Try.func124 (by kernel_rfl) rfl <| R.call mixed (tintOk h1) (by kernel_rfl) <| R.call mixed (tintOk h2) (by kernel_rfl) <| R.fin mixed Try.func124 (by kernel_rfl)
  · exact Con.run Try.func124 (by kernel_rfl) rfl <| R.call mixed (tintOk h1) (by kernel_rfl) <| R.call mixed (tintOk h2) (by kernel_rfl) <| R.fin mixed Try.func124 (by kernel_rfl)

theorem c_rfac {k x y e f : Int} (hk : 0 ≤ k ∧ k ≤ 9) : Con Try.prog 153 [.int .i64 k, .int .i64 x, .int .i64 y, .int .i64 e, .int .i64 f] (.int .i64 (fac k x y e f)) := by
  rcases fac10 hk with rfl | rfl | rfl | rfl | rfl | rfl | rfl | rfl | rfl | rfl
  · exact Con.run Try.func153 (by kernel_rfl) rfl <| R.fin mixed Try.func153 (by kernel_rfl)
  · exact Con.run Try.func153 (by kernel_rfl) rfl <| R.fin mixed Try.func153 (by kernel_rfl)
  · exact Con.run Try.func153 (by kernel_rfl) rfl <| R.fin mixed Try.func153 (by kernel_rfl)
  · exact Con.run Try.func153 (by kernel_rfl) rfl <| R.fin mixed Try.func153 (by kernel_rfl)
  · exact Con.run Try.func153 (by kernel_rfl) rfl <| R.fin mixed Try.func153 (by kernel_rfl)
  · exact Con.run Try.func153 (by kernel_rfl) rfl <| R.fin mixed Try.func153 (by kernel_rfl)
  · exact Con.run Try.func153 (by kernel_rfl) rfl <| R.fin mixed Try.func153 (by kernel_rfl)
  · exact Con.run Try.func153 (by kernel_rfl) rfl <| R.fin mixed Try.func153 (by kernel_rfl)
  · exact Con.run Try.func153 (by kernel_rfl) rfl <| R.fin mixed Try.func153 (by kernel_rfl)
  · exact Con.run Try.func153 (by kernel_rfl) rfl <| R.fin mixed Try.func153 (by kernel_rfl)

theorem c_cut (n : Int) : Con Try.prog 147 [.int .i64 n] (.int .i64 (cutN n)) := Con.run Try.func147 (by kernel_rfl) rfl <| R.call mixed (c_sat (IntKind.i64.wrap ((IntKind.i64.wrap (n + 127)).tdiv 255)) 0 255) (by kernel_rfl) <| R.fin mixed Try.func147 (by kernel_rfl)
theorem ConM.eval {g : FuncId} {fn : Func} {args : List Value} {u : Value} {m' : List Blk} (n : Nat) (hf : Try.prog.funcs[g]? = some fn) (hn : ((fn.name == "runtime.NumGoroutine") || fn.body.isNone) = false) (hb : fn.body.isSome = true)
    (hev : evalF Try.prog [] n fn (entry fn args []) = some (u, m')) : ConM Try.prog g args [] u m' where
  eq := FnEq.of_runs (m := []) hf hb (evalF_ok (n0 := 0) mixed (X := []) (fun f e h => by simp at h) n hf hev)
  fn := ⟨fn, hf, hn⟩
def cutB : List Blk := [.cells [.func (.func 147) ⟨[]⟩ ⟨[]⟩] 1 true]
theorem c_equation0 : ConM Try.prog 125 [.int .i64 0] [] (.func (.func 152) ⟨[]⟩ ⟨[.pointer (some ⟨0, 0, none⟩)]⟩) [.cells [.func (.func 147) ⟨[]⟩ ⟨[]⟩] 0 true] := ConM.eval 60 Try.func125 (by kernel_rfl) (by kernel_rfl) (by kernel_rfl)
theorem c_eq0 (a fa b fb : Int) : ConM Try.prog 152 [.int .i64 a, .int .i64 fa, .int .i64 b, .int .i64 fb, .pointer (some ⟨0, 0, none⟩)] [.cells [.func (.func 147) ⟨[]⟩ ⟨[]⟩] 0 false] (.int .i64 (eqOf 0 a fa b fb)) (List.replicate 1 .gone) :=
  ConM.reads Try.func152 (by kernel_rfl) rfl <| R.call mixed (c_cut (IntKind.i64.wrap (IntKind.i64.wrap (a * fa) + IntKind.i64.wrap (b * fb)))) (by kernel_rfl) <| R.fin mixed Try.func152 (by kernel_rfl)
theorem c_equation1 : ConM Try.prog 125 [.int .i64 1] [] (.func (.func 148) ⟨[]⟩ ⟨[.pointer (some ⟨0, 0, none⟩)]⟩) [.cells [.func (.func 147) ⟨[]⟩ ⟨[]⟩] 0 true] := ConM.eval 60 Try.func125 (by kernel_rfl) (by kernel_rfl) (by kernel_rfl)
theorem c_eq1 (a fa b fb : Int) : ConM Try.prog 148 [.int .i64 a, .int .i64 fa, .int .i64 b, .int .i64 fb, .pointer (some ⟨0, 0, none⟩)] [.cells [.func (.func 147) ⟨[]⟩ ⟨[]⟩] 0 false] (.int .i64 (eqOf 1 a fa b fb)) (List.replicate 1 .gone) :=
  ConM.reads Try.func148 (by kernel_rfl) rfl <| R.call mixed (c_cut (if 0 > IntKind.i64.wrap (IntKind.i64.wrap (a * fa) - IntKind.i64.wrap (b * fb)) then 0 else IntKind.i64.wrap (IntKind.i64.wrap (a * fa) - IntKind.i64.wrap (b * fb)))) (by kernel_rfl) <| R.fin mixed Try.func148 (by kernel_rfl)
theorem c_equation2 : ConM Try.prog 125 [.int .i64 2] [] (.func (.func 149) ⟨[]⟩ ⟨[.pointer (some ⟨0, 0, none⟩)]⟩) [.cells [.func (.func 147) ⟨[]⟩ ⟨[]⟩] 0 true] := ConM.eval 60 Try.func125 (by kernel_rfl) (by kernel_rfl) (by kernel_rfl)
theorem c_eq2 (a fa b fb : Int) : ConM Try.prog 149 [.int .i64 a, .int .i64 fa, .int .i64 b, .int .i64 fb, .pointer (some ⟨0, 0, none⟩)] [.cells [.func (.func 147) ⟨[]⟩ ⟨[]⟩] 0 false] (.int .i64 (eqOf 2 a fa b fb)) (List.replicate 1 .gone) :=
  ConM.reads Try.func149 (by kernel_rfl) rfl <| R.call mixed (c_cut (if 0 > IntKind.i64.wrap (IntKind.i64.wrap (b * fb) - IntKind.i64.wrap (a * fa)) then 0 else IntKind.i64.wrap (IntKind.i64.wrap (b * fb) - IntKind.i64.wrap (a * fa)))) (by kernel_rfl) <| R.fin mixed Try.func149 (by kernel_rfl)
theorem c_equation3 : ConM Try.prog 125 [.int .i64 3] [] (.func (.func 150) ⟨[]⟩ ⟨[]⟩) [.cells [.func (.func 147) ⟨[]⟩ ⟨[]⟩] 0 true] := ConM.eval 60 Try.func125 (by kernel_rfl) (by kernel_rfl) (by kernel_rfl)
theorem c_eq3 (a fa b fb : Int) : Con Try.prog 150 [.int .i64 a, .int .i64 fa, .int .i64 b, .int .i64 fb] (.int .i64 (eqOf 3 a fa b fb)) := Con.run Try.func150 (by kernel_rfl) rfl <| R.fin mixed Try.func150 (by kernel_rfl)
theorem c_equation4 : ConM Try.prog 125 [.int .i64 4] [] (.func (.func 151) ⟨[]⟩ ⟨[]⟩) [.cells [.func (.func 147) ⟨[]⟩ ⟨[]⟩] 0 true] := ConM.eval 60 Try.func125 (by kernel_rfl) (by kernel_rfl) (by kernel_rfl)
theorem c_eq4 (a fa b fb : Int) : Con Try.prog 151 [.int .i64 a, .int .i64 fa, .int .i64 b, .int .i64 fb] (.int .i64 (eqOf 4 a fa b fb)) := Con.run Try.func151 (by kernel_rfl) rfl <| R.fin mixed Try.func151 (by kernel_rfl)
theorem mask16 {k : Int} (h : 0 ≤ k ∧ k ≤ 15) : k = 0 ∨ k = 1 ∨ k = 2 ∨ k = 3 ∨ k = 4 ∨ k = 5 ∨ k = 6 ∨ k = 7 ∨ k = 8 ∨ k = 9 ∨ k = 10 ∨ k = 11 ∨ k = 12 ∨ k = 13 ∨ k = 14 ∨ k = 15 := by omega

theorem fac_b {k x y e f : Int} (hx : 0 ≤ x ∧ x ≤ 255) (hy : 0 ≤ y ∧ y ≤ 255) (he : 0 ≤ e ∧ e ≤ 255) (hf : 0 ≤ f ∧ f ≤ 255) : 0 ≤ fac k x y e f ∧ fac k x y e f ≤ 255 := by
  unfold fac
  rw [wr_id (n := 255 - x) (by omega) (by omega), wr_id (n := 255 - y) (by omega) (by omega), wr_id (n := 255 - e) (by omega) (by omega), wr_id (n := 255 - f) (by omega) (by omega)]
  repeat' split
  all_goals omega
theorem mul_b {x y : Int} (hx : 0 ≤ x ∧ x ≤ 255) (hy : 0 ≤ y ∧ y ≤ 255) : 0 ≤ x * y ∧ x * y ≤ 65025 := by
  refine ⟨Int.mul_nonneg hx.1 hy.1, ?_⟩
  have := Int.mul_le_mul hx.2 hy.2 hy.1 (by omega)
  omega
theorem cut_pos {n : Int} (h0 : 0 ≤ n) (h1 : n ≤ 200000) : cutN n = sat ((n + 127) / 255) 0 255 := by
  unfold cutN
  rw [wrap_i64_of (n := n + 127) (by omega) (by omega), Int.tdiv_eq_ediv_of_nonneg (by omega), wrap_i64_of (by omega) (by omega)]
theorem cut_max {n : Int} (h0 : -200000 ≤ n) (h1 : n ≤ 200000) : cutN (if 0 > n then 0 else n) = sat ((n + 127) / 255) 0 255 := by
  split
  · rw [cut_pos (by omega) (by omega)]
    unfold sat
    repeat' split
    all_goals omega
  · exact cut_pos (by omega) h1

theorem c_rchan {b0 b1 b2 b3 x y e f : Int} (h0 : 0 ≤ b0 ∧ b0 ≤ 9) (h1 : 0 ≤ b1 ∧ b1 ≤ 9) (hx : 0 ≤ x ∧ x ≤ 255) (hy : 0 ≤ y ∧ y ≤ 255) (he : 0 ≤ e ∧ e ≤ 255) (hf : 0 ≤ f ∧ f ≤ 255) : Con Try.prog 132 [R4 b0 b1 b2 b3, .int .i64 x, .int .i64 y, .int .i64 e, .int .i64 f] (.int .i64 (chan b0 b1 b2 x y e f)) := by
  have p := mul_b hx (fac_b (k := b0) hx hy he hf)
  have q := mul_b hy (fac_b (k := b1) hx hy he hf)
  have wp : IntKind.i64.wrap (x * fac b0 x y e f) = x * fac b0 x y e f := wrap_i64_of (by omega) (by omega)
  have wq : IntKind.i64.wrap (y * fac b1 x y e f) = y * fac b1 x y e f := wrap_i64_of (by omega) (by omega)
  have s0 : IntKind.i64.wrap (IntKind.i64.wrap (x * fac b0 x y e f) + IntKind.i64.wrap (y * fac b1 x y e f)) = x * fac b0 x y e f + y * fac b1 x y e f := by rw [wp, wq]; exact wrap_i64_of (by omega) (by omega)
  have s1 : IntKind.i64.wrap (IntKind.i64.wrap (x * fac b0 x y e f) - IntKind.i64.wrap (y * fac b1 x y e f)) = x * fac b0 x y e f - y * fac b1 x y e f := by rw [wp, wq]; exact wrap_i64_of (by omega) (by omega)
  have s2 : IntKind.i64.wrap (IntKind.i64.wrap (y * fac b1 x y e f) - IntKind.i64.wrap (x * fac b0 x y e f)) = y * fac b1 x y e f - x * fac b0 x y e f := by rw [wp, wq]; exact wrap_i64_of (by omega) (by omega)
  have t0 : IntKind.i64.wrap (IntKind.i64.wrap (IntKind.i64.wrap (x * fac b0 x y e f) + IntKind.i64.wrap (y * fac b1 x y e f)) + 127) = x * fac b0 x y e f + y * fac b1 x y e f + 127 := by rw [s0]; exact wrap_i64_of (by omega) (by omega)
  have t1 : IntKind.i64.wrap (IntKind.i64.wrap (IntKind.i64.wrap (x * fac b0 x y e f) - IntKind.i64.wrap (y * fac b1 x y e f)) + 127) = x * fac b0 x y e f - y * fac b1 x y e f + 127 := by rw [s1]; exact wrap_i64_of (by omega) (by omega)
  have t2 : IntKind.i64.wrap (IntKind.i64.wrap (IntKind.i64.wrap (y * fac b1 x y e f) - IntKind.i64.wrap (x * fac b0 x y e f)) + 127) = y * fac b1 x y e f - x * fac b0 x y e f + 127 := by rw [s2]; exact wrap_i64_of (by omega) (by omega)
  have u0 := cut_pos (n := x * fac b0 x y e f + y * fac b1 x y e f) (by omega) (by omega)
  have u1 := cut_max (n := x * fac b0 x y e f - y * fac b1 x y e f) (by omega) (by omega)
  have u2 := cut_max (n := y * fac b1 x y e f - x * fac b0 x y e f) (by omega) (by omega)
  exact Con.run Try.func132 (by kernel_rfl) rfl <|
    R.call mixed (show Con Try.prog 153 [Value.int IntKind.i64 b0, Value.int IntKind.i64 x, Value.int IntKind.i64 y, Value.int IntKind.i64 e, Value.int IntKind.i64 f] (Value.int IntKind.i64 (fac b0 x y e f)) from (c_rfac (by assumption))) (by kernel_rfl) <|
    R.call mixed (show Con Try.prog 153 [Value.int IntKind.i64 b1, Value.int IntKind.i64 x, Value.int IntKind.i64 y, Value.int IntKind.i64 e, Value.int IntKind.i64 f] (Value.int IntKind.i64 (fac b1 x y e f)) from (c_rfac (by assumption))) (by kernel_rfl) <|
    R.branch mixed 10 (b2 == 3) (by kernel_rfl)
     (fun h0 =>
       R.call mixed (show Con Try.prog 36 [Value.int IntKind.i64 x, Value.int IntKind.i64 y] (Value.int IntKind.i64 (if x < y then x else y)) from (Bary.c_low _ _)) (by kernel_rfl) <|
       R.finIs mixed Try.func132 (Value.int IntKind.i64 (if x < y then x else y)) (by kernel_rfl) (by unfold chan eqOf; simp only [beq_iff_eq, beq_eq_false_iff_ne] at *; first | (exfalso; omega) | (rw [t0, s0, u0]; simp [*]; done) | (rw [t1, s1, u1]; simp [*]; done) | (rw [t2, s2, u2]; simp [*]; done) | (simp [*]; (repeat' split) <;> omega))
     )
     (fun h0 =>
       R.branch mixed 8 (b2 == 4) (by kernel_rfl)
        (fun h1 =>
          R.call mixed (show Con Try.prog 37 [Value.int IntKind.i64 x, Value.int IntKind.i64 y] (Value.int IntKind.i64 (if x > y then x else y)) from (Bary.c_high _ _)) (by kernel_rfl) <|
          R.finIs mixed Try.func132 (Value.int IntKind.i64 (if x > y then x else y)) (by kernel_rfl) (by unfold chan eqOf; simp only [beq_iff_eq, beq_eq_false_iff_ne] at *; first | (exfalso; omega) | (rw [t0, s0, u0]; simp [*]; done) | (rw [t1, s1, u1]; simp [*]; done) | (rw [t2, s2, u2]; simp [*]; done) | (simp [*]; (repeat' split) <;> omega))
        )
        (fun h1 =>
          R.branch mixed 15 (b2 == 1) (by kernel_rfl)
           (fun h2 =>
             R.branch mixed 13 (b2 == 2) (by kernel_rfl)
              (fun h3 =>
                R.call mixed (show Con Try.prog 104 [Value.int IntKind.i64 (IntKind.i64.wrap (IntKind.i64.wrap (IntKind.i64.wrap (y * fac b1 x y e f) - IntKind.i64.wrap (x * fac b0 x y e f)) + 127)), Value.int IntKind.i64 255] (Value.int IntKind.i64 (IntKind.i64.wrap (IntKind.i64.wrap (IntKind.i64.wrap (y * fac b1 x y e f) - IntKind.i64.wrap (x * fac b0 x y e f)) + 127) / 255)) from (Bary.c_floor1 _ _ (by omega) (by omega) (by omega) (by omega))) (by kernel_rfl) <|
                R.call mixed (show Con Try.prog 154 [Value.int IntKind.i64 (IntKind.i64.wrap (IntKind.i64.wrap (IntKind.i64.wrap (y * fac b1 x y e f) - IntKind.i64.wrap (x * fac b0 x y e f)) + 127) / 255), Value.int IntKind.i64 0, Value.int IntKind.i64 255] (Value.int IntKind.i64 (sat (IntKind.i64.wrap (IntKind.i64.wrap (IntKind.i64.wrap (y * fac b1 x y e f) - IntKind.i64.wrap (x * fac b0 x y e f)) + 127) / 255) 0 255)) from c_rsat3) (by kernel_rfl) <|
                R.finIs mixed Try.func132 (Value.int IntKind.i64 (sat (IntKind.i64.wrap (IntKind.i64.wrap (IntKind.i64.wrap (y * fac b1 x y e f) - IntKind.i64.wrap (x * fac b0 x y e f)) + 127) / 255) 0 255)) (by kernel_rfl) (by unfold chan eqOf; simp only [beq_iff_eq, beq_eq_false_iff_ne] at *; first | (exfalso; omega) | (rw [t0, s0, u0]; simp [*]; done) | (rw [t1, s1, u1]; simp [*]; done) | (rw [t2, s2, u2]; simp [*]; done) | (simp [*]; (repeat' split) <;> omega))
              )
              (fun h3 =>
                R.call mixed (show Con Try.prog 104 [Value.int IntKind.i64 (IntKind.i64.wrap (IntKind.i64.wrap (IntKind.i64.wrap (x * fac b0 x y e f) - IntKind.i64.wrap (y * fac b1 x y e f)) + 127)), Value.int IntKind.i64 255] (Value.int IntKind.i64 (IntKind.i64.wrap (IntKind.i64.wrap (IntKind.i64.wrap (x * fac b0 x y e f) - IntKind.i64.wrap (y * fac b1 x y e f)) + 127) / 255)) from (Bary.c_floor1 _ _ (by omega) (by omega) (by omega) (by omega))) (by kernel_rfl) <|
                R.call mixed (show Con Try.prog 154 [Value.int IntKind.i64 (IntKind.i64.wrap (IntKind.i64.wrap (IntKind.i64.wrap (x * fac b0 x y e f) - IntKind.i64.wrap (y * fac b1 x y e f)) + 127) / 255), Value.int IntKind.i64 0, Value.int IntKind.i64 255] (Value.int IntKind.i64 (sat (IntKind.i64.wrap (IntKind.i64.wrap (IntKind.i64.wrap (x * fac b0 x y e f) - IntKind.i64.wrap (y * fac b1 x y e f)) + 127) / 255) 0 255)) from c_rsat3) (by kernel_rfl) <|
                R.finIs mixed Try.func132 (Value.int IntKind.i64 (sat (IntKind.i64.wrap (IntKind.i64.wrap (IntKind.i64.wrap (x * fac b0 x y e f) - IntKind.i64.wrap (y * fac b1 x y e f)) + 127) / 255) 0 255)) (by kernel_rfl) (by unfold chan eqOf; simp only [beq_iff_eq, beq_eq_false_iff_ne] at *; first | (exfalso; omega) | (rw [t0, s0, u0]; simp [*]; done) | (rw [t1, s1, u1]; simp [*]; done) | (rw [t2, s2, u2]; simp [*]; done) | (simp [*]; (repeat' split) <;> omega))
              )
           )
           (fun h2 =>
             R.branch mixed 8 (b2 == 2) (by kernel_rfl)
              (fun h3 =>
                R.call mixed (show Con Try.prog 104 [Value.int IntKind.i64 (IntKind.i64.wrap (IntKind.i64.wrap (IntKind.i64.wrap (y * fac b1 x y e f) - IntKind.i64.wrap (x * fac b0 x y e f)) + 127)), Value.int IntKind.i64 255] (Value.int IntKind.i64 (IntKind.i64.wrap (IntKind.i64.wrap (IntKind.i64.wrap (y * fac b1 x y e f) - IntKind.i64.wrap (x * fac b0 x y e f)) + 127) / 255)) from (Bary.c_floor1 _ _ (by omega) (by omega) (by omega) (by omega))) (by kernel_rfl) <|
                R.call mixed (show Con Try.prog 154 [Value.int IntKind.i64 (IntKind.i64.wrap (IntKind.i64.wrap (IntKind.i64.wrap (y * fac b1 x y e f) - IntKind.i64.wrap (x * fac b0 x y e f)) + 127) / 255), Value.int IntKind.i64 0, Value.int IntKind.i64 255] (Value.int IntKind.i64 (sat (IntKind.i64.wrap (IntKind.i64.wrap (IntKind.i64.wrap (y * fac b1 x y e f) - IntKind.i64.wrap (x * fac b0 x y e f)) + 127) / 255) 0 255)) from c_rsat3) (by kernel_rfl) <|
                R.finIs mixed Try.func132 (Value.int IntKind.i64 (sat (IntKind.i64.wrap (IntKind.i64.wrap (IntKind.i64.wrap (y * fac b1 x y e f) - IntKind.i64.wrap (x * fac b0 x y e f)) + 127) / 255) 0 255)) (by kernel_rfl) (by unfold chan eqOf; simp only [beq_iff_eq, beq_eq_false_iff_ne] at *; first | (exfalso; omega) | (rw [t0, s0, u0]; simp [*]; done) | (rw [t1, s1, u1]; simp [*]; done) | (rw [t2, s2, u2]; simp [*]; done) | (simp [*]; (repeat' split) <;> omega))
              )
              (fun h3 =>
                R.call mixed (show Con Try.prog 104 [Value.int IntKind.i64 (IntKind.i64.wrap (IntKind.i64.wrap (IntKind.i64.wrap (x * fac b0 x y e f) + IntKind.i64.wrap (y * fac b1 x y e f)) + 127)), Value.int IntKind.i64 255] (Value.int IntKind.i64 (IntKind.i64.wrap (IntKind.i64.wrap (IntKind.i64.wrap (x * fac b0 x y e f) + IntKind.i64.wrap (y * fac b1 x y e f)) + 127) / 255)) from (Bary.c_floor1 _ _ (by omega) (by omega) (by omega) (by omega))) (by kernel_rfl) <|
                R.call mixed (show Con Try.prog 154 [Value.int IntKind.i64 (IntKind.i64.wrap (IntKind.i64.wrap (IntKind.i64.wrap (x * fac b0 x y e f) + IntKind.i64.wrap (y * fac b1 x y e f)) + 127) / 255), Value.int IntKind.i64 0, Value.int IntKind.i64 255] (Value.int IntKind.i64 (sat (IntKind.i64.wrap (IntKind.i64.wrap (IntKind.i64.wrap (x * fac b0 x y e f) + IntKind.i64.wrap (y * fac b1 x y e f)) + 127) / 255) 0 255)) from c_rsat3) (by kernel_rfl) <|
                R.finIs mixed Try.func132 (Value.int IntKind.i64 (sat (IntKind.i64.wrap (IntKind.i64.wrap (IntKind.i64.wrap (x * fac b0 x y e f) + IntKind.i64.wrap (y * fac b1 x y e f)) + 127) / 255) 0 255)) (by kernel_rfl) (by unfold chan eqOf; simp only [beq_iff_eq, beq_eq_false_iff_ne] at *; first | (exfalso; omega) | (rw [t0, s0, u0]; simp [*]; done) | (rw [t1, s1, u1]; simp [*]; done) | (rw [t2, s2, u2]; simp [*]; done) | (simp [*]; (repeat' split) <;> omega))
              )
           )
        )
     )

theorem c_rmix_0 {b0 b1 b2 r g b a x y z w : Int} (h0 : 0 ≤ b0 ∧ b0 ≤ 9) (h1 : 0 ≤ b1 ∧ b1 ≤ 9) (hc : rightC r g b a = true) (hd : rightC x y z w = true) : Con Try.prog 93 [R4 b0 b1 b2 0, C4 r g b a, C4 x y z w] (mixC b0 b1 b2 0 r g b a x y z w) := by
  simp only [rightC, Bool.and_eq_true, is8_iff] at hc hd
  obtain ⟨kr, kg, kb, ka⟩ := hc
  obtain ⟨kx, ky, kz, kw⟩ := hd
  exact Con.run Try.func93 (by kernel_rfl) rfl <| R.fin mixed Try.func93 (by kernel_rfl)
theorem c_rmix_1 {b0 b1 b2 r g b a x y z w : Int} (h0 : 0 ≤ b0 ∧ b0 ≤ 9) (h1 : 0 ≤ b1 ∧ b1 ≤ 9) (hc : rightC r g b a = true) (hd : rightC x y z w = true) : Con Try.prog 93 [R4 b0 b1 b2 1, C4 r g b a, C4 x y z w] (mixC b0 b1 b2 1 r g b a x y z w) := by
  simp only [rightC, Bool.and_eq_true, is8_iff] at hc hd
  obtain ⟨kr, kg, kb, ka⟩ := hc
  obtain ⟨kx, ky, kz, kw⟩ := hd
  exact Con.run Try.func93 (by kernel_rfl) rfl <| R.call mixed (c_rchan (b2 := b2) (b3 := 1) h0 h1 kr kx ka kw) (by kernel_rfl) <| R.fin mixed Try.func93 (by kernel_rfl)
theorem c_rmix_2 {b0 b1 b2 r g b a x y z w : Int} (h0 : 0 ≤ b0 ∧ b0 ≤ 9) (h1 : 0 ≤ b1 ∧ b1 ≤ 9) (hc : rightC r g b a = true) (hd : rightC x y z w = true) : Con Try.prog 93 [R4 b0 b1 b2 2, C4 r g b a, C4 x y z w] (mixC b0 b1 b2 2 r g b a x y z w) := by
  simp only [rightC, Bool.and_eq_true, is8_iff] at hc hd
  obtain ⟨kr, kg, kb, ka⟩ := hc
  obtain ⟨kx, ky, kz, kw⟩ := hd
  exact Con.run Try.func93 (by kernel_rfl) rfl <| R.call mixed (c_rchan (b2 := b2) (b3 := 2) h0 h1 kg ky ka kw) (by kernel_rfl) <| R.fin mixed Try.func93 (by kernel_rfl)
theorem c_rmix_3 {b0 b1 b2 r g b a x y z w : Int} (h0 : 0 ≤ b0 ∧ b0 ≤ 9) (h1 : 0 ≤ b1 ∧ b1 ≤ 9) (hc : rightC r g b a = true) (hd : rightC x y z w = true) : Con Try.prog 93 [R4 b0 b1 b2 3, C4 r g b a, C4 x y z w] (mixC b0 b1 b2 3 r g b a x y z w) := by
  simp only [rightC, Bool.and_eq_true, is8_iff] at hc hd
  obtain ⟨kr, kg, kb, ka⟩ := hc
  obtain ⟨kx, ky, kz, kw⟩ := hd
  exact Con.run Try.func93 (by kernel_rfl) rfl <| R.call mixed (c_rchan (b2 := b2) (b3 := 3) h0 h1 kr kx ka kw) (by kernel_rfl) <| R.call mixed (c_rchan (b2 := b2) (b3 := 3) h0 h1 kg ky ka kw) (by kernel_rfl) <| R.fin mixed Try.func93 (by kernel_rfl)
theorem c_rmix_4 {b0 b1 b2 r g b a x y z w : Int} (h0 : 0 ≤ b0 ∧ b0 ≤ 9) (h1 : 0 ≤ b1 ∧ b1 ≤ 9) (hc : rightC r g b a = true) (hd : rightC x y z w = true) : Con Try.prog 93 [R4 b0 b1 b2 4, C4 r g b a, C4 x y z w] (mixC b0 b1 b2 4 r g b a x y z w) := by
  simp only [rightC, Bool.and_eq_true, is8_iff] at hc hd
  obtain ⟨kr, kg, kb, ka⟩ := hc
  obtain ⟨kx, ky, kz, kw⟩ := hd
  exact Con.run Try.func93 (by kernel_rfl) rfl <| R.call mixed (c_rchan (b2 := b2) (b3 := 4) h0 h1 kb kz ka kw) (by kernel_rfl) <| R.fin mixed Try.func93 (by kernel_rfl)
theorem c_rmix_5 {b0 b1 b2 r g b a x y z w : Int} (h0 : 0 ≤ b0 ∧ b0 ≤ 9) (h1 : 0 ≤ b1 ∧ b1 ≤ 9) (hc : rightC r g b a = true) (hd : rightC x y z w = true) : Con Try.prog 93 [R4 b0 b1 b2 5, C4 r g b a, C4 x y z w] (mixC b0 b1 b2 5 r g b a x y z w) := by
  simp only [rightC, Bool.and_eq_true, is8_iff] at hc hd
  obtain ⟨kr, kg, kb, ka⟩ := hc
  obtain ⟨kx, ky, kz, kw⟩ := hd
  exact Con.run Try.func93 (by kernel_rfl) rfl <| R.call mixed (c_rchan (b2 := b2) (b3 := 5) h0 h1 kr kx ka kw) (by kernel_rfl) <| R.call mixed (c_rchan (b2 := b2) (b3 := 5) h0 h1 kb kz ka kw) (by kernel_rfl) <| R.fin mixed Try.func93 (by kernel_rfl)
theorem c_rmix_6 {b0 b1 b2 r g b a x y z w : Int} (h0 : 0 ≤ b0 ∧ b0 ≤ 9) (h1 : 0 ≤ b1 ∧ b1 ≤ 9) (hc : rightC r g b a = true) (hd : rightC x y z w = true) : Con Try.prog 93 [R4 b0 b1 b2 6, C4 r g b a, C4 x y z w] (mixC b0 b1 b2 6 r g b a x y z w) := by
  simp only [rightC, Bool.and_eq_true, is8_iff] at hc hd
  obtain ⟨kr, kg, kb, ka⟩ := hc
  obtain ⟨kx, ky, kz, kw⟩ := hd
  exact Con.run Try.func93 (by kernel_rfl) rfl <| R.call mixed (c_rchan (b2 := b2) (b3 := 6) h0 h1 kg ky ka kw) (by kernel_rfl) <| R.call mixed (c_rchan (b2 := b2) (b3 := 6) h0 h1 kb kz ka kw) (by kernel_rfl) <| R.fin mixed Try.func93 (by kernel_rfl)
theorem c_rmix_7 {b0 b1 b2 r g b a x y z w : Int} (h0 : 0 ≤ b0 ∧ b0 ≤ 9) (h1 : 0 ≤ b1 ∧ b1 ≤ 9) (hc : rightC r g b a = true) (hd : rightC x y z w = true) : Con Try.prog 93 [R4 b0 b1 b2 7, C4 r g b a, C4 x y z w] (mixC b0 b1 b2 7 r g b a x y z w) := by
  simp only [rightC, Bool.and_eq_true, is8_iff] at hc hd
  obtain ⟨kr, kg, kb, ka⟩ := hc
  obtain ⟨kx, ky, kz, kw⟩ := hd
  exact Con.run Try.func93 (by kernel_rfl) rfl <| R.call mixed (c_rchan (b2 := b2) (b3 := 7) h0 h1 kr kx ka kw) (by kernel_rfl) <| R.call mixed (c_rchan (b2 := b2) (b3 := 7) h0 h1 kg ky ka kw) (by kernel_rfl) <| R.call mixed (c_rchan (b2 := b2) (b3 := 7) h0 h1 kb kz ka kw) (by kernel_rfl) <| R.fin mixed Try.func93 (by kernel_rfl)
theorem c_rmix_8 {b0 b1 b2 r g b a x y z w : Int} (h0 : 0 ≤ b0 ∧ b0 ≤ 9) (h1 : 0 ≤ b1 ∧ b1 ≤ 9) (hc : rightC r g b a = true) (hd : rightC x y z w = true) : Con Try.prog 93 [R4 b0 b1 b2 8, C4 r g b a, C4 x y z w] (mixC b0 b1 b2 8 r g b a x y z w) := by
  simp only [rightC, Bool.and_eq_true, is8_iff] at hc hd
  obtain ⟨kr, kg, kb, ka⟩ := hc
  obtain ⟨kx, ky, kz, kw⟩ := hd
  exact Con.run Try.func93 (by kernel_rfl) rfl <| R.call mixed (c_rchan (b2 := b2) (b3 := 8) h0 h1 ka kw ka kw) (by kernel_rfl) <| R.fin mixed Try.func93 (by kernel_rfl)
theorem c_rmix_9 {b0 b1 b2 r g b a x y z w : Int} (h0 : 0 ≤ b0 ∧ b0 ≤ 9) (h1 : 0 ≤ b1 ∧ b1 ≤ 9) (hc : rightC r g b a = true) (hd : rightC x y z w = true) : Con Try.prog 93 [R4 b0 b1 b2 9, C4 r g b a, C4 x y z w] (mixC b0 b1 b2 9 r g b a x y z w) := by
  simp only [rightC, Bool.and_eq_true, is8_iff] at hc hd
  obtain ⟨kr, kg, kb, ka⟩ := hc
  obtain ⟨kx, ky, kz, kw⟩ := hd
  exact Con.run Try.func93 (by kernel_rfl) rfl <| R.call mixed (c_rchan (b2 := b2) (b3 := 9) h0 h1 kr kx ka kw) (by kernel_rfl) <| R.call mixed (c_rchan (b2 := b2) (b3 := 9) h0 h1 ka kw ka kw) (by kernel_rfl) <| R.fin mixed Try.func93 (by kernel_rfl)
theorem c_rmix_10 {b0 b1 b2 r g b a x y z w : Int} (h0 : 0 ≤ b0 ∧ b0 ≤ 9) (h1 : 0 ≤ b1 ∧ b1 ≤ 9) (hc : rightC r g b a = true) (hd : rightC x y z w = true) : Con Try.prog 93 [R4 b0 b1 b2 10, C4 r g b a, C4 x y z w] (mixC b0 b1 b2 10 r g b a x y z w) := by
  simp only [rightC, Bool.and_eq_true, is8_iff] at hc hd
  obtain ⟨kr, kg, kb, ka⟩ := hc
  obtain ⟨kx, ky, kz, kw⟩ := hd
  exact Con.run Try.func93 (by kernel_rfl) rfl <| R.call mixed (c_rchan (b2 := b2) (b3 := 10) h0 h1 kg ky ka kw) (by kernel_rfl) <| R.call mixed (c_rchan (b2 := b2) (b3 := 10) h0 h1 ka kw ka kw) (by kernel_rfl) <| R.fin mixed Try.func93 (by kernel_rfl)
theorem c_rmix_11 {b0 b1 b2 r g b a x y z w : Int} (h0 : 0 ≤ b0 ∧ b0 ≤ 9) (h1 : 0 ≤ b1 ∧ b1 ≤ 9) (hc : rightC r g b a = true) (hd : rightC x y z w = true) : Con Try.prog 93 [R4 b0 b1 b2 11, C4 r g b a, C4 x y z w] (mixC b0 b1 b2 11 r g b a x y z w) := by
  simp only [rightC, Bool.and_eq_true, is8_iff] at hc hd
  obtain ⟨kr, kg, kb, ka⟩ := hc
  obtain ⟨kx, ky, kz, kw⟩ := hd
  exact Con.run Try.func93 (by kernel_rfl) rfl <| R.call mixed (c_rchan (b2 := b2) (b3 := 11) h0 h1 kr kx ka kw) (by kernel_rfl) <| R.call mixed (c_rchan (b2 := b2) (b3 := 11) h0 h1 kg ky ka kw) (by kernel_rfl) <| R.call mixed (c_rchan (b2 := b2) (b3 := 11) h0 h1 ka kw ka kw) (by kernel_rfl) <| R.fin mixed Try.func93 (by kernel_rfl)
theorem c_rmix_12 {b0 b1 b2 r g b a x y z w : Int} (h0 : 0 ≤ b0 ∧ b0 ≤ 9) (h1 : 0 ≤ b1 ∧ b1 ≤ 9) (hc : rightC r g b a = true) (hd : rightC x y z w = true) : Con Try.prog 93 [R4 b0 b1 b2 12, C4 r g b a, C4 x y z w] (mixC b0 b1 b2 12 r g b a x y z w) := by
  simp only [rightC, Bool.and_eq_true, is8_iff] at hc hd
  obtain ⟨kr, kg, kb, ka⟩ := hc
  obtain ⟨kx, ky, kz, kw⟩ := hd
  exact Con.run Try.func93 (by kernel_rfl) rfl <| R.call mixed (c_rchan (b2 := b2) (b3 := 12) h0 h1 kb kz ka kw) (by kernel_rfl) <| R.call mixed (c_rchan (b2 := b2) (b3 := 12) h0 h1 ka kw ka kw) (by kernel_rfl) <| R.fin mixed Try.func93 (by kernel_rfl)
theorem c_rmix_13 {b0 b1 b2 r g b a x y z w : Int} (h0 : 0 ≤ b0 ∧ b0 ≤ 9) (h1 : 0 ≤ b1 ∧ b1 ≤ 9) (hc : rightC r g b a = true) (hd : rightC x y z w = true) : Con Try.prog 93 [R4 b0 b1 b2 13, C4 r g b a, C4 x y z w] (mixC b0 b1 b2 13 r g b a x y z w) := by
  simp only [rightC, Bool.and_eq_true, is8_iff] at hc hd
  obtain ⟨kr, kg, kb, ka⟩ := hc
  obtain ⟨kx, ky, kz, kw⟩ := hd
  exact Con.run Try.func93 (by kernel_rfl) rfl <| R.call mixed (c_rchan (b2 := b2) (b3 := 13) h0 h1 kr kx ka kw) (by kernel_rfl) <| R.call mixed (c_rchan (b2 := b2) (b3 := 13) h0 h1 kb kz ka kw) (by kernel_rfl) <| R.call mixed (c_rchan (b2 := b2) (b3 := 13) h0 h1 ka kw ka kw) (by kernel_rfl) <| R.fin mixed Try.func93 (by kernel_rfl)
theorem c_rmix_14 {b0 b1 b2 r g b a x y z w : Int} (h0 : 0 ≤ b0 ∧ b0 ≤ 9) (h1 : 0 ≤ b1 ∧ b1 ≤ 9) (hc : rightC r g b a = true) (hd : rightC x y z w = true) : Con Try.prog 93 [R4 b0 b1 b2 14, C4 r g b a, C4 x y z w] (mixC b0 b1 b2 14 r g b a x y z w) := by
  simp only [rightC, Bool.and_eq_true, is8_iff] at hc hd
  obtain ⟨kr, kg, kb, ka⟩ := hc
  obtain ⟨kx, ky, kz, kw⟩ := hd
  exact Con.run Try.func93 (by kernel_rfl) rfl <| R.call mixed (c_rchan (b2 := b2) (b3 := 14) h0 h1 kg ky ka kw) (by kernel_rfl) <| R.call mixed (c_rchan (b2 := b2) (b3 := 14) h0 h1 kb kz ka kw) (by kernel_rfl) <| R.call mixed (c_rchan (b2 := b2) (b3 := 14) h0 h1 ka kw ka kw) (by kernel_rfl) <| R.fin mixed Try.func93 (by kernel_rfl)
theorem c_rmix_15 {b0 b1 b2 r g b a x y z w : Int} (h0 : 0 ≤ b0 ∧ b0 ≤ 9) (h1 : 0 ≤ b1 ∧ b1 ≤ 9) (hc : rightC r g b a = true) (hd : rightC x y z w = true) : Con Try.prog 93 [R4 b0 b1 b2 15, C4 r g b a, C4 x y z w] (mixC b0 b1 b2 15 r g b a x y z w) := by
  simp only [rightC, Bool.and_eq_true, is8_iff] at hc hd
  obtain ⟨kr, kg, kb, ka⟩ := hc
  obtain ⟨kx, ky, kz, kw⟩ := hd
  exact Con.run Try.func93 (by kernel_rfl) rfl <| R.call mixed (c_rchan (b2 := b2) (b3 := 15) h0 h1 kr kx ka kw) (by kernel_rfl) <| R.call mixed (c_rchan (b2 := b2) (b3 := 15) h0 h1 kg ky ka kw) (by kernel_rfl) <| R.call mixed (c_rchan (b2 := b2) (b3 := 15) h0 h1 kb kz ka kw) (by kernel_rfl) <| R.call mixed (c_rchan (b2 := b2) (b3 := 15) h0 h1 ka kw ka kw) (by kernel_rfl) <| R.fin mixed Try.func93 (by kernel_rfl)
theorem c_rmix {b0 b1 b2 b3 r g b a x y z w : Int} (h0 : 0 ≤ b0 ∧ b0 ≤ 9) (h1 : 0 ≤ b1 ∧ b1 ≤ 9) (h3 : 0 ≤ b3 ∧ b3 ≤ 15) (hc : rightC r g b a = true) (hd : rightC x y z w = true) : Con Try.prog 93 [R4 b0 b1 b2 b3, C4 r g b a, C4 x y z w] (mixC b0 b1 b2 b3 r g b a x y z w) := by
  rcases mask16 h3 with rfl | rfl | rfl | rfl | rfl | rfl | rfl | rfl | rfl | rfl | rfl | rfl | rfl | rfl | rfl | rfl
  · exact c_rmix_0 h0 h1 hc hd
  · exact c_rmix_1 h0 h1 hc hd
  · exact c_rmix_2 h0 h1 hc hd
  · exact c_rmix_3 h0 h1 hc hd
  · exact c_rmix_4 h0 h1 hc hd
  · exact c_rmix_5 h0 h1 hc hd
  · exact c_rmix_6 h0 h1 hc hd
  · exact c_rmix_7 h0 h1 hc hd
  · exact c_rmix_8 h0 h1 hc hd
  · exact c_rmix_9 h0 h1 hc hd
  · exact c_rmix_10 h0 h1 hc hd
  · exact c_rmix_11 h0 h1 hc hd
  · exact c_rmix_12 h0 h1 hc hd
  · exact c_rmix_13 h0 h1 hc hd
  · exact c_rmix_14 h0 h1 hc hd
  · exact c_rmix_15 h0 h1 hc hd


theorem c_mix_0_0 {b0 b1 r g b a x y z w : Int} (h0 : 0 ≤ b0 ∧ b0 ≤ 9) (h1 : 0 ≤ b1 ∧ b1 ≤ 9) (hc : rightC r g b a = true) (hd : rightC x y z w = true) : Con Try.prog 80 [R4 b0 b1 0 0, C4 r g b a, C4 x y z w] (.tuple ⟨[mixC b0 b1 0 0 r g b a x y z w, .int .i64 0]⟩) :=
  Con.run Try.func80 (by kernel_rfl) rfl <| R.call mixed (c_blend0 (b2 := 0) (b3 := 0) h0 h1 (by omega) (by omega)) (by kernel_rfl) <| R.call mixed (c_fac h0 hc hd) (by kernel_rfl) <| R.call mixed (c_fac h1 hc hd) (by kernel_rfl) <| R.callM mixed [] c_equation0 (by kernel_rfl) (by kernel_rfl) rfl <|
    R.fin mixed Try.func80 (by kernel_rfl)
theorem c_mix_0_1 {b0 b1 r g b a x y z w : Int} (h0 : 0 ≤ b0 ∧ b0 ≤ 9) (h1 : 0 ≤ b1 ∧ b1 ≤ 9) (hc : rightC r g b a = true) (hd : rightC x y z w = true) : Con Try.prog 80 [R4 b0 b1 0 1, C4 r g b a, C4 x y z w] (.tuple ⟨[mixC b0 b1 0 1 r g b a x y z w, .int .i64 0]⟩) :=
  Con.run Try.func80 (by kernel_rfl) rfl <| R.call mixed (c_blend0 (b2 := 0) (b3 := 1) h0 h1 (by omega) (by omega)) (by kernel_rfl) <| R.call mixed (c_fac h0 hc hd) (by kernel_rfl) <| R.call mixed (c_fac h1 hc hd) (by kernel_rfl) <| R.callM mixed [] c_equation0 (by kernel_rfl) (by kernel_rfl) rfl <|
    R.callM mixed [.win 6 0 1 false] (c_eq0 r (fac b0 r x a w) x (fac b1 r x a w)) (by kernel_rfl) (by kernel_rfl) rfl <|
    R.fin mixed Try.func80 (by kernel_rfl)
theorem c_mix_0_2 {b0 b1 r g b a x y z w : Int} (h0 : 0 ≤ b0 ∧ b0 ≤ 9) (h1 : 0 ≤ b1 ∧ b1 ≤ 9) (hc : rightC r g b a = true) (hd : rightC x y z w = true) : Con Try.prog 80 [R4 b0 b1 0 2, C4 r g b a, C4 x y z w] (.tuple ⟨[mixC b0 b1 0 2 r g b a x y z w, .int .i64 0]⟩) :=
  Con.run Try.func80 (by kernel_rfl) rfl <| R.call mixed (c_blend0 (b2 := 0) (b3 := 2) h0 h1 (by omega) (by omega)) (by kernel_rfl) <| R.call mixed (c_fac h0 hc hd) (by kernel_rfl) <| R.call mixed (c_fac h1 hc hd) (by kernel_rfl) <| R.callM mixed [] c_equation0 (by kernel_rfl) (by kernel_rfl) rfl <|
    R.callM mixed [.win 6 0 1 false] (c_eq0 g (fac b0 g y a w) y (fac b1 g y a w)) (by kernel_rfl) (by kernel_rfl) rfl <|
    R.fin mixed Try.func80 (by kernel_rfl)
theorem c_mix_0_3 {b0 b1 r g b a x y z w : Int} (h0 : 0 ≤ b0 ∧ b0 ≤ 9) (h1 : 0 ≤ b1 ∧ b1 ≤ 9) (hc : rightC r g b a = true) (hd : rightC x y z w = true) : Con Try.prog 80 [R4 b0 b1 0 3, C4 r g b a, C4 x y z w] (.tuple ⟨[mixC b0 b1 0 3 r g b a x y z w, .int .i64 0]⟩) :=
  Con.run Try.func80 (by kernel_rfl) rfl <| R.call mixed (c_blend0 (b2 := 0) (b3 := 3) h0 h1 (by omega) (by omega)) (by kernel_rfl) <| R.call mixed (c_fac h0 hc hd) (by kernel_rfl) <| R.call mixed (c_fac h1 hc hd) (by kernel_rfl) <| R.callM mixed [] c_equation0 (by kernel_rfl) (by kernel_rfl) rfl <|
    R.callM mixed [.win 6 0 1 false] (c_eq0 r (fac b0 r x a w) x (fac b1 r x a w)) (by kernel_rfl) (by kernel_rfl) rfl <|
    R.callM mixed [.win 6 0 1 false] (c_eq0 g (fac b0 g y a w) y (fac b1 g y a w)) (by kernel_rfl) (by kernel_rfl) rfl <|
    R.fin mixed Try.func80 (by kernel_rfl)
theorem c_mix_0_4 {b0 b1 r g b a x y z w : Int} (h0 : 0 ≤ b0 ∧ b0 ≤ 9) (h1 : 0 ≤ b1 ∧ b1 ≤ 9) (hc : rightC r g b a = true) (hd : rightC x y z w = true) : Con Try.prog 80 [R4 b0 b1 0 4, C4 r g b a, C4 x y z w] (.tuple ⟨[mixC b0 b1 0 4 r g b a x y z w, .int .i64 0]⟩) :=
  Con.run Try.func80 (by kernel_rfl) rfl <| R.call mixed (c_blend0 (b2 := 0) (b3 := 4) h0 h1 (by omega) (by omega)) (by kernel_rfl) <| R.call mixed (c_fac h0 hc hd) (by kernel_rfl) <| R.call mixed (c_fac h1 hc hd) (by kernel_rfl) <| R.callM mixed [] c_equation0 (by kernel_rfl) (by kernel_rfl) rfl <|
    R.callM mixed [.win 6 0 1 false] (c_eq0 b (fac b0 b z a w) z (fac b1 b z a w)) (by kernel_rfl) (by kernel_rfl) rfl <|
    R.fin mixed Try.func80 (by kernel_rfl)
theorem c_mix_0_5 {b0 b1 r g b a x y z w : Int} (h0 : 0 ≤ b0 ∧ b0 ≤ 9) (h1 : 0 ≤ b1 ∧ b1 ≤ 9) (hc : rightC r g b a = true) (hd : rightC x y z w = true) : Con Try.prog 80 [R4 b0 b1 0 5, C4 r g b a, C4 x y z w] (.tuple ⟨[mixC b0 b1 0 5 r g b a x y z w, .int .i64 0]⟩) :=
  Con.run Try.func80 (by kernel_rfl) rfl <| R.call mixed (c_blend0 (b2 := 0) (b3 := 5) h0 h1 (by omega) (by omega)) (by kernel_rfl) <| R.call mixed (c_fac h0 hc hd) (by kernel_rfl) <| R.call mixed (c_fac h1 hc hd) (by kernel_rfl) <| R.callM mixed [] c_equation0 (by kernel_rfl) (by kernel_rfl) rfl <|
    R.callM mixed [.win 6 0 1 false] (c_eq0 r (fac b0 r x a w) x (fac b1 r x a w)) (by kernel_rfl) (by kernel_rfl) rfl <|
    R.callM mixed [.win 6 0 1 false] (c_eq0 b (fac b0 b z a w) z (fac b1 b z a w)) (by kernel_rfl) (by kernel_rfl) rfl <|
    R.fin mixed Try.func80 (by kernel_rfl)
theorem c_mix_0_6 {b0 b1 r g b a x y z w : Int} (h0 : 0 ≤ b0 ∧ b0 ≤ 9) (h1 : 0 ≤ b1 ∧ b1 ≤ 9) (hc : rightC r g b a = true) (hd : rightC x y z w = true) : Con Try.prog 80 [R4 b0 b1 0 6, C4 r g b a, C4 x y z w] (.tuple ⟨[mixC b0 b1 0 6 r g b a x y z w, .int .i64 0]⟩) :=
  Con.run Try.func80 (by kernel_rfl) rfl <| R.call mixed (c_blend0 (b2 := 0) (b3 := 6) h0 h1 (by omega) (by omega)) (by kernel_rfl) <| R.call mixed (c_fac h0 hc hd) (by kernel_rfl) <| R.call mixed (c_fac h1 hc hd) (by kernel_rfl) <| R.callM mixed [] c_equation0 (by kernel_rfl) (by kernel_rfl) rfl <|
    R.callM mixed [.win 6 0 1 false] (c_eq0 g (fac b0 g y a w) y (fac b1 g y a w)) (by kernel_rfl) (by kernel_rfl) rfl <|
    R.callM mixed [.win 6 0 1 false] (c_eq0 b (fac b0 b z a w) z (fac b1 b z a w)) (by kernel_rfl) (by kernel_rfl) rfl <|
    R.fin mixed Try.func80 (by kernel_rfl)
theorem c_mix_0_7 {b0 b1 r g b a x y z w : Int} (h0 : 0 ≤ b0 ∧ b0 ≤ 9) (h1 : 0 ≤ b1 ∧ b1 ≤ 9) (hc : rightC r g b a = true) (hd : rightC x y z w = true) : Con Try.prog 80 [R4 b0 b1 0 7, C4 r g b a, C4 x y z w] (.tuple ⟨[mixC b0 b1 0 7 r g b a x y z w, .int .i64 0]⟩) :=
  Con.run Try.func80 (by kernel_rfl) rfl <| R.call mixed (c_blend0 (b2 := 0) (b3 := 7) h0 h1 (by omega) (by omega)) (by kernel_rfl) <| R.call mixed (c_fac h0 hc hd) (by kernel_rfl) <| R.call mixed (c_fac h1 hc hd) (by kernel_rfl) <| R.callM mixed [] c_equation0 (by kernel_rfl) (by kernel_rfl) rfl <|
    R.callM mixed [.win 6 0 1 false] (c_eq0 r (fac b0 r x a w) x (fac b1 r x a w)) (by kernel_rfl) (by kernel_rfl) rfl <|
    R.callM mixed [.win 6 0 1 false] (c_eq0 g (fac b0 g y a w) y (fac b1 g y a w)) (by kernel_rfl) (by kernel_rfl) rfl <|
    R.callM mixed [.win 6 0 1 false] (c_eq0 b (fac b0 b z a w) z (fac b1 b z a w)) (by kernel_rfl) (by kernel_rfl) rfl <|
    R.fin mixed Try.func80 (by kernel_rfl)
theorem c_mix_0_8 {b0 b1 r g b a x y z w : Int} (h0 : 0 ≤ b0 ∧ b0 ≤ 9) (h1 : 0 ≤ b1 ∧ b1 ≤ 9) (hc : rightC r g b a = true) (hd : rightC x y z w = true) : Con Try.prog 80 [R4 b0 b1 0 8, C4 r g b a, C4 x y z w] (.tuple ⟨[mixC b0 b1 0 8 r g b a x y z w, .int .i64 0]⟩) :=
  Con.run Try.func80 (by kernel_rfl) rfl <| R.call mixed (c_blend0 (b2 := 0) (b3 := 8) h0 h1 (by omega) (by omega)) (by kernel_rfl) <| R.call mixed (c_fac h0 hc hd) (by kernel_rfl) <| R.call mixed (c_fac h1 hc hd) (by kernel_rfl) <| R.callM mixed [] c_equation0 (by kernel_rfl) (by kernel_rfl) rfl <|
    R.callM mixed [.win 6 0 1 false] (c_eq0 a (fac b0 a w a w) w (fac b1 a w a w)) (by kernel_rfl) (by kernel_rfl) rfl <|
    R.fin mixed Try.func80 (by kernel_rfl)
theorem c_mix_0_9 {b0 b1 r g b a x y z w : Int} (h0 : 0 ≤ b0 ∧ b0 ≤ 9) (h1 : 0 ≤ b1 ∧ b1 ≤ 9) (hc : rightC r g b a = true) (hd : rightC x y z w = true) : Con Try.prog 80 [R4 b0 b1 0 9, C4 r g b a, C4 x y z w] (.tuple ⟨[mixC b0 b1 0 9 r g b a x y z w, .int .i64 0]⟩) :=
  Con.run Try.func80 (by kernel_rfl) rfl <| R.call mixed (c_blend0 (b2 := 0) (b3 := 9) h0 h1 (by omega) (by omega)) (by kernel_rfl) <| R.call mixed (c_fac h0 hc hd) (by kernel_rfl) <| R.call mixed (c_fac h1 hc hd) (by kernel_rfl) <| R.callM mixed [] c_equation0 (by kernel_rfl) (by kernel_rfl) rfl <|
    R.callM mixed [.win 6 0 1 false] (c_eq0 r (fac b0 r x a w) x (fac b1 r x a w)) (by kernel_rfl) (by kernel_rfl) rfl <|
    R.callM mixed [.win 6 0 1 false] (c_eq0 a (fac b0 a w a w) w (fac b1 a w a w)) (by kernel_rfl) (by kernel_rfl) rfl <|
    R.fin mixed Try.func80 (by kernel_rfl)
theorem c_mix_0_10 {b0 b1 r g b a x y z w : Int} (h0 : 0 ≤ b0 ∧ b0 ≤ 9) (h1 : 0 ≤ b1 ∧ b1 ≤ 9) (hc : rightC r g b a = true) (hd : rightC x y z w = true) : Con Try.prog 80 [R4 b0 b1 0 10, C4 r g b a, C4 x y z w] (.tuple ⟨[mixC b0 b1 0 10 r g b a x y z w, .int .i64 0]⟩) :=
  Con.run Try.func80 (by kernel_rfl) rfl <| R.call mixed (c_blend0 (b2 := 0) (b3 := 10) h0 h1 (by omega) (by omega)) (by kernel_rfl) <| R.call mixed (c_fac h0 hc hd) (by kernel_rfl) <| R.call mixed (c_fac h1 hc hd) (by kernel_rfl) <| R.callM mixed [] c_equation0 (by kernel_rfl) (by kernel_rfl) rfl <|
    R.callM mixed [.win 6 0 1 false] (c_eq0 g (fac b0 g y a w) y (fac b1 g y a w)) (by kernel_rfl) (by kernel_rfl) rfl <|
    R.callM mixed [.win 6 0 1 false] (c_eq0 a (fac b0 a w a w) w (fac b1 a w a w)) (by kernel_rfl) (by kernel_rfl) rfl <|
    R.fin mixed Try.func80 (by kernel_rfl)
theorem c_mix_0_11 {b0 b1 r g b a x y z w : Int} (h0 : 0 ≤ b0 ∧ b0 ≤ 9) (h1 : 0 ≤ b1 ∧ b1 ≤ 9) (hc : rightC r g b a = true) (hd : rightC x y z w = true) : Con Try.prog 80 [R4 b0 b1 0 11, C4 r g b a, C4 x y z w] (.tuple ⟨[mixC b0 b1 0 11 r g b a x y z w, .int .i64 0]⟩) :=
  Con.run Try.func80 (by kernel_rfl) rfl <| R.call mixed (c_blend0 (b2 := 0) (b3 := 11) h0 h1 (by omega) (by omega)) (by kernel_rfl) <| R.call mixed (c_fac h0 hc hd) (by kernel_rfl) <| R.call mixed (c_fac h1 hc hd) (by kernel_rfl) <| R.callM mixed [] c_equation0 (by kernel_rfl) (by kernel_rfl) rfl <|
    R.callM mixed [.win 6 0 1 false] (c_eq0 r (fac b0 r x a w) x (fac b1 r x a w)) (by kernel_rfl) (by kernel_rfl) rfl <|
    R.callM mixed [.win 6 0 1 false] (c_eq0 g (fac b0 g y a w) y (fac b1 g y a w)) (by kernel_rfl) (by kernel_rfl) rfl <|
    R.callM mixed [.win 6 0 1 false] (c_eq0 a (fac b0 a w a w) w (fac b1 a w a w)) (by kernel_rfl) (by kernel_rfl) rfl <|
    R.fin mixed Try.func80 (by kernel_rfl)
theorem c_mix_0_12 {b0 b1 r g b a x y z w : Int} (h0 : 0 ≤ b0 ∧ b0 ≤ 9) (h1 : 0 ≤ b1 ∧ b1 ≤ 9) (hc : rightC r g b a = true) (hd : rightC x y z w = true) : Con Try.prog 80 [R4 b0 b1 0 12, C4 r g b a, C4 x y z w] (.tuple ⟨[mixC b0 b1 0 12 r g b a x y z w, .int .i64 0]⟩) :=
  Con.run Try.func80 (by kernel_rfl) rfl <| R.call mixed (c_blend0 (b2 := 0) (b3 := 12) h0 h1 (by omega) (by omega)) (by kernel_rfl) <| R.call mixed (c_fac h0 hc hd) (by kernel_rfl) <| R.call mixed (c_fac h1 hc hd) (by kernel_rfl) <| R.callM mixed [] c_equation0 (by kernel_rfl) (by kernel_rfl) rfl <|
    R.callM mixed [.win 6 0 1 false] (c_eq0 b (fac b0 b z a w) z (fac b1 b z a w)) (by kernel_rfl) (by kernel_rfl) rfl <|
    R.callM mixed [.win 6 0 1 false] (c_eq0 a (fac b0 a w a w) w (fac b1 a w a w)) (by kernel_rfl) (by kernel_rfl) rfl <|
    R.fin mixed Try.func80 (by kernel_rfl)
theorem c_mix_0_13 {b0 b1 r g b a x y z w : Int} (h0 : 0 ≤ b0 ∧ b0 ≤ 9) (h1 : 0 ≤ b1 ∧ b1 ≤ 9) (hc : rightC r g b a = true) (hd : rightC x y z w = true) : Con Try.prog 80 [R4 b0 b1 0 13, C4 r g b a, C4 x y z w] (.tuple ⟨[mixC b0 b1 0 13 r g b a x y z w, .int .i64 0]⟩) :=
  Con.run Try.func80 (by kernel_rfl) rfl <| R.call mixed (c_blend0 (b2 := 0) (b3 := 13) h0 h1 (by omega) (by omega)) (by kernel_rfl) <| R.call mixed (c_fac h0 hc hd) (by kernel_rfl) <| R.call mixed (c_fac h1 hc hd) (by kernel_rfl) <| R.callM mixed [] c_equation0 (by kernel_rfl) (by kernel_rfl) rfl <|
    R.callM mixed [.win 6 0 1 false] (c_eq0 r (fac b0 r x a w) x (fac b1 r x a w)) (by kernel_rfl) (by kernel_rfl) rfl <|
    R.callM mixed [.win 6 0 1 false] (c_eq0 b (fac b0 b z a w) z (fac b1 b z a w)) (by kernel_rfl) (by kernel_rfl) rfl <|
    R.callM mixed [.win 6 0 1 false] (c_eq0 a (fac b0 a w a w) w (fac b1 a w a w)) (by kernel_rfl) (by kernel_rfl) rfl <|
    R.fin mixed Try.func80 (by kernel_rfl)
theorem c_mix_0_14 {b0 b1 r g b a x y z w : Int} (h0 : 0 ≤ b0 ∧ b0 ≤ 9) (h1 : 0 ≤ b1 ∧ b1 ≤ 9) (hc : rightC r g b a = true) (hd : rightC x y z w = true) : Con Try.prog 80 [R4 b0 b1 0 14, C4 r g b a, C4 x y z w] (.tuple ⟨[mixC b0 b1 0 14 r g b a x y z w, .int .i64 0]⟩) :=
  Con.run Try.func80 (by kernel_rfl) rfl <| R.call mixed (c_blend0 (b2 := 0) (b3 := 14) h0 h1 (by omega) (by omega)) (by kernel_rfl) <| R.call mixed (c_fac h0 hc hd) (by kernel_rfl) <| R.call mixed (c_fac h1 hc hd) (by kernel_rfl) <| R.callM mixed [] c_equation0 (by kernel_rfl) (by kernel_rfl) rfl <|
    R.callM mixed [.win 6 0 1 false] (c_eq0 g (fac b0 g y a w) y (fac b1 g y a w)) (by kernel_rfl) (by kernel_rfl) rfl <|
    R.callM mixed [.win 6 0 1 false] (c_eq0 b (fac b0 b z a w) z (fac b1 b z a w)) (by kernel_rfl) (by kernel_rfl) rfl <|
    R.callM mixed [.win 6 0 1 false] (c_eq0 a (fac b0 a w a w) w (fac b1 a w a w)) (by kernel_rfl) (by kernel_rfl) rfl <|
    R.fin mixed Try.func80 (by kernel_rfl)
theorem c_mix_0_15 {b0 b1 r g b a x y z w : Int} (h0 : 0 ≤ b0 ∧ b0 ≤ 9) (h1 : 0 ≤ b1 ∧ b1 ≤ 9) (hc : rightC r g b a = true) (hd : rightC x y z w = true) : Con Try.prog 80 [R4 b0 b1 0 15, C4 r g b a, C4 x y z w] (.tuple ⟨[mixC b0 b1 0 15 r g b a x y z w, .int .i64 0]⟩) :=
  Con.run Try.func80 (by kernel_rfl) rfl <| R.call mixed (c_blend0 (b2 := 0) (b3 := 15) h0 h1 (by omega) (by omega)) (by kernel_rfl) <| R.call mixed (c_fac h0 hc hd) (by kernel_rfl) <| R.call mixed (c_fac h1 hc hd) (by kernel_rfl) <| R.callM mixed [] c_equation0 (by kernel_rfl) (by kernel_rfl) rfl <|
    R.callM mixed [.win 6 0 1 false] (c_eq0 r (fac b0 r x a w) x (fac b1 r x a w)) (by kernel_rfl) (by kernel_rfl) rfl <|
    R.callM mixed [.win 6 0 1 false] (c_eq0 g (fac b0 g y a w) y (fac b1 g y a w)) (by kernel_rfl) (by kernel_rfl) rfl <|
    R.callM mixed [.win 6 0 1 false] (c_eq0 b (fac b0 b z a w) z (fac b1 b z a w)) (by kernel_rfl) (by kernel_rfl) rfl <|
    R.callM mixed [.win 6 0 1 false] (c_eq0 a (fac b0 a w a w) w (fac b1 a w a w)) (by kernel_rfl) (by kernel_rfl) rfl <|
    R.fin mixed Try.func80 (by kernel_rfl)
theorem c_mix_0 {b0 b1 b3 r g b a x y z w : Int} (h0 : 0 ≤ b0 ∧ b0 ≤ 9) (h1 : 0 ≤ b1 ∧ b1 ≤ 9) (h3 : 0 ≤ b3 ∧ b3 ≤ 15) (hc : rightC r g b a = true) (hd : rightC x y z w = true) : Con Try.prog 80 [R4 b0 b1 0 b3, C4 r g b a, C4 x y z w] (.tuple ⟨[mixC b0 b1 0 b3 r g b a x y z w, .int .i64 0]⟩) := by
  rcases mask16 h3 with rfl | rfl | rfl | rfl | rfl | rfl | rfl | rfl | rfl | rfl | rfl | rfl | rfl | rfl | rfl | rfl
  · exact c_mix_0_0 h0 h1 hc hd
  · exact c_mix_0_1 h0 h1 hc hd
  · exact c_mix_0_2 h0 h1 hc hd
  · exact c_mix_0_3 h0 h1 hc hd
  · exact c_mix_0_4 h0 h1 hc hd
  · exact c_mix_0_5 h0 h1 hc hd
  · exact c_mix_0_6 h0 h1 hc hd
  · exact c_mix_0_7 h0 h1 hc hd
  · exact c_mix_0_8 h0 h1 hc hd
  · exact c_mix_0_9 h0 h1 hc hd
  · exact c_mix_0_10 h0 h1 hc hd
  · exact c_mix_0_11 h0 h1 hc hd
  · exact c_mix_0_12 h0 h1 hc hd
  · exact c_mix_0_13 h0 h1 hc hd
  · exact c_mix_0_14 h0 h1 hc hd
  · exact c_mix_0_15 h0 h1 hc hd

theorem c_mix_1_0 {b0 b1 r g b a x y z w : Int} (h0 : 0 ≤ b0 ∧ b0 ≤ 9) (h1 : 0 ≤ b1 ∧ b1 ≤ 9) (hc : rightC r g b a = true) (hd : rightC x y z w = true) : Con Try.prog 80 [R4 b0 b1 1 0, C4 r g b a, C4 x y z w] (.tuple ⟨[mixC b0 b1 1 0 r g b a x y z w, .int .i64 0]⟩) :=
  Con.run Try.func80 (by kernel_rfl) rfl <| R.call mixed (c_blend0 (b2 := 1) (b3 := 0) h0 h1 (by omega) (by omega)) (by kernel_rfl) <| R.call mixed (c_fac h0 hc hd) (by kernel_rfl) <| R.call mixed (c_fac h1 hc hd) (by kernel_rfl) <| R.callM mixed [] c_equation1 (by kernel_rfl) (by kernel_rfl) rfl <|
    R.fin mixed Try.func80 (by kernel_rfl)
theorem c_mix_1_1 {b0 b1 r g b a x y z w : Int} (h0 : 0 ≤ b0 ∧ b0 ≤ 9) (h1 : 0 ≤ b1 ∧ b1 ≤ 9) (hc : rightC r g b a = true) (hd : rightC x y z w = true) : Con Try.prog 80 [R4 b0 b1 1 1, C4 r g b a, C4 x y z w] (.tuple ⟨[mixC b0 b1 1 1 r g b a x y z w, .int .i64 0]⟩) :=
  Con.run Try.func80 (by kernel_rfl) rfl <| R.call mixed (c_blend0 (b2 := 1) (b3 := 1) h0 h1 (by omega) (by omega)) (by kernel_rfl) <| R.call mixed (c_fac h0 hc hd) (by kernel_rfl) <| R.call mixed (c_fac h1 hc hd) (by kernel_rfl) <| R.callM mixed [] c_equation1 (by kernel_rfl) (by kernel_rfl) rfl <|
    R.callM mixed [.win 6 0 1 false] (c_eq1 r (fac b0 r x a w) x (fac b1 r x a w)) (by kernel_rfl) (by kernel_rfl) rfl <|
    R.fin mixed Try.func80 (by kernel_rfl)
theorem c_mix_1_2 {b0 b1 r g b a x y z w : Int} (h0 : 0 ≤ b0 ∧ b0 ≤ 9) (h1 : 0 ≤ b1 ∧ b1 ≤ 9) (hc : rightC r g b a = true) (hd : rightC x y z w = true) : Con Try.prog 80 [R4 b0 b1 1 2, C4 r g b a, C4 x y z w] (.tuple ⟨[mixC b0 b1 1 2 r g b a x y z w, .int .i64 0]⟩) :=
  Con.run Try.func80 (by kernel_rfl) rfl <| R.call mixed (c_blend0 (b2 := 1) (b3 := 2) h0 h1 (by omega) (by omega)) (by kernel_rfl) <| R.call mixed (c_fac h0 hc hd) (by kernel_rfl) <| R.call mixed (c_fac h1 hc hd) (by kernel_rfl) <| R.callM mixed [] c_equation1 (by kernel_rfl) (by kernel_rfl) rfl <|
    R.callM mixed [.win 6 0 1 false] (c_eq1 g (fac b0 g y a w) y (fac b1 g y a w)) (by kernel_rfl) (by kernel_rfl) rfl <|
    R.fin mixed Try.func80 (by kernel_rfl)
theorem c_mix_1_3 {b0 b1 r g b a x y z w : Int} (h0 : 0 ≤ b0 ∧ b0 ≤ 9) (h1 : 0 ≤ b1 ∧ b1 ≤ 9) (hc : rightC r g b a = true) (hd : rightC x y z w = true) : Con Try.prog 80 [R4 b0 b1 1 3, C4 r g b a, C4 x y z w] (.tuple ⟨[mixC b0 b1 1 3 r g b a x y z w, .int .i64 0]⟩) :=
  Con.run Try.func80 (by kernel_rfl) rfl <| R.call mixed (c_blend0 (b2 := 1) (b3 := 3) h0 h1 (by omega) (by omega)) (by kernel_rfl) <| R.call mixed (c_fac h0 hc hd) (by kernel_rfl) <| R.call mixed (c_fac h1 hc hd) (by kernel_rfl) <| R.callM mixed [] c_equation1 (by kernel_rfl) (by kernel_rfl) rfl <|
    R.callM mixed [.win 6 0 1 false] (c_eq1 r (fac b0 r x a w) x (fac b1 r x a w)) (by kernel_rfl) (by kernel_rfl) rfl <|
    R.callM mixed [.win 6 0 1 false] (c_eq1 g (fac b0 g y a w) y (fac b1 g y a w)) (by kernel_rfl) (by kernel_rfl) rfl <|
    R.fin mixed Try.func80 (by kernel_rfl)
theorem c_mix_1_4 {b0 b1 r g b a x y z w : Int} (h0 : 0 ≤ b0 ∧ b0 ≤ 9) (h1 : 0 ≤ b1 ∧ b1 ≤ 9) (hc : rightC r g b a = true) (hd : rightC x y z w = true) : Con Try.prog 80 [R4 b0 b1 1 4, C4 r g b a, C4 x y z w] (.tuple ⟨[mixC b0 b1 1 4 r g b a x y z w, .int .i64 0]⟩) :=
  Con.run Try.func80 (by kernel_rfl) rfl <| R.call mixed (c_blend0 (b2 := 1) (b3 := 4) h0 h1 (by omega) (by omega)) (by kernel_rfl) <| R.call mixed (c_fac h0 hc hd) (by kernel_rfl) <| R.call mixed (c_fac h1 hc hd) (by kernel_rfl) <| R.callM mixed [] c_equation1 (by kernel_rfl) (by kernel_rfl) rfl <|
    R.callM mixed [.win 6 0 1 false] (c_eq1 b (fac b0 b z a w) z (fac b1 b z a w)) (by kernel_rfl) (by kernel_rfl) rfl <|
    R.fin mixed Try.func80 (by kernel_rfl)
theorem c_mix_1_5 {b0 b1 r g b a x y z w : Int} (h0 : 0 ≤ b0 ∧ b0 ≤ 9) (h1 : 0 ≤ b1 ∧ b1 ≤ 9) (hc : rightC r g b a = true) (hd : rightC x y z w = true) : Con Try.prog 80 [R4 b0 b1 1 5, C4 r g b a, C4 x y z w] (.tuple ⟨[mixC b0 b1 1 5 r g b a x y z w, .int .i64 0]⟩) :=
  Con.run Try.func80 (by kernel_rfl) rfl <| R.call mixed (c_blend0 (b2 := 1) (b3 := 5) h0 h1 (by omega) (by omega)) (by kernel_rfl) <| R.call mixed (c_fac h0 hc hd) (by kernel_rfl) <| R.call mixed (c_fac h1 hc hd) (by kernel_rfl) <| R.callM mixed [] c_equation1 (by kernel_rfl) (by kernel_rfl) rfl <|
    R.callM mixed [.win 6 0 1 false] (c_eq1 r (fac b0 r x a w) x (fac b1 r x a w)) (by kernel_rfl) (by kernel_rfl) rfl <|
    R.callM mixed [.win 6 0 1 false] (c_eq1 b (fac b0 b z a w) z (fac b1 b z a w)) (by kernel_rfl) (by kernel_rfl) rfl <|
    R.fin mixed Try.func80 (by kernel_rfl)
theorem c_mix_1_6 {b0 b1 r g b a x y z w : Int} (h0 : 0 ≤ b0 ∧ b0 ≤ 9) (h1 : 0 ≤ b1 ∧ b1 ≤ 9) (hc : rightC r g b a = true) (hd : rightC x y z w = true) : Con Try.prog 80 [R4 b0 b1 1 6, C4 r g b a, C4 x y z w] (.tuple ⟨[mixC b0 b1 1 6 r g b a x y z w, .int .i64 0]⟩) :=
  Con.run Try.func80 (by kernel_rfl) rfl <| R.call mixed (c_blend0 (b2 := 1) (b3 := 6) h0 h1 (by omega) (by omega)) (by kernel_rfl) <| R.call mixed (c_fac h0 hc hd) (by kernel_rfl) <| R.call mixed (c_fac h1 hc hd) (by kernel_rfl) <| R.callM mixed [] c_equation1 (by kernel_rfl) (by kernel_rfl) rfl <|
    R.callM mixed [.win 6 0 1 false] (c_eq1 g (fac b0 g y a w) y (fac b1 g y a w)) (by kernel_rfl) (by kernel_rfl) rfl <|
    R.callM mixed [.win 6 0 1 false] (c_eq1 b (fac b0 b z a w) z (fac b1 b z a w)) (by kernel_rfl) (by kernel_rfl) rfl <|
    R.fin mixed Try.func80 (by kernel_rfl)
theorem c_mix_1_7 {b0 b1 r g b a x y z w : Int} (h0 : 0 ≤ b0 ∧ b0 ≤ 9) (h1 : 0 ≤ b1 ∧ b1 ≤ 9) (hc : rightC r g b a = true) (hd : rightC x y z w = true) : Con Try.prog 80 [R4 b0 b1 1 7, C4 r g b a, C4 x y z w] (.tuple ⟨[mixC b0 b1 1 7 r g b a x y z w, .int .i64 0]⟩) :=
  Con.run Try.func80 (by kernel_rfl) rfl <| R.call mixed (c_blend0 (b2 := 1) (b3 := 7) h0 h1 (by omega) (by omega)) (by kernel_rfl) <| R.call mixed (c_fac h0 hc hd) (by kernel_rfl) <| R.call mixed (c_fac h1 hc hd) (by kernel_rfl) <| R.callM mixed [] c_equation1 (by kernel_rfl) (by kernel_rfl) rfl <|
    R.callM mixed [.win 6 0 1 false] (c_eq1 r (fac b0 r x a w) x (fac b1 r x a w)) (by kernel_rfl) (by kernel_rfl) rfl <|
    R.callM mixed [.win 6 0 1 false] (c_eq1 g (fac b0 g y a w) y (fac b1 g y a w)) (by kernel_rfl) (by kernel_rfl) rfl <|
    R.callM mixed [.win 6 0 1 false] (c_eq1 b (fac b0 b z a w) z (fac b1 b z a w)) (by kernel_rfl) (by kernel_rfl) rfl <|
    R.fin mixed Try.func80 (by kernel_rfl)
theorem c_mix_1_8 {b0 b1 r g b a x y z w : Int} (h0 : 0 ≤ b0 ∧ b0 ≤ 9) (h1 : 0 ≤ b1 ∧ b1 ≤ 9) (hc : rightC r g b a = true) (hd : rightC x y z w = true) : Con Try.prog 80 [R4 b0 b1 1 8, C4 r g b a, C4 x y z w] (.tuple ⟨[mixC b0 b1 1 8 r g b a x y z w, .int .i64 0]⟩) :=
  Con.run Try.func80 (by kernel_rfl) rfl <| R.call mixed (c_blend0 (b2 := 1) (b3 := 8) h0 h1 (by omega) (by omega)) (by kernel_rfl) <| R.call mixed (c_fac h0 hc hd) (by kernel_rfl) <| R.call mixed (c_fac h1 hc hd) (by kernel_rfl) <| R.callM mixed [] c_equation1 (by kernel_rfl) (by kernel_rfl) rfl <|
    R.callM mixed [.win 6 0 1 false] (c_eq1 a (fac b0 a w a w) w (fac b1 a w a w)) (by kernel_rfl) (by kernel_rfl) rfl <|
    R.fin mixed Try.func80 (by kernel_rfl)
theorem c_mix_1_9 {b0 b1 r g b a x y z w : Int} (h0 : 0 ≤ b0 ∧ b0 ≤ 9) (h1 : 0 ≤ b1 ∧ b1 ≤ 9) (hc : rightC r g b a = true) (hd : rightC x y z w = true) : Con Try.prog 80 [R4 b0 b1 1 9, C4 r g b a, C4 x y z w] (.tuple ⟨[mixC b0 b1 1 9 r g b a x y z w, .int .i64 0]⟩) :=
  Con.run Try.func80 (by kernel_rfl) rfl <| R.call mixed (c_blend0 (b2 := 1) (b3 := 9) h0 h1 (by omega) (by omega)) (by kernel_rfl) <| R.call mixed (c_fac h0 hc hd) (by kernel_rfl) <| R.call mixed (c_fac h1 hc hd) (by kernel_rfl) <| R.callM mixed [] c_equation1 (by kernel_rfl) (by kernel_rfl) rfl <|
    R.callM mixed [.win 6 0 1 false] (c_eq1 r (fac b0 r x a w) x (fac b1 r x a w)) (by kernel_rfl) (by kernel_rfl) rfl <|
    R.callM mixed [.win 6 0 1 false] (c_eq1 a (fac b0 a w a w) w (fac b1 a w a w)) (by kernel_rfl) (by kernel_rfl) rfl <|
    R.fin mixed Try.func80 (by kernel_rfl)
theorem c_mix_1_10 {b0 b1 r g b a x y z w : Int} (h0 : 0 ≤ b0 ∧ b0 ≤ 9) (h1 : 0 ≤ b1 ∧ b1 ≤ 9) (hc : rightC r g b a = true) (hd : rightC x y z w = true) : Con Try.prog 80 [R4 b0 b1 1 10, C4 r g b a, C4 x y z w] (.tuple ⟨[mixC b0 b1 1 10 r g b a x y z w, .int .i64 0]⟩) :=
  Con.run Try.func80 (by kernel_rfl) rfl <| R.call mixed (c_blend0 (b2 := 1) (b3 := 10) h0 h1 (by omega) (by omega)) (by kernel_rfl) <| R.call mixed (c_fac h0 hc hd) (by kernel_rfl) <| R.call mixed (c_fac h1 hc hd) (by kernel_rfl) <| R.callM mixed [] c_equation1 (by kernel_rfl) (by kernel_rfl) rfl <|
    R.callM mixed [.win 6 0 1 false] (c_eq1 g (fac b0 g y a w) y (fac b1 g y a w)) (by kernel_rfl) (by kernel_rfl) rfl <|
    R.callM mixed [.win 6 0 1 false] (c_eq1 a (fac b0 a w a w) w (fac b1 a w a w)) (by kernel_rfl) (by kernel_rfl) rfl <|
    R.fin mixed Try.func80 (by kernel_rfl)
theorem c_mix_1_11 {b0 b1 r g b a x y z w : Int} (h0 : 0 ≤ b0 ∧ b0 ≤ 9) (h1 : 0 ≤ b1 ∧ b1 ≤ 9) (hc : rightC r g b a = true) (hd : rightC x y z w = true) : Con Try.prog 80 [R4 b0 b1 1 11, C4 r g b a, C4 x y z w] (.tuple ⟨[mixC b0 b1 1 11 r g b a x y z w, .int .i64 0]⟩) :=
  Con.run Try.func80 (by kernel_rfl) rfl <| R.call mixed (c_blend0 (b2 := 1) (b3 := 11) h0 h1 (by omega) (by omega)) (by kernel_rfl) <| R.call mixed (c_fac h0 hc hd) (by kernel_rfl) <| R.call mixed (c_fac h1 hc hd) (by kernel_rfl) <| R.callM mixed [] c_equation1 (by kernel_rfl) (by kernel_rfl) rfl <|
    R.callM mixed [.win 6 0 1 false] (c_eq1 r (fac b0 r x a w) x (fac b1 r x a w)) (by kernel_rfl) (by kernel_rfl) rfl <|
    R.callM mixed [.win 6 0 1 false] (c_eq1 g (fac b0 g y a w) y (fac b1 g y a w)) (by kernel_rfl) (by kernel_rfl) rfl <|
    R.callM mixed [.win 6 0 1 false] (c_eq1 a (fac b0 a w a w) w (fac b1 a w a w)) (by kernel_rfl) (by kernel_rfl) rfl <|
    R.fin mixed Try.func80 (by kernel_rfl)
theorem c_mix_1_12 {b0 b1 r g b a x y z w : Int} (h0 : 0 ≤ b0 ∧ b0 ≤ 9) (h1 : 0 ≤ b1 ∧ b1 ≤ 9) (hc : rightC r g b a = true) (hd : rightC x y z w = true) : Con Try.prog 80 [R4 b0 b1 1 12, C4 r g b a, C4 x y z w] (.tuple ⟨[mixC b0 b1 1 12 r g b a x y z w, .int .i64 0]⟩) :=
  Con.run Try.func80 (by kernel_rfl) rfl <| R.call mixed (c_blend0 (b2 := 1) (b3 := 12) h0 h1 (by omega) (by omega)) (by kernel_rfl) <| R.call mixed (c_fac h0 hc hd) (by kernel_rfl) <| R.call mixed (c_fac h1 hc hd) (by kernel_rfl) <| R.callM mixed [] c_equation1 (by kernel_rfl) (by kernel_rfl) rfl <|
    R.callM mixed [.win 6 0 1 false] (c_eq1 b (fac b0 b z a w) z (fac b1 b z a w)) (by kernel_rfl) (by kernel_rfl) rfl <|
    R.callM mixed [.win 6 0 1 false] (c_eq1 a (fac b0 a w a w) w (fac b1 a w a w)) (by kernel_rfl) (by kernel_rfl) rfl <|
    R.fin mixed Try.func80 (by kernel_rfl)
theorem c_mix_1_13 {b0 b1 r g b a x y z w : Int} (h0 : 0 ≤ b0 ∧ b0 ≤ 9) (h1 : 0 ≤ b1 ∧ b1 ≤ 9) (hc : rightC r g b a = true) (hd : rightC x y z w = true) : Con Try.prog 80 [R4 b0 b1 1 13, C4 r g b a, C4 x y z w] (.tuple ⟨[mixC b0 b1 1 13 r g b a x y z w, .int .i64 0]⟩) :=
  Con.run Try.func80 (by kernel_rfl) rfl <| R.call mixed (c_blend0 (b2 := 1) (b3 := 13) h0 h1 (by omega) (by omega)) (by kernel_rfl) <| R.call mixed (c_fac h0 hc hd) (by kernel_rfl) <| R.call mixed (c_fac h1 hc hd) (by kernel_rfl) <| R.callM mixed [] c_equation1 (by kernel_rfl) (by kernel_rfl) rfl <|
    R.callM mixed [.win 6 0 1 false] (c_eq1 r (fac b0 r x a w) x (fac b1 r x a w)) (by kernel_rfl) (by kernel_rfl) rfl <|
    R.callM mixed [.win 6 0 1 false] (c_eq1 b (fac b0 b z a w) z (fac b1 b z a w)) (by kernel_rfl) (by kernel_rfl) rfl <|
    R.callM mixed [.win 6 0 1 false] (c_eq1 a (fac b0 a w a w) w (fac b1 a w a w)) (by kernel_rfl) (by kernel_rfl) rfl <|
    R.fin mixed Try.func80 (by kernel_rfl)
theorem c_mix_1_14 {b0 b1 r g b a x y z w : Int} (h0 : 0 ≤ b0 ∧ b0 ≤ 9) (h1 : 0 ≤ b1 ∧ b1 ≤ 9) (hc : rightC r g b a = true) (hd : rightC x y z w = true) : Con Try.prog 80 [R4 b0 b1 1 14, C4 r g b a, C4 x y z w] (.tuple ⟨[mixC b0 b1 1 14 r g b a x y z w, .int .i64 0]⟩) :=
  Con.run Try.func80 (by kernel_rfl) rfl <| R.call mixed (c_blend0 (b2 := 1) (b3 := 14) h0 h1 (by omega) (by omega)) (by kernel_rfl) <| R.call mixed (c_fac h0 hc hd) (by kernel_rfl) <| R.call mixed (c_fac h1 hc hd) (by kernel_rfl) <| R.callM mixed [] c_equation1 (by kernel_rfl) (by kernel_rfl) rfl <|
    R.callM mixed [.win 6 0 1 false] (c_eq1 g (fac b0 g y a w) y (fac b1 g y a w)) (by kernel_rfl) (by kernel_rfl) rfl <|
    R.callM mixed [.win 6 0 1 false] (c_eq1 b (fac b0 b z a w) z (fac b1 b z a w)) (by kernel_rfl) (by kernel_rfl) rfl <|
    R.callM mixed [.win 6 0 1 false] (c_eq1 a (fac b0 a w a w) w (fac b1 a w a w)) (by kernel_rfl) (by kernel_rfl) rfl <|
    R.fin mixed Try.func80 (by kernel_rfl)
theorem c_mix_1_15 {b0 b1 r g b a x y z w : Int} (h0 : 0 ≤ b0 ∧ b0 ≤ 9) (h1 : 0 ≤ b1 ∧ b1 ≤ 9) (hc : rightC r g b a = true) (hd : rightC x y z w = true) : Con Try.prog 80 [R4 b0 b1 1 15, C4 r g b a, C4 x y z w] (.tuple ⟨[mixC b0 b1 1 15 r g b a x y z w, .int .i64 0]⟩) :=
  Con.run Try.func80 (by kernel_rfl) rfl <| R.call mixed (c_blend0 (b2 := 1) (b3 := 15) h0 h1 (by omega) (by omega)) (by kernel_rfl) <| R.call mixed (c_fac h0 hc hd) (by kernel_rfl) <| R.call mixed (c_fac h1 hc hd) (by kernel_rfl) <| R.callM mixed [] c_equation1 (by kernel_rfl) (by kernel_rfl) rfl <|
    R.callM mixed [.win 6 0 1 false] (c_eq1 r (fac b0 r x a w) x (fac b1 r x a w)) (by kernel_rfl) (by kernel_rfl) rfl <|
    R.callM mixed [.win 6 0 1 false] (c_eq1 g (fac b0 g y a w) y (fac b1 g y a w)) (by kernel_rfl) (by kernel_rfl) rfl <|
    R.callM mixed [.win 6 0 1 false] (c_eq1 b (fac b0 b z a w) z (fac b1 b z a w)) (by kernel_rfl) (by kernel_rfl) rfl <|
    R.callM mixed [.win 6 0 1 false] (c_eq1 a (fac b0 a w a w) w (fac b1 a w a w)) (by kernel_rfl) (by kernel_rfl) rfl <|
    R.fin mixed Try.func80 (by kernel_rfl)
theorem c_mix_1 {b0 b1 b3 r g b a x y z w : Int} (h0 : 0 ≤ b0 ∧ b0 ≤ 9) (h1 : 0 ≤ b1 ∧ b1 ≤ 9) (h3 : 0 ≤ b3 ∧ b3 ≤ 15) (hc : rightC r g b a = true) (hd : rightC x y z w = true) : Con Try.prog 80 [R4 b0 b1 1 b3, C4 r g b a, C4 x y z w] (.tuple ⟨[mixC b0 b1 1 b3 r g b a x y z w, .int .i64 0]⟩) := by
  rcases mask16 h3 with rfl | rfl | rfl | rfl | rfl | rfl | rfl | rfl | rfl | rfl | rfl | rfl | rfl | rfl | rfl | rfl
  · exact c_mix_1_0 h0 h1 hc hd
  · exact c_mix_1_1 h0 h1 hc hd
  · exact c_mix_1_2 h0 h1 hc hd
  · exact c_mix_1_3 h0 h1 hc hd
  · exact c_mix_1_4 h0 h1 hc hd
  · exact c_mix_1_5 h0 h1 hc hd
  · exact c_mix_1_6 h0 h1 hc hd
  · exact c_mix_1_7 h0 h1 hc hd
  · exact c_mix_1_8 h0 h1 hc hd
  · exact c_mix_1_9 h0 h1 hc hd
  · exact c_mix_1_10 h0 h1 hc hd
  · exact c_mix_1_11 h0 h1 hc hd
  · exact c_mix_1_12 h0 h1 hc hd
  · exact c_mix_1_13 h0 h1 hc hd
  · exact c_mix_1_14 h0 h1 hc hd
  · exact c_mix_1_15 h0 h1 hc hd

theorem c_mix_2_0 {b0 b1 r g b a x y z w : Int} (h0 : 0 ≤ b0 ∧ b0 ≤ 9) (h1 : 0 ≤ b1 ∧ b1 ≤ 9) (hc : rightC r g b a = true) (hd : rightC x y z w = true) : Con Try.prog 80 [R4 b0 b1 2 0, C4 r g b a, C4 x y z w] (.tuple ⟨[mixC b0 b1 2 0 r g b a x y z w, .int .i64 0]⟩) :=
  Con.run Try.func80 (by kernel_rfl) rfl <| R.call mixed (c_blend0 (b2 := 2) (b3 := 0) h0 h1 (by omega) (by omega)) (by kernel_rfl) <| R.call mixed (c_fac h0 hc hd) (by kernel_rfl) <| R.call mixed (c_fac h1 hc hd) (by kernel_rfl) <| R.callM mixed [] c_equation2 (by kernel_rfl) (by kernel_rfl) rfl <|
    R.fin mixed Try.func80 (by kernel_rfl)
theorem c_mix_2_1 {b0 b1 r g b a x y z w : Int} (h0 : 0 ≤ b0 ∧ b0 ≤ 9) (h1 : 0 ≤ b1 ∧ b1 ≤ 9) (hc : rightC r g b a = true) (hd : rightC x y z w = true) : Con Try.prog 80 [R4 b0 b1 2 1, C4 r g b a, C4 x y z w] (.tuple ⟨[mixC b0 b1 2 1 r g b a x y z w, .int .i64 0]⟩) :=
  Con.run Try.func80 (by kernel_rfl) rfl <| R.call mixed (c_blend0 (b2 := 2) (b3 := 1) h0 h1 (by omega) (by omega)) (by kernel_rfl) <| R.call mixed (c_fac h0 hc hd) (by kernel_rfl) <| R.call mixed (c_fac h1 hc hd) (by kernel_rfl) <| R.callM mixed [] c_equation2 (by kernel_rfl) (by kernel_rfl) rfl <|
    R.callM mixed [.win 6 0 1 false] (c_eq2 r (fac b0 r x a w) x (fac b1 r x a w)) (by kernel_rfl) (by kernel_rfl) rfl <|
    R.fin mixed Try.func80 (by kernel_rfl)
theorem c_mix_2_2 {b0 b1 r g b a x y z w : Int} (h0 : 0 ≤ b0 ∧ b0 ≤ 9) (h1 : 0 ≤ b1 ∧ b1 ≤ 9) (hc : rightC r g b a = true) (hd : rightC x y z w = true) : Con Try.prog 80 [R4 b0 b1 2 2, C4 r g b a, C4 x y z w] (.tuple ⟨[mixC b0 b1 2 2 r g b a x y z w, .int .i64 0]⟩) :=
  Con.run Try.func80 (by kernel_rfl) rfl <| R.call mixed (c_blend0 (b2 := 2) (b3 := 2) h0 h1 (by omega) (by omega)) (by kernel_rfl) <| R.call mixed (c_fac h0 hc hd) (by kernel_rfl) <| R.call mixed (c_fac h1 hc hd) (by kernel_rfl) <| R.callM mixed [] c_equation2 (by kernel_rfl) (by kernel_rfl) rfl <|
    R.callM mixed [.win 6 0 1 false] (c_eq2 g (fac b0 g y a w) y (fac b1 g y a w)) (by kernel_rfl) (by kernel_rfl) rfl <|
    R.fin mixed Try.func80 (by kernel_rfl)
theorem c_mix_2_3 {b0 b1 r g b a x y z w : Int} (h0 : 0 ≤ b0 ∧ b0 ≤ 9) (h1 : 0 ≤ b1 ∧ b1 ≤ 9) (hc : rightC r g b a = true) (hd : rightC x y z w = true) : Con Try.prog 80 [R4 b0 b1 2 3, C4 r g b a, C4 x y z w] (.tuple ⟨[mixC b0 b1 2 3 r g b a x y z w, .int .i64 0]⟩) :=
  Con.run Try.func80 (by kernel_rfl) rfl <| R.call mixed (c_blend0 (b2 := 2) (b3 := 3) h0 h1 (by omega) (by omega)) (by kernel_rfl) <| R.call mixed (c_fac h0 hc hd) (by kernel_rfl) <| R.call mixed (c_fac h1 hc hd) (by kernel_rfl) <| R.callM mixed [] c_equation2 (by kernel_rfl) (by kernel_rfl) rfl <|
    R.callM mixed [.win 6 0 1 false] (c_eq2 r (fac b0 r x a w) x (fac b1 r x a w)) (by kernel_rfl) (by kernel_rfl) rfl <|
    R.callM mixed [.win 6 0 1 false] (c_eq2 g (fac b0 g y a w) y (fac b1 g y a w)) (by kernel_rfl) (by kernel_rfl) rfl <|
    R.fin mixed Try.func80 (by kernel_rfl)
theorem c_mix_2_4 {b0 b1 r g b a x y z w : Int} (h0 : 0 ≤ b0 ∧ b0 ≤ 9) (h1 : 0 ≤ b1 ∧ b1 ≤ 9) (hc : rightC r g b a = true) (hd : rightC x y z w = true) : Con Try.prog 80 [R4 b0 b1 2 4, C4 r g b a, C4 x y z w] (.tuple ⟨[mixC b0 b1 2 4 r g b a x y z w, .int .i64 0]⟩) :=
  Con.run Try.func80 (by kernel_rfl) rfl <| R.call mixed (c_blend0 (b2 := 2) (b3 := 4) h0 h1 (by omega) (by omega)) (by kernel_rfl) <| R.call mixed (c_fac h0 hc hd) (by kernel_rfl) <| R.call mixed (c_fac h1 hc hd) (by kernel_rfl) <| R.callM mixed [] c_equation2 (by kernel_rfl) (by kernel_rfl) rfl <|
    R.callM mixed [.win 6 0 1 false] (c_eq2 b (fac b0 b z a w) z (fac b1 b z a w)) (by kernel_rfl) (by kernel_rfl) rfl <|
    R.fin mixed Try.func80 (by kernel_rfl)
theorem c_mix_2_5 {b0 b1 r g b a x y z w : Int} (h0 : 0 ≤ b0 ∧ b0 ≤ 9) (h1 : 0 ≤ b1 ∧ b1 ≤ 9) (hc : rightC r g b a = true) (hd : rightC x y z w = true) : Con Try.prog 80 [R4 b0 b1 2 5, C4 r g b a, C4 x y z w] (.tuple ⟨[mixC b0 b1 2 5 r g b a x y z w, .int .i64 0]⟩) :=
  Con.run Try.func80 (by kernel_rfl) rfl <| R.call mixed (c_blend0 (b2 := 2) (b3 := 5) h0 h1 (by omega) (by omega)) (by kernel_rfl) <| R.call mixed (c_fac h0 hc hd) (by kernel_rfl) <| R.call mixed (c_fac h1 hc hd) (by kernel_rfl) <| R.callM mixed [] c_equation2 (by kernel_rfl) (by kernel_rfl) rfl <|
    R.callM mixed [.win 6 0 1 false] (c_eq2 r (fac b0 r x a w) x (fac b1 r x a w)) (by kernel_rfl) (by kernel_rfl) rfl <|
    R.callM mixed [.win 6 0 1 false] (c_eq2 b (fac b0 b z a w) z (fac b1 b z a w)) (by kernel_rfl) (by kernel_rfl) rfl <|
    R.fin mixed Try.func80 (by kernel_rfl)
theorem c_mix_2_6 {b0 b1 r g b a x y z w : Int} (h0 : 0 ≤ b0 ∧ b0 ≤ 9) (h1 : 0 ≤ b1 ∧ b1 ≤ 9) (hc : rightC r g b a = true) (hd : rightC x y z w = true) : Con Try.prog 80 [R4 b0 b1 2 6, C4 r g b a, C4 x y z w] (.tuple ⟨[mixC b0 b1 2 6 r g b a x y z w, .int .i64 0]⟩) :=
  Con.run Try.func80 (by kernel_rfl) rfl <| R.call mixed (c_blend0 (b2 := 2) (b3 := 6) h0 h1 (by omega) (by omega)) (by kernel_rfl) <| R.call mixed (c_fac h0 hc hd) (by kernel_rfl) <| R.call mixed (c_fac h1 hc hd) (by kernel_rfl) <| R.callM mixed [] c_equation2 (by kernel_rfl) (by kernel_rfl) rfl <|
    R.callM mixed [.win 6 0 1 false] (c_eq2 g (fac b0 g y a w) y (fac b1 g y a w)) (by kernel_rfl) (by kernel_rfl) rfl <|
    R.callM mixed [.win 6 0 1 false] (c_eq2 b (fac b0 b z a w) z (fac b1 b z a w)) (by kernel_rfl) (by kernel_rfl) rfl <|
    R.fin mixed Try.func80 (by kernel_rfl)
theorem c_mix_2_7 {b0 b1 r g b a x y z w : Int} (h0 : 0 ≤ b0 ∧ b0 ≤ 9) (h1 : 0 ≤ b1 ∧ b1 ≤ 9) (hc : rightC r g b a = true) (hd : rightC x y z w = true) : Con Try.prog 80 [R4 b0 b1 2 7, C4 r g b a, C4 x y z w] (.tuple ⟨[mixC b0 b1 2 7 r g b a x y z w, .int .i64 0]⟩) :=
  Con.run Try.func80 (by kernel_rfl) rfl <| R.call mixed (c_blend0 (b2 := 2) (b3 := 7) h0 h1 (by omega) (by omega)) (by kernel_rfl) <| R.call mixed (c_fac h0 hc hd) (by kernel_rfl) <| R.call mixed (c_fac h1 hc hd) (by kernel_rfl) <| R.callM mixed [] c_equation2 (by kernel_rfl) (by kernel_rfl) rfl <|
    R.callM mixed [.win 6 0 1 false] (c_eq2 r (fac b0 r x a w) x (fac b1 r x a w)) (by kernel_rfl) (by kernel_rfl) rfl <|
    R.callM mixed [.win 6 0 1 false] (c_eq2 g (fac b0 g y a w) y (fac b1 g y a w)) (by kernel_rfl) (by kernel_rfl) rfl <|
    R.callM mixed [.win 6 0 1 false] (c_eq2 b (fac b0 b z a w) z (fac b1 b z a w)) (by kernel_rfl) (by kernel_rfl) rfl <|
    R.fin mixed Try.func80 (by kernel_rfl)
theorem c_mix_2_8 {b0 b1 r g b a x y z w : Int} (h0 : 0 ≤ b0 ∧ b0 ≤ 9) (h1 : 0 ≤ b1 ∧ b1 ≤ 9) (hc : rightC r g b a = true) (hd : rightC x y z w = true) : Con Try.prog 80 [R4 b0 b1 2 8, C4 r g b a, C4 x y z w] (.tuple ⟨[mixC b0 b1 2 8 r g b a x y z w, .int .i64 0]⟩) :=
  Con.run Try.func80 (by kernel_rfl) rfl <| R.call mixed (c_blend0 (b2 := 2) (b3 := 8) h0 h1 (by omega) (by omega)) (by kernel_rfl) <| R.call mixed (c_fac h0 hc hd) (by kernel_rfl) <| R.call mixed (c_fac h1 hc hd) (by kernel_rfl) <| R.callM mixed [] c_equation2 (by kernel_rfl) (by kernel_rfl) rfl <|
    R.callM mixed [.win 6 0 1 false] (c_eq2 a (fac b0 a w a w) w (fac b1 a w a w)) (by kernel_rfl) (by kernel_rfl) rfl <|
    R.fin mixed Try.func80 (by kernel_rfl)
theorem c_mix_2_9 {b0 b1 r g b a x y z w : Int} (h0 : 0 ≤ b0 ∧ b0 ≤ 9) (h1 : 0 ≤ b1 ∧ b1 ≤ 9) (hc : rightC r g b a = true) (hd : rightC x y z w = true) : Con Try.prog 80 [R4 b0 b1 2 9, C4 r g b a, C4 x y z w] (.tuple ⟨[mixC b0 b1 2 9 r g b a x y z w, .int .i64 0]⟩) :=
  Con.run Try.func80 (by kernel_rfl) rfl <| R.call mixed (c_blend0 (b2 := 2) (b3 := 9) h0 h1 (by omega) (by omega)) (by kernel_rfl) <| R.call mixed (c_fac h0 hc hd) (by kernel_rfl) <| R.call mixed (c_fac h1 hc hd) (by kernel_rfl) <| R.callM mixed [] c_equation2 (by kernel_rfl) (by kernel_rfl) rfl <|
    R.callM mixed [.win 6 0 1 false] (c_eq2 r (fac b0 r x a w) x (fac b1 r x a w)) (by kernel_rfl) (by kernel_rfl) rfl <|
    R.callM mixed [.win 6 0 1 false] (c_eq2 a (fac b0 a w a w) w (fac b1 a w a w)) (by kernel_rfl) (by kernel_rfl) rfl <|
    R.fin mixed Try.func80 (by kernel_rfl)
theorem c_mix_2_10 {b0 b1 r g b a x y z w : Int} (h0 : 0 ≤ b0 ∧ b0 ≤ 9) (h1 : 0 ≤ b1 ∧ b1 ≤ 9) (hc : rightC r g b a = true) (hd : rightC x y z w = true) : Con Try.prog 80 [R4 b0 b1 2 10, C4 r g b a, C4 x y z w] (.tuple ⟨[mixC b0 b1 2 10 r g b a x y z w, .int .i64 0]⟩) :=
  Con.run Try.func80 (by kernel_rfl) rfl <| R.call mixed (c_blend0 (b2 := 2) (b3 := 10) h0 h1 (by omega) (by omega)) (by kernel_rfl) <| R.call mixed (c_fac h0 hc hd) (by kernel_rfl) <| R.call mixed (c_fac h1 hc hd) (by kernel_rfl) <| R.callM mixed [] c_equation2 (by kernel_rfl) (by kernel_rfl) rfl <|
    R.callM mixed [.win 6 0 1 false] (c_eq2 g (fac b0 g y a w) y (fac b1 g y a w)) (by kernel_rfl) (by kernel_rfl) rfl <|
    R.callM mixed [.win 6 0 1 false] (c_eq2 a (fac b0 a w a w) w (fac b1 a w a w)) (by kernel_rfl) (by kernel_rfl) rfl <|
    R.fin mixed Try.func80 (by kernel_rfl)
theorem c_mix_2_11 {b0 b1 r g b a x y z w : Int} (h0 : 0 ≤ b0 ∧ b0 ≤ 9) (h1 : 0 ≤ b1 ∧ b1 ≤ 9) (hc : rightC r g b a = true) (hd : rightC x y z w = true) : Con Try.prog 80 [R4 b0 b1 2 11, C4 r g b a, C4 x y z w] (.tuple ⟨[mixC b0 b1 2 11 r g b a x y z w, .int .i64 0]⟩) :=
  Con.run Try.func80 (by kernel_rfl) rfl <| R.call mixed (c_blend0 (b2 := 2) (b3 := 11) h0 h1 (by omega) (by omega)) (by kernel_rfl) <| R.call mixed (c_fac h0 hc hd) (by kernel_rfl) <| R.call mixed (c_fac h1 hc hd) (by kernel_rfl) <| R.callM mixed [] c_equation2 (by kernel_rfl) (by kernel_rfl) rfl <|
    R.callM mixed [.win 6 0 1 false] (c_eq2 r (fac b0 r x a w) x (fac b1 r x a w)) (by kernel_rfl) (by kernel_rfl) rfl <|
    R.callM mixed [.win 6 0 1 false] (c_eq2 g (fac b0 g y a w) y (fac b1 g y a w)) (by kernel_rfl) (by kernel_rfl) rfl <|
    R.callM mixed [.win 6 0 1 false] (c_eq2 a (fac b0 a w a w) w (fac b1 a w a w)) (by kernel_rfl) (by kernel_rfl) rfl <|
    R.fin mixed Try.func80 (by kernel_rfl)
theorem c_mix_2_12 {b0 b1 r g b a x y z w : Int} (h0 : 0 ≤ b0 ∧ b0 ≤ 9) (h1 : 0 ≤ b1 ∧ b1 ≤ 9) (hc : rightC r g b a = true) (hd : rightC x y z w = true) : Con Try.prog 80 [R4 b0 b1 2 12, C4 r g b a, C4 x y z w] (.tuple ⟨[mixC b0 b1 2 12 r g b a x y z w, .int .i64 0]⟩) :=
  Con.run Try.func80 (by kernel_rfl) rfl <| R.call mixed (c_blend0 (b2 := 2) (b3 := 12) h0 h1 (by omega) (by omega)) (by kernel_rfl) <| R.call mixed (c_fac h0 hc hd) (by kernel_rfl) <| R.call mixed (c_fac h1 hc hd) (by kernel_rfl) <| R.callM mixed [] c_equation2 (by kernel_rfl) (by kernel_rfl) rfl <|
    R.callM mixed [.win 6 0 1 false] (c_eq2 b (fac b0 b z a w) z (fac b1 b z a w)) (by kernel_rfl) (by kernel_rfl) rfl <|
    R.callM mixed [.win 6 0 1 false] (c_eq2 a (fac b0 a w a w) w (fac b1 a w a w)) (by kernel_rfl) (by kernel_rfl) rfl <|
    R.fin mixed Try.func80 (by kernel_rfl)
theorem c_mix_2_13 {b0 b1 r g b a x y z w : Int} (h0 : 0 ≤ b0 ∧ b0 ≤ 9) (h1 : 0 ≤ b1 ∧ b1 ≤ 9) (hc : rightC r g b a = true) (hd : rightC x y z w = true) : Con Try.prog 80 [R4 b0 b1 2 13, C4 r g b a, C4 x y z w] (.tuple ⟨[mixC b0 b1 2 13 r g b a x y z w, .int .i64 0]⟩) :=
  Con.run Try.func80 (by kernel_rfl) rfl <| R.call mixed (c_blend0 (b2 := 2) (b3 := 13) h0 h1 (by omega) (by omega)) (by kernel_rfl) <| R.call mixed (c_fac h0 hc hd) (by kernel_rfl) <| R.call mixed (c_fac h1 hc hd) (by kernel_rfl) <| R.callM mixed [] c_equation2 (by kernel_rfl) (by kernel_rfl) rfl <|
    R.callM mixed [.win 6 0 1 false] (c_eq2 r (fac b0 r x a w) x (fac b1 r x a w)) (by kernel_rfl) (by kernel_rfl) rfl <|
    R.callM mixed [.win 6 0 1 false] (c_eq2 b (fac b0 b z a w) z (fac b1 b z a w)) (by kernel_rfl) (by kernel_rfl) rfl <|
    R.callM mixed [.win 6 0 1 false] (c_eq2 a (fac b0 a w a w) w (fac b1 a w a w)) (by kernel_rfl) (by kernel_rfl) rfl <|
    R.fin mixed Try.func80 (by kernel_rfl)
theorem c_mix_2_14 {b0 b1 r g b a x y z w : Int} (h0 : 0 ≤ b0 ∧ b0 ≤ 9) (h1 : 0 ≤ b1 ∧ b1 ≤ 9) (hc : rightC r g b a = true) (hd : rightC x y z w = true) : Con Try.prog 80 [R4 b0 b1 2 14, C4 r g b a, C4 x y z w] (.tuple ⟨[mixC b0 b1 2 14 r g b a x y z w, .int .i64 0]⟩) :=
  Con.run Try.func80 (by kernel_rfl) rfl <| R.call mixed (c_blend0 (b2 := 2) (b3 := 14) h0 h1 (by omega) (by omega)) (by kernel_rfl) <| R.call mixed (c_fac h0 hc hd) (by kernel_rfl) <| R.call mixed (c_fac h1 hc hd) (by kernel_rfl) <| R.callM mixed [] c_equation2 (by kernel_rfl) (by kernel_rfl) rfl <|
    R.callM mixed [.win 6 0 1 false] (c_eq2 g (fac b0 g y a w) y (fac b1 g y a w)) (by kernel_rfl) (by kernel_rfl) rfl <|
    R.callM mixed [.win 6 0 1 false] (c_eq2 b (fac b0 b z a w) z (fac b1 b z a w)) (by kernel_rfl) (by kernel_rfl) rfl <|
    R.callM mixed [.win 6 0 1 false] (c_eq2 a (fac b0 a w a w) w (fac b1 a w a w)) (by kernel_rfl) (by kernel_rfl) rfl <|
    R.fin mixed Try.func80 (by kernel_rfl)
theorem c_mix_2_15 {b0 b1 r g b a x y z w : Int} (h0 : 0 ≤ b0 ∧ b0 ≤ 9) (h1 : 0 ≤ b1 ∧ b1 ≤ 9) (hc : rightC r g b a = true) (hd : rightC x y z w = true) : Con Try.prog 80 [R4 b0 b1 2 15, C4 r g b a, C4 x y z w] (.tuple ⟨[mixC b0 b1 2 15 r g b a x y z w, .int .i64 0]⟩) :=
  Con.run Try.func80 (by kernel_rfl) rfl <| R.call mixed (c_blend0 (b2 := 2) (b3 := 15) h0 h1 (by omega) (by omega)) (by kernel_rfl) <| R.call mixed (c_fac h0 hc hd) (by kernel_rfl) <| R.call mixed (c_fac h1 hc hd) (by kernel_rfl) <| R.callM mixed [] c_equation2 (by kernel_rfl) (by kernel_rfl) rfl <|
    R.callM mixed [.win 6 0 1 false] (c_eq2 r (fac b0 r x a w) x (fac b1 r x a w)) (by kernel_rfl) (by kernel_rfl) rfl <|
    R.callM mixed [.win 6 0 1 false] (c_eq2 g (fac b0 g y a w) y (fac b1 g y a w)) (by kernel_rfl) (by kernel_rfl) rfl <|
    R.callM mixed [.win 6 0 1 false] (c_eq2 b (fac b0 b z a w) z (fac b1 b z a w)) (by kernel_rfl) (by kernel_rfl) rfl <|
    R.callM mixed [.win 6 0 1 false] (c_eq2 a (fac b0 a w a w) w (fac b1 a w a w)) (by kernel_rfl) (by kernel_rfl) rfl <|
    R.fin mixed Try.func80 (by kernel_rfl)
theorem c_mix_2 {b0 b1 b3 r g b a x y z w : Int} (h0 : 0 ≤ b0 ∧ b0 ≤ 9) (h1 : 0 ≤ b1 ∧ b1 ≤ 9) (h3 : 0 ≤ b3 ∧ b3 ≤ 15) (hc : rightC r g b a = true) (hd : rightC x y z w = true) : Con Try.prog 80 [R4 b0 b1 2 b3, C4 r g b a, C4 x y z w] (.tuple ⟨[mixC b0 b1 2 b3 r g b a x y z w, .int .i64 0]⟩) := by
  rcases mask16 h3 with rfl | rfl | rfl | rfl | rfl | rfl | rfl | rfl | rfl | rfl | rfl | rfl | rfl | rfl | rfl | rfl
  · exact c_mix_2_0 h0 h1 hc hd
  · exact c_mix_2_1 h0 h1 hc hd
  · exact c_mix_2_2 h0 h1 hc hd
  · exact c_mix_2_3 h0 h1 hc hd
  · exact c_mix_2_4 h0 h1 hc hd
  · exact c_mix_2_5 h0 h1 hc hd
  · exact c_mix_2_6 h0 h1 hc hd
  · exact c_mix_2_7 h0 h1 hc hd
  · exact c_mix_2_8 h0 h1 hc hd
  · exact c_mix_2_9 h0 h1 hc hd
  · exact c_mix_2_10 h0 h1 hc hd
  · exact c_mix_2_11 h0 h1 hc hd
  · exact c_mix_2_12 h0 h1 hc hd
  · exact c_mix_2_13 h0 h1 hc hd
  · exact c_mix_2_14 h0 h1 hc hd
  · exact c_mix_2_15 h0 h1 hc hd

theorem c_mix_3_0 {b0 b1 r g b a x y z w : Int} (h0 : 0 ≤ b0 ∧ b0 ≤ 9) (h1 : 0 ≤ b1 ∧ b1 ≤ 9) (hc : rightC r g b a = true) (hd : rightC x y z w = true) : Con Try.prog 80 [R4 b0 b1 3 0, C4 r g b a, C4 x y z w] (.tuple ⟨[mixC b0 b1 3 0 r g b a x y z w, .int .i64 0]⟩) :=
  Con.run Try.func80 (by kernel_rfl) rfl <| R.call mixed (c_blend0 (b2 := 3) (b3 := 0) h0 h1 (by omega) (by omega)) (by kernel_rfl) <| R.call mixed (c_fac h0 hc hd) (by kernel_rfl) <| R.call mixed (c_fac h1 hc hd) (by kernel_rfl) <| R.callM mixed [] c_equation3 (by kernel_rfl) (by kernel_rfl) rfl <|
    R.fin mixed Try.func80 (by kernel_rfl)
theorem c_mix_3_1 {b0 b1 r g b a x y z w : Int} (h0 : 0 ≤ b0 ∧ b0 ≤ 9) (h1 : 0 ≤ b1 ∧ b1 ≤ 9) (hc : rightC r g b a = true) (hd : rightC x y z w = true) : Con Try.prog 80 [R4 b0 b1 3 1, C4 r g b a, C4 x y z w] (.tuple ⟨[mixC b0 b1 3 1 r g b a x y z w, .int .i64 0]⟩) :=
  Con.run Try.func80 (by kernel_rfl) rfl <| R.call mixed (c_blend0 (b2 := 3) (b3 := 1) h0 h1 (by omega) (by omega)) (by kernel_rfl) <| R.call mixed (c_fac h0 hc hd) (by kernel_rfl) <| R.call mixed (c_fac h1 hc hd) (by kernel_rfl) <| R.callM mixed [] c_equation3 (by kernel_rfl) (by kernel_rfl) rfl <|
    R.call mixed (c_eq3 r (fac b0 r x a w) x (fac b1 r x a w)) (by kernel_rfl) <|
    R.fin mixed Try.func80 (by kernel_rfl)
theorem c_mix_3_2 {b0 b1 r g b a x y z w : Int} (h0 : 0 ≤ b0 ∧ b0 ≤ 9) (h1 : 0 ≤ b1 ∧ b1 ≤ 9) (hc : rightC r g b a = true) (hd : rightC x y z w = true) : Con Try.prog 80 [R4 b0 b1 3 2, C4 r g b a, C4 x y z w] (.tuple ⟨[mixC b0 b1 3 2 r g b a x y z w, .int .i64 0]⟩) :=
  Con.run Try.func80 (by kernel_rfl) rfl <| R.call mixed (c_blend0 (b2 := 3) (b3 := 2) h0 h1 (by omega) (by omega)) (by kernel_rfl) <| R.call mixed (c_fac h0 hc hd) (by kernel_rfl) <| R.call mixed (c_fac h1 hc hd) (by kernel_rfl) <| R.callM mixed [] c_equation3 (by kernel_rfl) (by kernel_rfl) rfl <|
    R.call mixed (c_eq3 g (fac b0 g y a w) y (fac b1 g y a w)) (by kernel_rfl) <|
    R.fin mixed Try.func80 (by kernel_rfl)
theorem c_mix_3_3 {b0 b1 r g b a x y z w : Int} (h0 : 0 ≤ b0 ∧ b0 ≤ 9) (h1 : 0 ≤ b1 ∧ b1 ≤ 9) (hc : rightC r g b a = true) (hd : rightC x y z w = true) : Con Try.prog 80 [R4 b0 b1 3 3, C4 r g b a, C4 x y z w] (.tuple ⟨[mixC b0 b1 3 3 r g b a x y z w, .int .i64 0]⟩) :=
  Con.run Try.func80 (by kernel_rfl) rfl <| R.call mixed (c_blend0 (b2 := 3) (b3 := 3) h0 h1 (by omega) (by omega)) (by kernel_rfl) <| R.call mixed (c_fac h0 hc hd) (by kernel_rfl) <| R.call mixed (c_fac h1 hc hd) (by kernel_rfl) <| R.callM mixed [] c_equation3 (by kernel_rfl) (by kernel_rfl) rfl <|
    R.call mixed (c_eq3 r (fac b0 r x a w) x (fac b1 r x a w)) (by kernel_rfl) <|
    R.call mixed (c_eq3 g (fac b0 g y a w) y (fac b1 g y a w)) (by kernel_rfl) <|
    R.fin mixed Try.func80 (by kernel_rfl)
theorem c_mix_3_4 {b0 b1 r g b a x y z w : Int} (h0 : 0 ≤ b0 ∧ b0 ≤ 9) (h1 : 0 ≤ b1 ∧ b1 ≤ 9) (hc : rightC r g b a = true) (hd : rightC x y z w = true) : Con Try.prog 80 [R4 b0 b1 3 4, C4 r g b a, C4 x y z w] (.tuple ⟨[mixC b0 b1 3 4 r g b a x y z w, .int .i64 0]⟩) :=
  Con.run Try.func80 (by kernel_rfl) rfl <| R.call mixed (c_blend0 (b2 := 3) (b3 := 4) h0 h1 (by omega) (by omega)) (by kernel_rfl) <| R.call mixed (c_fac h0 hc hd) (by kernel_rfl) <| R.call mixed (c_fac h1 hc hd) (by kernel_rfl) <| R.callM mixed [] c_equation3 (by kernel_rfl) (by kernel_rfl) rfl <|
    R.call mixed (c_eq3 b (fac b0 b z a w) z (fac b1 b z a w)) (by kernel_rfl) <|
    R.fin mixed Try.func80 (by kernel_rfl)
theorem c_mix_3_5 {b0 b1 r g b a x y z w : Int} (h0 : 0 ≤ b0 ∧ b0 ≤ 9) (h1 : 0 ≤ b1 ∧ b1 ≤ 9) (hc : rightC r g b a = true) (hd : rightC x y z w = true) : Con Try.prog 80 [R4 b0 b1 3 5, C4 r g b a, C4 x y z w] (.tuple ⟨[mixC b0 b1 3 5 r g b a x y z w, .int .i64 0]⟩) :=
  Con.run Try.func80 (by kernel_rfl) rfl <| R.call mixed (c_blend0 (b2 := 3) (b3 := 5) h0 h1 (by omega) (by omega)) (by kernel_rfl) <| R.call mixed (c_fac h0 hc hd) (by kernel_rfl) <| R.call mixed (c_fac h1 hc hd) (by kernel_rfl) <| R.callM mixed [] c_equation3 (by kernel_rfl) (by kernel_rfl) rfl <|
    R.call mixed (c_eq3 r (fac b0 r x a w) x (fac b1 r x a w)) (by kernel_rfl) <|
    R.call mixed (c_eq3 b (fac b0 b z a w) z (fac b1 b z a w)) (by kernel_rfl) <|
    R.fin mixed Try.func80 (by kernel_rfl)
theorem c_mix_3_6 {b0 b1 r g b a x y z w : Int} (h0 : 0 ≤ b0 ∧ b0 ≤ 9) (h1 : 0 ≤ b1 ∧ b1 ≤ 9) (hc : rightC r g b a = true) (hd : rightC x y z w = true) : Con Try.prog 80 [R4 b0 b1 3 6, C4 r g b a, C4 x y z w] (.tuple ⟨[mixC b0 b1 3 6 r g b a x y z w, .int .i64 0]⟩) :=
  Con.run Try.func80 (by kernel_rfl) rfl <| R.call mixed (c_blend0 (b2 := 3) (b3 := 6) h0 h1 (by omega) (by omega)) (by kernel_rfl) <| R.call mixed (c_fac h0 hc hd) (by kernel_rfl) <| R.call mixed (c_fac h1 hc hd) (by kernel_rfl) <| R.callM mixed [] c_equation3 (by kernel_rfl) (by kernel_rfl) rfl <|
    R.call mixed (c_eq3 g (fac b0 g y a w) y (fac b1 g y a w)) (by kernel_rfl) <|
    R.call mixed (c_eq3 b (fac b0 b z a w) z (fac b1 b z a w)) (by kernel_rfl) <|
    R.fin mixed Try.func80 (by kernel_rfl)
theorem c_mix_3_7 {b0 b1 r g b a x y z w : Int} (h0 : 0 ≤ b0 ∧ b0 ≤ 9) (h1 : 0 ≤ b1 ∧ b1 ≤ 9) (hc : rightC r g b a = true) (hd : rightC x y z w = true) : Con Try.prog 80 [R4 b0 b1 3 7, C4 r g b a, C4 x y z w] (.tuple ⟨[mixC b0 b1 3 7 r g b a x y z w, .int .i64 0]⟩) :=
  Con.run Try.func80 (by kernel_rfl) rfl <| R.call mixed (c_blend0 (b2 := 3) (b3 := 7) h0 h1 (by omega) (by omega)) (by kernel_rfl) <| R.call mixed (c_fac h0 hc hd) (by kernel_rfl) <| R.call mixed (c_fac h1 hc hd) (by kernel_rfl) <| R.callM mixed [] c_equation3 (by kernel_rfl) (by kernel_rfl) rfl <|
    R.call mixed (c_eq3 r (fac b0 r x a w) x (fac b1 r x a w)) (by kernel_rfl) <|
    R.call mixed (c_eq3 g (fac b0 g y a w) y (fac b1 g y a w)) (by kernel_rfl) <|
    R.call mixed (c_eq3 b (fac b0 b z a w) z (fac b1 b z a w)) (by kernel_rfl) <|
    R.fin mixed Try.func80 (by kernel_rfl)
theorem c_mix_3_8 {b0 b1 r g b a x y z w : Int} (h0 : 0 ≤ b0 ∧ b0 ≤ 9) (h1 : 0 ≤ b1 ∧ b1 ≤ 9) (hc : rightC r g b a = true) (hd : rightC x y z w = true) : Con Try.prog 80 [R4 b0 b1 3 8, C4 r g b a, C4 x y z w] (.tuple ⟨[mixC b0 b1 3 8 r g b a x y z w, .int .i64 0]⟩) :=
  Con.run Try.func80 (by kernel_rfl) rfl <| R.call mixed (c_blend0 (b2 := 3) (b3 := 8) h0 h1 (by omega) (by omega)) (by kernel_rfl) <| R.call mixed (c_fac h0 hc hd) (by kernel_rfl) <| R.call mixed (c_fac h1 hc hd) (by kernel_rfl) <| R.callM mixed [] c_equation3 (by kernel_rfl) (by kernel_rfl) rfl <|
    R.call mixed (c_eq3 a (fac b0 a w a w) w (fac b1 a w a w)) (by kernel_rfl) <|
    R.fin mixed Try.func80 (by kernel_rfl)
theorem c_mix_3_9 {b0 b1 r g b a x y z w : Int} (h0 : 0 ≤ b0 ∧ b0 ≤ 9) (h1 : 0 ≤ b1 ∧ b1 ≤ 9) (hc : rightC r g b a = true) (hd : rightC x y z w = true) : Con Try.prog 80 [R4 b0 b1 3 9, C4 r g b a, C4 x y z w] (.tuple ⟨[mixC b0 b1 3 9 r g b a x y z w, .int .i64 0]⟩) :=
  Con.run Try.func80 (by kernel_rfl) rfl <| R.call mixed (c_blend0 (b2 := 3) (b3 := 9) h0 h1 (by omega) (by omega)) (by kernel_rfl) <| R.call mixed (c_fac h0 hc hd) (by kernel_rfl) <| R.call mixed (c_fac h1 hc hd) (by kernel_rfl) <| R.callM mixed [] c_equation3 (by kernel_rfl) (by kernel_rfl) rfl <|
    R.call mixed (c_eq3 r (fac b0 r x a w) x (fac b1 r x a w)) (by kernel_rfl) <|
    R.call mixed (c_eq3 a (fac b0 a w a w) w (fac b1 a w a w)) (by kernel_rfl) <|
    R.fin mixed Try.func80 (by kernel_rfl)
theorem c_mix_3_10 {b0 b1 r g b a x y z w : Int} (h0 : 0 ≤ b0 ∧ b0 ≤ 9) (h1 : 0 ≤ b1 ∧ b1 ≤ 9) (hc : rightC r g b a = true) (hd : rightC x y z w = true) : Con Try.prog 80 [R4 b0 b1 3 10, C4 r g b a, C4 x y z w] (.tuple ⟨[mixC b0 b1 3 10 r g b a x y z w, .int .i64 0]⟩) :=
  Con.run Try.func80 (by kernel_rfl) rfl <| R.call mixed (c_blend0 (b2 := 3) (b3 := 10) h0 h1 (by omega) (by omega)) (by kernel_rfl) <| R.call mixed (c_fac h0 hc hd) (by kernel_rfl) <| R.call mixed (c_fac h1 hc hd) (by kernel_rfl) <| R.callM mixed [] c_equation3 (by kernel_rfl) (by kernel_rfl) rfl <|
    R.call mixed (c_eq3 g (fac b0 g y a w) y (fac b1 g y a w)) (by kernel_rfl) <|
    R.call mixed (c_eq3 a (fac b0 a w a w) w (fac b1 a w a w)) (by kernel_rfl) <|
    R.fin mixed Try.func80 (by kernel_rfl)
theorem c_mix_3_11 {b0 b1 r g b a x y z w : Int} (h0 : 0 ≤ b0 ∧ b0 ≤ 9) (h1 : 0 ≤ b1 ∧ b1 ≤ 9) (hc : rightC r g b a = true) (hd : rightC x y z w = true) : Con Try.prog 80 [R4 b0 b1 3 11, C4 r g b a, C4 x y z w] (.tuple ⟨[mixC b0 b1 3 11 r g b a x y z w, .int .i64 0]⟩) :=
  Con.run Try.func80 (by kernel_rfl) rfl <| R.call mixed (c_blend0 (b2 := 3) (b3 := 11) h0 h1 (by omega) (by omega)) (by kernel_rfl) <| R.call mixed (c_fac h0 hc hd) (by kernel_rfl) <| R.call mixed (c_fac h1 hc hd) (by kernel_rfl) <| R.callM mixed [] c_equation3 (by kernel_rfl) (by kernel_rfl) rfl <|
    R.call mixed (c_eq3 r (fac b0 r x a w) x (fac b1 r x a w)) (by kernel_rfl) <|
    R.call mixed (c_eq3 g (fac b0 g y a w) y (fac b1 g y a w)) (by kernel_rfl) <|
    R.call mixed (c_eq3 a (fac b0 a w a w) w (fac b1 a w a w)) (by kernel_rfl) <|
    R.fin mixed Try.func80 (by kernel_rfl)
theorem c_mix_3_12 {b0 b1 r g b a x y z w : Int} (h0 : 0 ≤ b0 ∧ b0 ≤ 9) (h1 : 0 ≤ b1 ∧ b1 ≤ 9) (hc : rightC r g b a = true) (hd : rightC x y z w = true) : Con Try.prog 80 [R4 b0 b1 3 12, C4 r g b a, C4 x y z w] (.tuple ⟨[mixC b0 b1 3 12 r g b a x y z w, .int .i64 0]⟩) :=
  Con.run Try.func80 (by kernel_rfl) rfl <| R.call mixed (c_blend0 (b2 := 3) (b3 := 12) h0 h1 (by omega) (by omega)) (by kernel_rfl) <| R.call mixed (c_fac h0 hc hd) (by kernel_rfl) <| R.call mixed (c_fac h1 hc hd) (by kernel_rfl) <| R.callM mixed [] c_equation3 (by kernel_rfl) (by kernel_rfl) rfl <|
    R.call mixed (c_eq3 b (fac b0 b z a w) z (fac b1 b z a w)) (by kernel_rfl) <|
    R.call mixed (c_eq3 a (fac b0 a w a w) w (fac b1 a w a w)) (by kernel_rfl) <|
    R.fin mixed Try.func80 (by kernel_rfl)
theorem c_mix_3_13 {b0 b1 r g b a x y z w : Int} (h0 : 0 ≤ b0 ∧ b0 ≤ 9) (h1 : 0 ≤ b1 ∧ b1 ≤ 9) (hc : rightC r g b a = true) (hd : rightC x y z w = true) : Con Try.prog 80 [R4 b0 b1 3 13, C4 r g b a, C4 x y z w] (.tuple ⟨[mixC b0 b1 3 13 r g b a x y z w, .int .i64 0]⟩) :=
  Con.run Try.func80 (by kernel_rfl) rfl <| R.call mixed (c_blend0 (b2 := 3) (b3 := 13) h0 h1 (by omega) (by omega)) (by kernel_rfl) <| R.call mixed (c_fac h0 hc hd) (by kernel_rfl) <| R.call mixed (c_fac h1 hc hd) (by kernel_rfl) <| R.callM mixed [] c_equation3 (by kernel_rfl) (by kernel_rfl) rfl <|
    R.call mixed (c_eq3 r (fac b0 r x a w) x (fac b1 r x a w)) (by kernel_rfl) <|
    R.call mixed (c_eq3 b (fac b0 b z a w) z (fac b1 b z a w)) (by kernel_rfl) <|
    R.call mixed (c_eq3 a (fac b0 a w a w) w (fac b1 a w a w)) (by kernel_rfl) <|
    R.fin mixed Try.func80 (by kernel_rfl)
theorem c_mix_3_14 {b0 b1 r g b a x y z w : Int} (h0 : 0 ≤ b0 ∧ b0 ≤ 9) (h1 : 0 ≤ b1 ∧ b1 ≤ 9) (hc : rightC r g b a = true) (hd : rightC x y z w = true) : Con Try.prog 80 [R4 b0 b1 3 14, C4 r g b a, C4 x y z w] (.tuple ⟨[mixC b0 b1 3 14 r g b a x y z w, .int .i64 0]⟩) :=
  Con.run Try.func80 (by kernel_rfl) rfl <| R.call mixed (c_blend0 (b2 := 3) (b3 := 14) h0 h1 (by omega) (by omega)) (by kernel_rfl) <| R.call mixed (c_fac h0 hc hd) (by kernel_rfl) <| R.call mixed (c_fac h1 hc hd) (by kernel_rfl) <| R.callM mixed [] c_equation3 (by kernel_rfl) (by kernel_rfl) rfl <|
    R.call mixed (c_eq3 g (fac b0 g y a w) y (fac b1 g y a w)) (by kernel_rfl) <|
    R.call mixed (c_eq3 b (fac b0 b z a w) z (fac b1 b z a w)) (by kernel_rfl) <|
    R.call mixed (c_eq3 a (fac b0 a w a w) w (fac b1 a w a w)) (by kernel_rfl) <|
    R.fin mixed Try.func80 (by kernel_rfl)
theorem c_mix_3_15 {b0 b1 r g b a x y z w : Int} (h0 : 0 ≤ b0 ∧ b0 ≤ 9) (h1 : 0 ≤ b1 ∧ b1 ≤ 9) (hc : rightC r g b a = true) (hd : rightC x y z w = true) : Con Try.prog 80 [R4 b0 b1 3 15, C4 r g b a, C4 x y z w] (.tuple ⟨[mixC b0 b1 3 15 r g b a x y z w, .int .i64 0]⟩) :=
  Con.run Try.func80 (by kernel_rfl) rfl <| R.call mixed (c_blend0 (b2 := 3) (b3 := 15) h0 h1 (by omega) (by omega)) (by kernel_rfl) <| R.call mixed (c_fac h0 hc hd) (by kernel_rfl) <| R.call mixed (c_fac h1 hc hd) (by kernel_rfl) <| R.callM mixed [] c_equation3 (by kernel_rfl) (by kernel_rfl) rfl <|
    R.call mixed (c_eq3 r (fac b0 r x a w) x (fac b1 r x a w)) (by kernel_rfl) <|
    R.call mixed (c_eq3 g (fac b0 g y a w) y (fac b1 g y a w)) (by kernel_rfl) <|
    R.call mixed (c_eq3 b (fac b0 b z a w) z (fac b1 b z a w)) (by kernel_rfl) <|
    R.call mixed (c_eq3 a (fac b0 a w a w) w (fac b1 a w a w)) (by kernel_rfl) <|
    R.fin mixed Try.func80 (by kernel_rfl)
theorem c_mix_3 {b0 b1 b3 r g b a x y z w : Int} (h0 : 0 ≤ b0 ∧ b0 ≤ 9) (h1 : 0 ≤ b1 ∧ b1 ≤ 9) (h3 : 0 ≤ b3 ∧ b3 ≤ 15) (hc : rightC r g b a = true) (hd : rightC x y z w = true) : Con Try.prog 80 [R4 b0 b1 3 b3, C4 r g b a, C4 x y z w] (.tuple ⟨[mixC b0 b1 3 b3 r g b a x y z w, .int .i64 0]⟩) := by
  rcases mask16 h3 with rfl | rfl | rfl | rfl | rfl | rfl | rfl | rfl | rfl | rfl | rfl | rfl | rfl | rfl | rfl | rfl
  · exact c_mix_3_0 h0 h1 hc hd
  · exact c_mix_3_1 h0 h1 hc hd
  · exact c_mix_3_2 h0 h1 hc hd
  · exact c_mix_3_3 h0 h1 hc hd
  · exact c_mix_3_4 h0 h1 hc hd
  · exact c_mix_3_5 h0 h1 hc hd
  · exact c_mix_3_6 h0 h1 hc hd
  · exact c_mix_3_7 h0 h1 hc hd
  · exact c_mix_3_8 h0 h1 hc hd
  · exact c_mix_3_9 h0 h1 hc hd
  · exact c_mix_3_10 h0 h1 hc hd
  · exact c_mix_3_11 h0 h1 hc hd
  · exact c_mix_3_12 h0 h1 hc hd
  · exact c_mix_3_13 h0 h1 hc hd
  · exact c_mix_3_14 h0 h1 hc hd
  · exact c_mix_3_15 h0 h1 hc hd

theorem c_mix_4_0 {b0 b1 r g b a x y z w : Int} (h0 : 0 ≤ b0 ∧ b0 ≤ 9) (h1 : 0 ≤ b1 ∧ b1 ≤ 9) (hc : rightC r g b a = true) (hd : rightC x y z w = true) : Con Try.prog 80 [R4 b0 b1 4 0, C4 r g b a, C4 x y z w] (.tuple ⟨[mixC b0 b1 4 0 r g b a x y z w, .int .i64 0]⟩) :=
  Con.run Try.func80 (by kernel_rfl) rfl <| R.call mixed (c_blend0 (b2 := 4) (b3 := 0) h0 h1 (by omega) (by omega)) (by kernel_rfl) <| R.call mixed (c_fac h0 hc hd) (by kernel_rfl) <| R.call mixed (c_fac h1 hc hd) (by kernel_rfl) <| R.callM mixed [] c_equation4 (by kernel_rfl) (by kernel_rfl) rfl <|
    R.fin mixed Try.func80 (by kernel_rfl)
theorem c_mix_4_1 {b0 b1 r g b a x y z w : Int} (h0 : 0 ≤ b0 ∧ b0 ≤ 9) (h1 : 0 ≤ b1 ∧ b1 ≤ 9) (hc : rightC r g b a = true) (hd : rightC x y z w = true) : Con Try.prog 80 [R4 b0 b1 4 1, C4 r g b a, C4 x y z w] (.tuple ⟨[mixC b0 b1 4 1 r g b a x y z w, .int .i64 0]⟩) :=
  Con.run Try.func80 (by kernel_rfl) rfl <| R.call mixed (c_blend0 (b2 := 4) (b3 := 1) h0 h1 (by omega) (by omega)) (by kernel_rfl) <| R.call mixed (c_fac h0 hc hd) (by kernel_rfl) <| R.call mixed (c_fac h1 hc hd) (by kernel_rfl) <| R.callM mixed [] c_equation4 (by kernel_rfl) (by kernel_rfl) rfl <|
    R.call mixed (c_eq4 r (fac b0 r x a w) x (fac b1 r x a w)) (by kernel_rfl) <|
    R.fin mixed Try.func80 (by kernel_rfl)
theorem c_mix_4_2 {b0 b1 r g b a x y z w : Int} (h0 : 0 ≤ b0 ∧ b0 ≤ 9) (h1 : 0 ≤ b1 ∧ b1 ≤ 9) (hc : rightC r g b a = true) (hd : rightC x y z w = true) : Con Try.prog 80 [R4 b0 b1 4 2, C4 r g b a, C4 x y z w] (.tuple ⟨[mixC b0 b1 4 2 r g b a x y z w, .int .i64 0]⟩) :=
  Con.run Try.func80 (by kernel_rfl) rfl <| R.call mixed (c_blend0 (b2 := 4) (b3 := 2) h0 h1 (by omega) (by omega)) (by kernel_rfl) <| R.call mixed (c_fac h0 hc hd) (by kernel_rfl) <| R.call mixed (c_fac h1 hc hd) (by kernel_rfl) <| R.callM mixed [] c_equation4 (by kernel_rfl) (by kernel_rfl) rfl <|
    R.call mixed (c_eq4 g (fac b0 g y a w) y (fac b1 g y a w)) (by kernel_rfl) <|
    R.fin mixed Try.func80 (by kernel_rfl)
theorem c_mix_4_3 {b0 b1 r g b a x y z w : Int} (h0 : 0 ≤ b0 ∧ b0 ≤ 9) (h1 : 0 ≤ b1 ∧ b1 ≤ 9) (hc : rightC r g b a = true) (hd : rightC x y z w = true) : Con Try.prog 80 [R4 b0 b1 4 3, C4 r g b a, C4 x y z w] (.tuple ⟨[mixC b0 b1 4 3 r g b a x y z w, .int .i64 0]⟩) :=
  Con.run Try.func80 (by kernel_rfl) rfl <| R.call mixed (c_blend0 (b2 := 4) (b3 := 3) h0 h1 (by omega) (by omega)) (by kernel_rfl) <| R.call mixed (c_fac h0 hc hd) (by kernel_rfl) <| R.call mixed (c_fac h1 hc hd) (by kernel_rfl) <| R.callM mixed [] c_equation4 (by kernel_rfl) (by kernel_rfl) rfl <|
    R.call mixed (c_eq4 r (fac b0 r x a w) x (fac b1 r x a w)) (by kernel_rfl) <|
    R.call mixed (c_eq4 g (fac b0 g y a w) y (fac b1 g y a w)) (by kernel_rfl) <|
    R.fin mixed Try.func80 (by kernel_rfl)
theorem c_mix_4_4 {b0 b1 r g b a x y z w : Int} (h0 : 0 ≤ b0 ∧ b0 ≤ 9) (h1 : 0 ≤ b1 ∧ b1 ≤ 9) (hc : rightC r g b a = true) (hd : rightC x y z w = true) : Con Try.prog 80 [R4 b0 b1 4 4, C4 r g b a, C4 x y z w] (.tuple ⟨[mixC b0 b1 4 4 r g b a x y z w, .int .i64 0]⟩) :=
  Con.run Try.func80 (by kernel_rfl) rfl <| R.call mixed (c_blend0 (b2 := 4) (b3 := 4) h0 h1 (by omega) (by omega)) (by kernel_rfl) <| R.call mixed (c_fac h0 hc hd) (by kernel_rfl) <| R.call mixed (c_fac h1 hc hd) (by kernel_rfl) <| R.callM mixed [] c_equation4 (by kernel_rfl) (by kernel_rfl) rfl <|
    R.call mixed (c_eq4 b (fac b0 b z a w) z (fac b1 b z a w)) (by kernel_rfl) <|
    R.fin mixed Try.func80 (by kernel_rfl)
theorem c_mix_4_5 {b0 b1 r g b a x y z w : Int} (h0 : 0 ≤ b0 ∧ b0 ≤ 9) (h1 : 0 ≤ b1 ∧ b1 ≤ 9) (hc : rightC r g b a = true) (hd : rightC x y z w = true) : Con Try.prog 80 [R4 b0 b1 4 5, C4 r g b a, C4 x y z w] (.tuple ⟨[mixC b0 b1 4 5 r g b a x y z w, .int .i64 0]⟩) :=
  Con.run Try.func80 (by kernel_rfl) rfl <| R.call mixed (c_blend0 (b2 := 4) (b3 := 5) h0 h1 (by omega) (by omega)) (by kernel_rfl) <| R.call mixed (c_fac h0 hc hd) (by kernel_rfl) <| R.call mixed (c_fac h1 hc hd) (by kernel_rfl) <| R.callM mixed [] c_equation4 (by kernel_rfl) (by kernel_rfl) rfl <|
    R.call mixed (c_eq4 r (fac b0 r x a w) x (fac b1 r x a w)) (by kernel_rfl) <|
    R.call mixed (c_eq4 b (fac b0 b z a w) z (fac b1 b z a w)) (by kernel_rfl) <|
    R.fin mixed Try.func80 (by kernel_rfl)
theorem c_mix_4_6 {b0 b1 r g b a x y z w : Int} (h0 : 0 ≤ b0 ∧ b0 ≤ 9) (h1 : 0 ≤ b1 ∧ b1 ≤ 9) (hc : rightC r g b a = true) (hd : rightC x y z w = true) : Con Try.prog 80 [R4 b0 b1 4 6, C4 r g b a, C4 x y z w] (.tuple ⟨[mixC b0 b1 4 6 r g b a x y z w, .int .i64 0]⟩) :=
  Con.run Try.func80 (by kernel_rfl) rfl <| R.call mixed (c_blend0 (b2 := 4) (b3 := 6) h0 h1 (by omega) (by omega)) (by kernel_rfl) <| R.call mixed (c_fac h0 hc hd) (by kernel_rfl) <| R.call mixed (c_fac h1 hc hd) (by kernel_rfl) <| R.callM mixed [] c_equation4 (by kernel_rfl) (by kernel_rfl) rfl <|
    R.call mixed (c_eq4 g (fac b0 g y a w) y (fac b1 g y a w)) (by kernel_rfl) <|
    R.call mixed (c_eq4 b (fac b0 b z a w) z (fac b1 b z a w)) (by kernel_rfl) <|
    R.fin mixed Try.func80 (by kernel_rfl)
theorem c_mix_4_7 {b0 b1 r g b a x y z w : Int} (h0 : 0 ≤ b0 ∧ b0 ≤ 9) (h1 : 0 ≤ b1 ∧ b1 ≤ 9) (hc : rightC r g b a = true) (hd : rightC x y z w = true) : Con Try.prog 80 [R4 b0 b1 4 7, C4 r g b a, C4 x y z w] (.tuple ⟨[mixC b0 b1 4 7 r g b a x y z w, .int .i64 0]⟩) :=
  Con.run Try.func80 (by kernel_rfl) rfl <| R.call mixed (c_blend0 (b2 := 4) (b3 := 7) h0 h1 (by omega) (by omega)) (by kernel_rfl) <| R.call mixed (c_fac h0 hc hd) (by kernel_rfl) <| R.call mixed (c_fac h1 hc hd) (by kernel_rfl) <| R.callM mixed [] c_equation4 (by kernel_rfl) (by kernel_rfl) rfl <|
    R.call mixed (c_eq4 r (fac b0 r x a w) x (fac b1 r x a w)) (by kernel_rfl) <|
    R.call mixed (c_eq4 g (fac b0 g y a w) y (fac b1 g y a w)) (by kernel_rfl) <|
    R.call mixed (c_eq4 b (fac b0 b z a w) z (fac b1 b z a w)) (by kernel_rfl) <|
    R.fin mixed Try.func80 (by kernel_rfl)
theorem c_mix_4_8 {b0 b1 r g b a x y z w : Int} (h0 : 0 ≤ b0 ∧ b0 ≤ 9) (h1 : 0 ≤ b1 ∧ b1 ≤ 9) (hc : rightC r g b a = true) (hd : rightC x y z w = true) : Con Try.prog 80 [R4 b0 b1 4 8, C4 r g b a, C4 x y z w] (.tuple ⟨[mixC b0 b1 4 8 r g b a x y z w, .int .i64 0]⟩) :=
  Con.run Try.func80 (by kernel_rfl) rfl <| R.call mixed (c_blend0 (b2 := 4) (b3 := 8) h0 h1 (by omega) (by omega)) (by kernel_rfl) <| R.call mixed (c_fac h0 hc hd) (by kernel_rfl) <| R.call mixed (c_fac h1 hc hd) (by kernel_rfl) <| R.callM mixed [] c_equation4 (by kernel_rfl) (by kernel_rfl) rfl <|
    R.call mixed (c_eq4 a (fac b0 a w a w) w (fac b1 a w a w)) (by kernel_rfl) <|
    R.fin mixed Try.func80 (by kernel_rfl)
theorem c_mix_4_9 {b0 b1 r g b a x y z w : Int} (h0 : 0 ≤ b0 ∧ b0 ≤ 9) (h1 : 0 ≤ b1 ∧ b1 ≤ 9) (hc : rightC r g b a = true) (hd : rightC x y z w = true) : Con Try.prog 80 [R4 b0 b1 4 9, C4 r g b a, C4 x y z w] (.tuple ⟨[mixC b0 b1 4 9 r g b a x y z w, .int .i64 0]⟩) :=
  Con.run Try.func80 (by kernel_rfl) rfl <| R.call mixed (c_blend0 (b2 := 4) (b3 := 9) h0 h1 (by omega) (by omega)) (by kernel_rfl) <| R.call mixed (c_fac h0 hc hd) (by kernel_rfl) <| R.call mixed (c_fac h1 hc hd) (by kernel_rfl) <| R.callM mixed [] c_equation4 (by kernel_rfl) (by kernel_rfl) rfl <|
    R.call mixed (c_eq4 r (fac b0 r x a w) x (fac b1 r x a w)) (by kernel_rfl) <|
    R.call mixed (c_eq4 a (fac b0 a w a w) w (fac b1 a w a w)) (by kernel_rfl) <|
    R.fin mixed Try.func80 (by kernel_rfl)
theorem c_mix_4_10 {b0 b1 r g b a x y z w : Int} (h0 : 0 ≤ b0 ∧ b0 ≤ 9) (h1 : 0 ≤ b1 ∧ b1 ≤ 9) (hc : rightC r g b a = true) (hd : rightC x y z w = true) : Con Try.prog 80 [R4 b0 b1 4 10, C4 r g b a, C4 x y z w] (.tuple ⟨[mixC b0 b1 4 10 r g b a x y z w, .int .i64 0]⟩) :=
  Con.run Try.func80 (by kernel_rfl) rfl <| R.call mixed (c_blend0 (b2 := 4) (b3 := 10) h0 h1 (by omega) (by omega)) (by kernel_rfl) <| R.call mixed (c_fac h0 hc hd) (by kernel_rfl) <| R.call mixed (c_fac h1 hc hd) (by kernel_rfl) <| R.callM mixed [] c_equation4 (by kernel_rfl) (by kernel_rfl) rfl <|
    R.call mixed (c_eq4 g (fac b0 g y a w) y (fac b1 g y a w)) (by kernel_rfl) <|
    R.call mixed (c_eq4 a (fac b0 a w a w) w (fac b1 a w a w)) (by kernel_rfl) <|
    R.fin mixed Try.func80 (by kernel_rfl)
theorem c_mix_4_11 {b0 b1 r g b a x y z w : Int} (h0 : 0 ≤ b0 ∧ b0 ≤ 9) (h1 : 0 ≤ b1 ∧ b1 ≤ 9) (hc : rightC r g b a = true) (hd : rightC x y z w = true) : Con Try.prog 80 [R4 b0 b1 4 11, C4 r g b a, C4 x y z w] (.tuple ⟨[mixC b0 b1 4 11 r g b a x y z w, .int .i64 0]⟩) :=
  Con.run Try.func80 (by kernel_rfl) rfl <| R.call mixed (c_blend0 (b2 := 4) (b3 := 11) h0 h1 (by omega) (by omega)) (by kernel_rfl) <| R.call mixed (c_fac h0 hc hd) (by kernel_rfl) <| R.call mixed (c_fac h1 hc hd) (by kernel_rfl) <| R.callM mixed [] c_equation4 (by kernel_rfl) (by kernel_rfl) rfl <|
    R.call mixed (c_eq4 r (fac b0 r x a w) x (fac b1 r x a w)) (by kernel_rfl) <|
    R.call mixed (c_eq4 g (fac b0 g y a w) y (fac b1 g y a w)) (by kernel_rfl) <|
    R.call mixed (c_eq4 a (fac b0 a w a w) w (fac b1 a w a w)) (by kernel_rfl) <|
    R.fin mixed Try.func80 (by kernel_rfl)
theorem c_mix_4_12 {b0 b1 r g b a x y z w : Int} (h0 : 0 ≤ b0 ∧ b0 ≤ 9) (h1 : 0 ≤ b1 ∧ b1 ≤ 9) (hc : rightC r g b a = true) (hd : rightC x y z w = true) : Con Try.prog 80 [R4 b0 b1 4 12, C4 r g b a, C4 x y z w] (.tuple ⟨[mixC b0 b1 4 12 r g b a x y z w, .int .i64 0]⟩) :=
  Con.run Try.func80 (by kernel_rfl) rfl <| R.call mixed (c_blend0 (b2 := 4) (b3 := 12) h0 h1 (by omega) (by omega)) (by kernel_rfl) <| R.call mixed (c_fac h0 hc hd) (by kernel_rfl) <| R.call mixed (c_fac h1 hc hd) (by kernel_rfl) <| R.callM mixed [] c_equation4 (by kernel_rfl) (by kernel_rfl) rfl <|
    R.call mixed (c_eq4 b (fac b0 b z a w) z (fac b1 b z a w)) (by kernel_rfl) <|
    R.call mixed (c_eq4 a (fac b0 a w a w) w (fac b1 a w a w)) (by kernel_rfl) <|
    R.fin mixed Try.func80 (by kernel_rfl)
theorem c_mix_4_13 {b0 b1 r g b a x y z w : Int} (h0 : 0 ≤ b0 ∧ b0 ≤ 9) (h1 : 0 ≤ b1 ∧ b1 ≤ 9) (hc : rightC r g b a = true) (hd : rightC x y z w = true) : Con Try.prog 80 [R4 b0 b1 4 13, C4 r g b a, C4 x y z w] (.tuple ⟨[mixC b0 b1 4 13 r g b a x y z w, .int .i64 0]⟩) :=
  Con.run Try.func80 (by kernel_rfl) rfl <| R.call mixed (c_blend0 (b2 := 4) (b3 := 13) h0 h1 (by omega) (by omega)) (by kernel_rfl) <| R.call mixed (c_fac h0 hc hd) (by kernel_rfl) <| R.call mixed (c_fac h1 hc hd) (by kernel_rfl) <| R.callM mixed [] c_equation4 (by kernel_rfl) (by kernel_rfl) rfl <|
    R.call mixed (c_eq4 r (fac b0 r x a w) x (fac b1 r x a w)) (by kernel_rfl) <|
    R.call mixed (c_eq4 b (fac b0 b z a w) z (fac b1 b z a w)) (by kernel_rfl) <|
    R.call mixed (c_eq4 a (fac b0 a w a w) w (fac b1 a w a w)) (by kernel_rfl) <|
    R.fin mixed Try.func80 (by kernel_rfl)
theorem c_mix_4_14 {b0 b1 r g b a x y z w : Int} (h0 : 0 ≤ b0 ∧ b0 ≤ 9) (h1 : 0 ≤ b1 ∧ b1 ≤ 9) (hc : rightC r g b a = true) (hd : rightC x y z w = true) : Con Try.prog 80 [R4 b0 b1 4 14, C4 r g b a, C4 x y z w] (.tuple ⟨[mixC b0 b1 4 14 r g b a x y z w, .int .i64 0]⟩) :=
  Con.run Try.func80 (by kernel_rfl) rfl <| R.call mixed (c_blend0 (b2 := 4) (b3 := 14) h0 h1 (by omega) (by omega)) (by kernel_rfl) <| R.call mixed (c_fac h0 hc hd) (by kernel_rfl) <| R.call mixed (c_fac h1 hc hd) (by kernel_rfl) <| R.callM mixed [] c_equation4 (by kernel_rfl) (by kernel_rfl) rfl <|
    R.call mixed (c_eq4 g (fac b0 g y a w) y (fac b1 g y a w)) (by kernel_rfl) <|
    R.call mixed (c_eq4 b (fac b0 b z a w) z (fac b1 b z a w)) (by kernel_rfl) <|
    R.call mixed (c_eq4 a (fac b0 a w a w) w (fac b1 a w a w)) (by kernel_rfl) <|
    R.fin mixed Try.func80 (by kernel_rfl)
theorem c_mix_4_15 {b0 b1 r g b a x y z w : Int} (h0 : 0 ≤ b0 ∧ b0 ≤ 9) (h1 : 0 ≤ b1 ∧ b1 ≤ 9) (hc : rightC r g b a = true) (hd : rightC x y z w = true) : Con Try.prog 80 [R4 b0 b1 4 15, C4 r g b a, C4 x y z w] (.tuple ⟨[mixC b0 b1 4 15 r g b a x y z w, .int .i64 0]⟩) :=
  Con.run Try.func80 (by kernel_rfl) rfl <| R.call mixed (c_blend0 (b2 := 4) (b3 := 15) h0 h1 (by omega) (by omega)) (by kernel_rfl) <| R.call mixed (c_fac h0 hc hd) (by kernel_rfl) <| R.call mixed (c_fac h1 hc hd) (by kernel_rfl) <| R.callM mixed [] c_equation4 (by kernel_rfl) (by kernel_rfl) rfl <|
    R.call mixed (c_eq4 r (fac b0 r x a w) x (fac b1 r x a w)) (by kernel_rfl) <|
    R.call mixed (c_eq4 g (fac b0 g y a w) y (fac b1 g y a w)) (by kernel_rfl) <|
    R.call mixed (c_eq4 b (fac b0 b z a w) z (fac b1 b z a w)) (by kernel_rfl) <|
    R.call mixed (c_eq4 a (fac b0 a w a w) w (fac b1 a w a w)) (by kernel_rfl) <|
    R.fin mixed Try.func80 (by kernel_rfl)
theorem c_mix_4 {b0 b1 b3 r g b a x y z w : Int} (h0 : 0 ≤ b0 ∧ b0 ≤ 9) (h1 : 0 ≤ b1 ∧ b1 ≤ 9) (h3 : 0 ≤ b3 ∧ b3 ≤ 15) (hc : rightC r g b a = true) (hd : rightC x y z w = true) : Con Try.prog 80 [R4 b0 b1 4 b3, C4 r g b a, C4 x y z w] (.tuple ⟨[mixC b0 b1 4 b3 r g b a x y z w, .int .i64 0]⟩) := by
  rcases mask16 h3 with rfl | rfl | rfl | rfl | rfl | rfl | rfl | rfl | rfl | rfl | rfl | rfl | rfl | rfl | rfl | rfl
  · exact c_mix_4_0 h0 h1 hc hd
  · exact c_mix_4_1 h0 h1 hc hd
  · exact c_mix_4_2 h0 h1 hc hd
  · exact c_mix_4_3 h0 h1 hc hd
  · exact c_mix_4_4 h0 h1 hc hd
  · exact c_mix_4_5 h0 h1 hc hd
  · exact c_mix_4_6 h0 h1 hc hd
  · exact c_mix_4_7 h0 h1 hc hd
  · exact c_mix_4_8 h0 h1 hc hd
  · exact c_mix_4_9 h0 h1 hc hd
  · exact c_mix_4_10 h0 h1 hc hd
  · exact c_mix_4_11 h0 h1 hc hd
  · exact c_mix_4_12 h0 h1 hc hd
  · exact c_mix_4_13 h0 h1 hc hd
  · exact c_mix_4_14 h0 h1 hc hd
  · exact c_mix_4_15 h0 h1 hc hd

theorem c_mix {b0 b1 b2 b3 r g b a x y z w : Int} (h0 : 0 ≤ b0 ∧ b0 ≤ 9) (h1 : 0 ≤ b1 ∧ b1 ≤ 9) (h2 : 0 ≤ b2 ∧ b2 ≤ 4) (h3 : 0 ≤ b3 ∧ b3 ≤ 15) (hc : rightC r g b a = true) (hd : rightC x y z w = true) : Con Try.prog 80 [R4 b0 b1 b2 b3, C4 r g b a, C4 x y z w] (.tuple ⟨[mixC b0 b1 b2 b3 r g b a x y z w, .int .i64 0]⟩) := by
  have : b2 = 0 ∨ b2 = 1 ∨ b2 = 2 ∨ b2 = 3 ∨ b2 = 4 := by omega
  rcases this with rfl | rfl | rfl | rfl | rfl
  · exact c_mix_0 h0 h1 h3 hc hd
  · exact c_mix_1 h0 h1 h3 hc hd
  · exact c_mix_2 h0 h1 h3 hc hd
  · exact c_mix_3 h0 h1 h3 hc hd
  · exact c_mix_4 h0 h1 h3 hc hd


end Go.Proofs.Ytfkmhhbpomkakaa.Frag
