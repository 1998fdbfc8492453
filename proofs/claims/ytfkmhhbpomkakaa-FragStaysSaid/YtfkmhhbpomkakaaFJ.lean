/- A fragment on a pixel: the two laws' walks. -/
import Derived.Test.YtfkmhhbpomkakaaFI
namespace Go.Proofs.Ytfkmhhbpomkakaa.Frag
open Go Go.Dt Go.Proofs
set_option linter.unusedVariables false
set_option linter.unusedSimpArgs false

theorem puts_ (pr pg pb pa pz ps fr fg fb fa fz : Int) (m0 m1 m2 m3 m4 m5 m6 m7 m8 m9 m10 m11 m12 m13 m14 m15 v0 v1 v2 v3 t0 t1 t2 t3 df : Int) (dp : Bool) (s0 s1 s2 s3 s4 s5 s6 b0 b1 b2 b3 cu tx wr : Int) (so : Bool) : FnEq Try.prog 10 [P6 pr pg pb pa pz ps, F5 fr fg fb fa fz, ST m0 m1 m2 m3 m4 m5 m6 m7 m8 m9 m10 m11 m12 m13 m14 m15 v0 v1 v2 v3 t0 t1 t2 t3 df dp s0 s1 s2 s3 s4 s5 s6 b0 b1 b2 b3 cu tx wr so] [] (.bool true) [] := by
  refine FnEq.run Try.func10 rfl rfl ?_
  rcases Decidable.em ((stE m0 m1 m2 m3 m4 m5 m6 m7 m8 m9 m10 m11 m12 m13 m14 m15 v0 v1 v2 v3 t0 t1 t2 t3 df s0 s1 s2 s3 s4 s5 s6 b0 b1 b2 b3 cu tx wr) = 0) with he | he
  · have hc : Con Try.prog 73 [ST m0 m1 m2 m3 m4 m5 m6 m7 m8 m9 m10 m11 m12 m13 m14 m15 v0 v1 v2 v3 t0 t1 t2 t3 df dp s0 s1 s2 s3 s4 s5 s6 b0 b1 b2 b3 cu tx wr so] (.int .i64 0) := c_check.val rfl (congrArg (Value.int IntKind.i64) he)
    have hr : Con Try.prog 39 [ST m0 m1 m2 m3 m4 m5 m6 m7 m8 m9 m10 m11 m12 m13 m14 m15 v0 v1 v2 v3 t0 t1 t2 t3 df dp s0 s1 s2 s3 s4 s5 s6 b0 b1 b2 b3 cu tx wr so] (.int .i64 0) := c_rcheck.val rfl (congrArg (Value.int IntKind.i64) he)
    cases hp : okPx pr pg pb pa pz ps with
    | false => exact putsB1 (fun x y => c_putNo hc (.inl hp)) hr hp
    | true =>
      cases hf : may5 fr fg fb fa fz with
      | false => exact putsB2 (fun x y => c_putNo hc (.inr hf)) hr hp hf
      | true =>
        obtain ⟨hd, hs, k0, k1, k2, k3⟩ := stE_zero he
        obtain ⟨_, hs1, _, hs3, _, _, _⟩ := stenE_zero hs
        obtain ⟨⟨p0, p1, p2, p3⟩, p4, p5⟩ := okPx_iff.1 hp
        obtain ⟨⟨f0, f1, f2, f3⟩, f4⟩ := may5_iff.1 hf
        exact putsC (fun x y => (qC (inR t0 t1 t2 t3 x y) (rpass s0 (andA s1 s2) (andA ps s2)) (rpass df fz pz) (b3 % 2 == 1) (chan b0 b1 b2 fr pr fa pa) pr)) (fun x y => (qC (inR t0 t1 t2 t3 x y) (rpass s0 (andA s1 s2) (andA ps s2)) (rpass df fz pz) (b3 / 2 % 2 == 1) (chan b0 b1 b2 fg pg fa pa) pg)) (fun x y => (qC (inR t0 t1 t2 t3 x y) (rpass s0 (andA s1 s2) (andA ps s2)) (rpass df fz pz) (b3 / 4 % 2 == 1) (chan b0 b1 b2 fb pb fa pa) pb)) (fun x y => (qC (inR t0 t1 t2 t3 x y) (rpass s0 (andA s1 s2) (andA ps s2)) (rpass df fz pz) (b3 / 8 % 2 == 1) (chan b0 b1 b2 fa pa fa pa) pa)) (fun x y => (qZ (inR t0 t1 t2 t3 x y) (rpass s0 (andA s1 s2) (andA ps s2)) (rpass df fz pz) dp fz pz)) (fun x y => (qS (inR t0 t1 t2 t3 x y) (rpass s0 (andA s1 s2) (andA ps s2)) (rpass df fz pz) (putS s4 s1 s3 ps) (putS s5 s1 s3 ps) (putS s6 s1 s3 ps) ps))
          (fun x y => c_put he hs hd k0 k1 k2 k3 hp hf) hr (okR hp) (okRR hp) (mayR hf) (fun x y => c_rput hs hd k0 k1 k2 k3 hp hf)
          (fun x y => okRR (okPx_iff.2 ⟨⟨qC_in (chan_in f0 p0) p0, qC_in (chan_in f1 p1) p1, qC_in (chan_in f2 p2) p2, qC_in (chan_in f3 p3) p3⟩, qZ_in f4 p4, qS_in (putS_in p5 hs1 hs3) (putS_in p5 hs1 hs3) (putS_in p5 hs1 hs3) p5⟩))
  · exact putsE (fun x y => c_putE c_check he) c_rcheck he

theorem qC_no {ir so bit : Bool} {n o : Int} : qC ir so false bit n o = o := by unfold qC; cases ir <;> cases so <;> rfl
theorem qZ_no {ir so bit : Bool} {n o : Int} : qZ ir so false bit n o = o := by unfold qZ; cases ir <;> cases so <;> rfl
theorem qC_out {so dk bit : Bool} {n o : Int} : qC false so dk bit n o = o := by unfold qC; rfl
theorem qZ_out {so dk bit : Bool} {n o : Int} : qZ false so dk bit n o = o := by unfold qZ; rfl
theorem qS_out {so dk : Bool} {a b d o : Int} : qS false so dk a b d o = o := by unfold qS; rfl
theorem qC_bit {ir so dk : Bool} {n o : Int} : qC ir so dk false n o = o := by unfold qC; cases ir <;> cases so <;> cases dk <;> rfl
theorem qZ_bit {ir so dk : Bool} {n o : Int} : qZ ir so dk false n o = o := by unfold qZ; cases ir <;> cases so <;> cases dk <;> rfl
theorem qS_same {ir so dk : Bool} {o : Int} : qS ir so dk o o o o = o := by unfold qS; cases ir <;> cases so <;> cases dk <;> rfl
theorem rpass0 {a b : Int} : rpass 0 a b = false := by unfold rpass; simp
theorem inR0 {x y : Int} : inR 0 0 0 0 x y = false := by
  unfold inR
  rcases Decidable.em (0 ≤ x) with h | h
  · rw [decide_eq_false (show ¬ x < 0 by omega)]; simp
  · rw [decide_eq_false h]; rfl
theorem tup {a b c d e f a' b' c' d' e' f' : Int} (h0 : a = a') (h1 : b = b') (h2 : c = c') (h3 : d = d') (h4 : e = e') (h5 : f = f') : (Value.tuple ⟨[P6 a b c d e f, .int .i64 0]⟩) = .tuple ⟨[P6 a' b' c' d' e' f', .int .i64 0]⟩ := by
  subst h0 h1 h2 h3 h4 h5; rfl

theorem stays_ (pr pg pb pa pz ps fr fg fb fa fz : Int) (m0 m1 m2 m3 m4 m5 m6 m7 m8 m9 m10 m11 m12 m13 m14 m15 v0 v1 v2 v3 t0 t1 t2 t3 df : Int) (dp : Bool) (s0 s1 s2 s3 s4 s5 s6 b0 b1 b2 b3 cu tx wr : Int) (so : Bool) : FnEq Try.prog 11 [P6 pr pg pb pa pz ps, F5 fr fg fb fa fz, ST m0 m1 m2 m3 m4 m5 m6 m7 m8 m9 m10 m11 m12 m13 m14 m15 v0 v1 v2 v3 t0 t1 t2 t3 df dp s0 s1 s2 s3 s4 s5 s6 b0 b1 b2 b3 cu tx wr so] [] (.bool true) [] := by
  refine FnEq.run Try.func11 rfl rfl ?_
  rcases Decidable.em ((stE m0 m1 m2 m3 m4 m5 m6 m7 m8 m9 m10 m11 m12 m13 m14 m15 v0 v1 v2 v3 t0 t1 t2 t3 df s0 s1 s2 s3 s4 s5 s6 b0 b1 b2 b3 cu tx wr) = 0) with he | he
  · have hr : Con Try.prog 39 [ST m0 m1 m2 m3 m4 m5 m6 m7 m8 m9 m10 m11 m12 m13 m14 m15 v0 v1 v2 v3 t0 t1 t2 t3 df dp s0 s1 s2 s3 s4 s5 s6 b0 b1 b2 b3 cu tx wr so] (.int .i64 0) := c_rcheck.val rfl (congrArg (Value.int IntKind.i64) he)
    cases hp : okPx pr pg pb pa pz ps with
    | false => exact staysP hr hp
    | true =>
      cases hf : may5 fr fg fb fa fz with
      | false => exact staysF hr hp hf
      | true =>
        obtain ⟨hd, hs, k0, k1, k2, k3⟩ := stE_zero he
        obtain ⟨_, hs1, _, hs3, _, _, _⟩ := stenE_zero hs
        obtain ⟨⟨p0, p1, p2, p3⟩, p4, p5⟩ := okPx_iff.1 hp
        exact staysT hr hp hf
          ((c_put (x := 0) (y := 0) (dp := dp) (so := so) (stE_never he) hs (show is7 0 = true by decide) k0 k1 k2 k3 hp hf).val rfl (tup (by rw [rpass0]; exact qC_no) (by rw [rpass0]; exact qC_no) (by rw [rpass0]; exact qC_no) (by rw [rpass0]; exact qC_no) (by rw [rpass0]; exact qZ_no) rfl))
          ((c_put (x := 0) (y := 0) (dp := dp) (so := so) (stE_none he) hs hd k0 k1 k2 k3 hp hf).val rfl (tup (by rw [inR0]; exact qC_out) (by rw [inR0]; exact qC_out) (by rw [inR0]; exact qC_out) (by rw [inR0]; exact qC_out) (by rw [inR0]; exact qZ_out) (by rw [inR0]; exact qS_out)))
          ((c_put (x := 0) (y := 0) (dp := false) (so := so) (stE_blind he) (sten_w hs) hd k0 k1 k2 (show (0 : Int) ≤ 0 ∧ (0 : Int) ≤ 15 by decide) hp hf).val rfl (tup qC_bit qC_bit qC_bit qC_bit qZ_bit (by rw [putS_zero p5 hs1, putS_zero p5 hs1, putS_zero p5 hs1]; exact qS_same)))
  · exact staysE c_rcheck he

end Go.Proofs.Ytfkmhhbpomkakaa.Frag
