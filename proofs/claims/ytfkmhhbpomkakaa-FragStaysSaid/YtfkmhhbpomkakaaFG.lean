/- A fragment on a pixel. -/
import Derived.Test.YtfkmhhbpomkakaaFF
namespace Go.Proofs.Ytfkmhhbpomkakaa.Frag
open Go Go.Dt Go.Proofs
set_option linter.unusedVariables false
set_option linter.unusedSimpArgs false

abbrev F5 (r g b a z : Int) : Value := .agg ⟨[.int .i64 r, .int .i64 g, .int .i64 b, .int .i64 a, .int .i64 z]⟩
def may5 (r g b a z : Int) : Bool := rightC r g b a && is16 z
def qC (ir so dk bit : Bool) (n o : Int) : Int := bif ir && (so && (dk && bit)) then n else o
def qZ (ir so dk dp : Bool) (n o : Int) : Int := bif ir && (so && (dk && dp)) then n else o
def qS (ir so dk : Bool) (a b d o : Int) : Int := bif ir then (bif so then (bif dk then d else b) else a) else o

theorem c_rmay5 {r g b a z : Int}  : Con Try.prog 43 [F5 r g b a z] (.bool (may5 r g b a z)) := by
  exact Con.run Try.func43 (by kernel_rfl) rfl <|
    R.call mixed (show Con Try.prog 87 [Value.agg ⟨[Value.int IntKind.i64 r, Value.int IntKind.i64 g, Value.int IntKind.i64 b, Value.int IntKind.i64 a]⟩] (Value.bool (rightC r g b a)) from c_rightC _ _ _ _) (by kernel_rfl) <|
    R.guard mixed 1 (rightC r g b a) (by kernel_rfl)
     (fun h0 =>
       R.call mixed (show Con Try.prog 88 [Value.int IntKind.i64 z] (Value.bool (is16 z)) from c_deep _) (by kernel_rfl) <|
       R.finIs mixed Try.func43 (Value.bool (bif true then is16 z else false)) (by kernel_rfl) (by simp_all [may5])
     )
     (fun h0 =>
       R.finIs mixed Try.func43 (Value.bool false) (by kernel_rfl) (by simp_all [may5])
     )

theorem c_rput {pr pg pb pa pz ps fr fg fb fa fz : Int} {m0 m1 m2 m3 m4 m5 m6 m7 m8 m9 m10 m11 m12 m13 m14 m15 v0 v1 v2 v3 t0 t1 t2 t3 df : Int} {dp : Bool} {s0 s1 s2 s3 s4 s5 s6 b0 b1 b2 b3 cu tx wr : Int} {so : Bool} {x y : Int} (hs : stenE s0 s1 s2 s3 s4 s5 s6 = 0) (hd : is7 df = true) (k0 : 0 ≤ b0 ∧ b0 ≤ 9) (k1 : 0 ≤ b1 ∧ b1 ≤ 9) (k2 : 0 ≤ b2 ∧ b2 ≤ 4) (k3 : 0 ≤ b3 ∧ b3 ≤ 15) (hp : okPx pr pg pb pa pz ps = true) (hf : may5 fr fg fb fa fz = true) : Con Try.prog 44 [P6 pr pg pb pa pz ps, F5 fr fg fb fa fz, ST m0 m1 m2 m3 m4 m5 m6 m7 m8 m9 m10 m11 m12 m13 m14 m15 v0 v1 v2 v3 t0 t1 t2 t3 df dp s0 s1 s2 s3 s4 s5 s6 b0 b1 b2 b3 cu tx wr so, .int .i64 x, .int .i64 y] (P6 (qC (inR t0 t1 t2 t3 x y) (rpass s0 (andA s1 s2) (andA ps s2)) (rpass df fz pz) (b3 % 2 == 1) (chan b0 b1 b2 fr pr fa pa) pr) (qC (inR t0 t1 t2 t3 x y) (rpass s0 (andA s1 s2) (andA ps s2)) (rpass df fz pz) (b3 / 2 % 2 == 1) (chan b0 b1 b2 fg pg fa pa) pg) (qC (inR t0 t1 t2 t3 x y) (rpass s0 (andA s1 s2) (andA ps s2)) (rpass df fz pz) (b3 / 4 % 2 == 1) (chan b0 b1 b2 fb pb fa pa) pb) (qC (inR t0 t1 t2 t3 x y) (rpass s0 (andA s1 s2) (andA ps s2)) (rpass df fz pz) (b3 / 8 % 2 == 1) (chan b0 b1 b2 fa pa fa pa) pa) (qZ (inR t0 t1 t2 t3 x y) (rpass s0 (andA s1 s2) (andA ps s2)) (rpass df fz pz) dp fz pz) (qS (inR t0 t1 t2 t3 x y) (rpass s0 (andA s1 s2) (andA ps s2)) (rpass df fz pz) (putS s4 s1 s3 ps) (putS s5 s1 s3 ps) (putS s6 s1 s3 ps) ps)) := by
  have hf' := hf
  have hp' := hp
  simp only [may5, okPx, Bool.and_eq_true] at hf' hp'
  obtain ⟨f1, f2⟩ := hf'
  obtain ⟨p1, p2, p3⟩ := hp'
  exact Con.run Try.func44 (by kernel_rfl) rfl <|
    R.call mixed (show Con Try.prog 35 [Value.agg ⟨[Value.int IntKind.i64 t0, Value.int IntKind.i64 t1, Value.int IntKind.i64 t2, Value.int IntKind.i64 t3]⟩, Value.int IntKind.i64 x, Value.int IntKind.i64 y] (Value.bool (inR t0 t1 t2 t3 x y)) from c_rhas4) (by kernel_rfl) <|
    R.branch mixed 2 (!inR t0 t1 t2 t3 x y) (by kernel_rfl)
     (fun h0 =>
       R.finIs mixed Try.func44 (Value.agg ⟨[Value.int IntKind.i64 pr, Value.int IntKind.i64 pg, Value.int IntKind.i64 pb, Value.int IntKind.i64 pa, Value.int IntKind.i64 pz, Value.int IntKind.i64 ps]⟩) (by kernel_rfl) (by simp_all [qC, qZ, qS])
     )
     (fun h0 =>
       R.call mixed (show Con Try.prog 90 [Value.agg ⟨[Value.int IntKind.i64 s0, Value.int IntKind.i64 s1, Value.int IntKind.i64 s2, Value.int IntKind.i64 s3, Value.int IntKind.i64 s4, Value.int IntKind.i64 s5, Value.int IntKind.i64 s6]⟩, Value.int IntKind.i64 ps] (Value.bool (rpass s0 (andA s1 s2) (andA ps s2))) from c_rstest) (by kernel_rfl) <|
       R.branch mixed 2 (!rpass s0 (andA s1 s2) (andA ps s2)) (by kernel_rfl)
        (fun h1 =>
          R.call mixed (show Con Try.prog 91 [Value.agg ⟨[Value.int IntKind.i64 s0, Value.int IntKind.i64 s1, Value.int IntKind.i64 s2, Value.int IntKind.i64 s3, Value.int IntKind.i64 s4, Value.int IntKind.i64 s5, Value.int IntKind.i64 s6]⟩, Value.int IntKind.i64 0, Value.int IntKind.i64 ps] (Value.int IntKind.i64 (putS s4 s1 s3 ps)) from (by first | exact c_rsput0 p3 | exact c_rsput1 p3 | exact c_rsput2 p3)) (by kernel_rfl) <|
          R.finIs mixed Try.func44 (Value.agg ⟨[Value.int IntKind.i64 pr, Value.int IntKind.i64 pg, Value.int IntKind.i64 pb, Value.int IntKind.i64 pa, Value.int IntKind.i64 pz, Value.int IntKind.i64 (putS s4 s1 s3 ps)]⟩) (by kernel_rfl) (by simp_all [qC, qZ, qS])
        )
        (fun h1 =>
          R.call mixed (show Con Try.prog 92 [Value.int IntKind.i64 df, Value.int IntKind.i64 fz, Value.int IntKind.i64 pz] (Value.bool (rpass df fz pz)) from c_rpass) (by kernel_rfl) <|
          R.branch mixed 2 (!rpass df fz pz) (by kernel_rfl)
           (fun h2 =>
             R.call mixed (show Con Try.prog 91 [Value.agg ⟨[Value.int IntKind.i64 s0, Value.int IntKind.i64 s1, Value.int IntKind.i64 s2, Value.int IntKind.i64 s3, Value.int IntKind.i64 s4, Value.int IntKind.i64 s5, Value.int IntKind.i64 s6]⟩, Value.int IntKind.i64 1, Value.int IntKind.i64 ps] (Value.int IntKind.i64 (putS s5 s1 s3 ps)) from (by first | exact c_rsput0 p3 | exact c_rsput1 p3 | exact c_rsput2 p3)) (by kernel_rfl) <|
             R.finIs mixed Try.func44 (Value.agg ⟨[Value.int IntKind.i64 pr, Value.int IntKind.i64 pg, Value.int IntKind.i64 pb, Value.int IntKind.i64 pa, Value.int IntKind.i64 pz, Value.int IntKind.i64 (putS s5 s1 s3 ps)]⟩) (by kernel_rfl) (by simp_all [qC, qZ, qS])
           )
           (fun h2 =>
             R.branch mixed 13 (dp) (by kernel_rfl)
              (fun h3 =>
                R.call mixed (show Con Try.prog 93 [Value.agg ⟨[Value.int IntKind.i64 b0, Value.int IntKind.i64 b1, Value.int IntKind.i64 b2, Value.int IntKind.i64 b3]⟩, Value.agg ⟨[Value.int IntKind.i64 fr, Value.int IntKind.i64 fg, Value.int IntKind.i64 fb, Value.int IntKind.i64 fa]⟩, Value.agg ⟨[Value.int IntKind.i64 pr, Value.int IntKind.i64 pg, Value.int IntKind.i64 pb, Value.int IntKind.i64 pa]⟩] (Value.agg ⟨[Value.int IntKind.i64 (bif b3 % 2 == 1 then chan b0 b1 b2 fr pr fa pa else pr), Value.int IntKind.i64 (bif b3 / 2 % 2 == 1 then chan b0 b1 b2 fg pg fa pa else pg), Value.int IntKind.i64 (bif b3 / 4 % 2 == 1 then chan b0 b1 b2 fb pb fa pa else pb), Value.int IntKind.i64 (bif b3 / 8 % 2 == 1 then chan b0 b1 b2 fa pa fa pa else pa)]⟩) from (c_rmix k0 k1 k3 f1 p1)) (by kernel_rfl) <|
                R.call mixed (show Con Try.prog 91 [Value.agg ⟨[Value.int IntKind.i64 s0, Value.int IntKind.i64 s1, Value.int IntKind.i64 s2, Value.int IntKind.i64 s3, Value.int IntKind.i64 s4, Value.int IntKind.i64 s5, Value.int IntKind.i64 s6]⟩, Value.int IntKind.i64 2, Value.int IntKind.i64 ps] (Value.int IntKind.i64 (putS s6 s1 s3 ps)) from (by first | exact c_rsput0 p3 | exact c_rsput1 p3 | exact c_rsput2 p3)) (by kernel_rfl) <|
                R.finIs mixed Try.func44 (Value.agg ⟨[Value.int IntKind.i64 (bif b3 % 2 == 1 then chan b0 b1 b2 fr pr fa pa else pr), Value.int IntKind.i64 (bif b3 / 2 % 2 == 1 then chan b0 b1 b2 fg pg fa pa else pg), Value.int IntKind.i64 (bif b3 / 4 % 2 == 1 then chan b0 b1 b2 fb pb fa pa else pb), Value.int IntKind.i64 (bif b3 / 8 % 2 == 1 then chan b0 b1 b2 fa pa fa pa else pa), Value.int IntKind.i64 fz, Value.int IntKind.i64 (putS s6 s1 s3 ps)]⟩) (by kernel_rfl) (by simp_all [qC, qZ, qS])
              )
              (fun h3 =>
                R.call mixed (show Con Try.prog 93 [Value.agg ⟨[Value.int IntKind.i64 b0, Value.int IntKind.i64 b1, Value.int IntKind.i64 b2, Value.int IntKind.i64 b3]⟩, Value.agg ⟨[Value.int IntKind.i64 fr, Value.int IntKind.i64 fg, Value.int IntKind.i64 fb, Value.int IntKind.i64 fa]⟩, Value.agg ⟨[Value.int IntKind.i64 pr, Value.int IntKind.i64 pg, Value.int IntKind.i64 pb, Value.int IntKind.i64 pa]⟩] (Value.agg ⟨[Value.int IntKind.i64 (bif b3 % 2 == 1 then chan b0 b1 b2 fr pr fa pa else pr), Value.int IntKind.i64 (bif b3 / 2 % 2 == 1 then chan b0 b1 b2 fg pg fa pa else pg), Value.int IntKind.i64 (bif b3 / 4 % 2 == 1 then chan b0 b1 b2 fb pb fa pa else pb), Value.int IntKind.i64 (bif b3 / 8 % 2 == 1 then chan b0 b1 b2 fa pa fa pa else pa)]⟩) from (c_rmix k0 k1 k3 f1 p1)) (by kernel_rfl) <|
                R.call mixed (show Con Try.prog 91 [Value.agg ⟨[Value.int IntKind.i64 s0, Value.int IntKind.i64 s1, Value.int IntKind.i64 s2, Value.int IntKind.i64 s3, Value.int IntKind.i64 s4, Value.int IntKind.i64 s5, Value.int IntKind.i64 s6]⟩, Value.int IntKind.i64 2, Value.int IntKind.i64 ps] (Value.int IntKind.i64 (putS s6 s1 s3 ps)) from (by first | exact c_rsput0 p3 | exact c_rsput1 p3 | exact c_rsput2 p3)) (by kernel_rfl) <|
                R.finIs mixed Try.func44 (Value.agg ⟨[Value.int IntKind.i64 (bif b3 % 2 == 1 then chan b0 b1 b2 fr pr fa pa else pr), Value.int IntKind.i64 (bif b3 / 2 % 2 == 1 then chan b0 b1 b2 fg pg fa pa else pg), Value.int IntKind.i64 (bif b3 / 4 % 2 == 1 then chan b0 b1 b2 fb pb fa pa else pb), Value.int IntKind.i64 (bif b3 / 8 % 2 == 1 then chan b0 b1 b2 fa pa fa pa else pa), Value.int IntKind.i64 pz, Value.int IntKind.i64 (putS s6 s1 s3 ps)]⟩) (by kernel_rfl) (by simp_all [qC, qZ, qS])
              )
           )
        )
     )

theorem c_put {pr pg pb pa pz ps fr fg fb fa fz : Int} {m0 m1 m2 m3 m4 m5 m6 m7 m8 m9 m10 m11 m12 m13 m14 m15 v0 v1 v2 v3 t0 t1 t2 t3 df : Int} {dp : Bool} {s0 s1 s2 s3 s4 s5 s6 b0 b1 b2 b3 cu tx wr : Int} {so : Bool} {x y : Int} (he : (stE m0 m1 m2 m3 m4 m5 m6 m7 m8 m9 m10 m11 m12 m13 m14 m15 v0 v1 v2 v3 t0 t1 t2 t3 df s0 s1 s2 s3 s4 s5 s6 b0 b1 b2 b3 cu tx wr) = 0) (hs : stenE s0 s1 s2 s3 s4 s5 s6 = 0) (hd : is7 df = true) (k0 : 0 ≤ b0 ∧ b0 ≤ 9) (k1 : 0 ≤ b1 ∧ b1 ≤ 9) (k2 : 0 ≤ b2 ∧ b2 ≤ 4) (k3 : 0 ≤ b3 ∧ b3 ≤ 15) (hp : okPx pr pg pb pa pz ps = true) (hf : may5 fr fg fb fa fz = true) : Con Try.prog 38 [P6 pr pg pb pa pz ps, F5 fr fg fb fa fz, ST m0 m1 m2 m3 m4 m5 m6 m7 m8 m9 m10 m11 m12 m13 m14 m15 v0 v1 v2 v3 t0 t1 t2 t3 df dp s0 s1 s2 s3 s4 s5 s6 b0 b1 b2 b3 cu tx wr so, .int .i64 x, .int .i64 y] (.tuple ⟨[P6 (qC (inR t0 t1 t2 t3 x y) (rpass s0 (andA s1 s2) (andA ps s2)) (rpass df fz pz) (b3 % 2 == 1) (chan b0 b1 b2 fr pr fa pa) pr) (qC (inR t0 t1 t2 t3 x y) (rpass s0 (andA s1 s2) (andA ps s2)) (rpass df fz pz) (b3 / 2 % 2 == 1) (chan b0 b1 b2 fg pg fa pa) pg) (qC (inR t0 t1 t2 t3 x y) (rpass s0 (andA s1 s2) (andA ps s2)) (rpass df fz pz) (b3 / 4 % 2 == 1) (chan b0 b1 b2 fb pb fa pa) pb) (qC (inR t0 t1 t2 t3 x y) (rpass s0 (andA s1 s2) (andA ps s2)) (rpass df fz pz) (b3 / 8 % 2 == 1) (chan b0 b1 b2 fa pa fa pa) pa) (qZ (inR t0 t1 t2 t3 x y) (rpass s0 (andA s1 s2) (andA ps s2)) (rpass df fz pz) dp fz pz) (qS (inR t0 t1 t2 t3 x y) (rpass s0 (andA s1 s2) (andA ps s2)) (rpass df fz pz) (putS s4 s1 s3 ps) (putS s5 s1 s3 ps) (putS s6 s1 s3 ps) ps), .int .i64 0]⟩) := by
  have hf' := hf
  have hp' := hp
  simp only [may5, okPx, Bool.and_eq_true] at hf' hp'
  obtain ⟨f1, f2⟩ := hf'
  obtain ⟨p1, p2, p3⟩ := hp'
  exact Con.run Try.func38 (by kernel_rfl) rfl <|
    R.call mixed (show Con Try.prog 73 [Value.agg ⟨[Value.int IntKind.i64 m0, Value.int IntKind.i64 m1, Value.int IntKind.i64 m2, Value.int IntKind.i64 m3, Value.int IntKind.i64 m4, Value.int IntKind.i64 m5, Value.int IntKind.i64 m6, Value.int IntKind.i64 m7, Value.int IntKind.i64 m8, Value.int IntKind.i64 m9, Value.int IntKind.i64 m10, Value.int IntKind.i64 m11, Value.int IntKind.i64 m12, Value.int IntKind.i64 m13, Value.int IntKind.i64 m14, Value.int IntKind.i64 m15, Value.int IntKind.i64 v0, Value.int IntKind.i64 v1, Value.int IntKind.i64 v2, Value.int IntKind.i64 v3, Value.int IntKind.i64 t0, Value.int IntKind.i64 t1, Value.int IntKind.i64 t2, Value.int IntKind.i64 t3, Value.int IntKind.i64 df, Value.bool dp, Value.int IntKind.i64 s0, Value.int IntKind.i64 s1, Value.int IntKind.i64 s2, Value.int IntKind.i64 s3, Value.int IntKind.i64 s4, Value.int IntKind.i64 s5, Value.int IntKind.i64 s6, Value.int IntKind.i64 b0, Value.int IntKind.i64 b1, Value.int IntKind.i64 b2, Value.int IntKind.i64 b3, Value.int IntKind.i64 cu, Value.int IntKind.i64 tx, Value.int IntKind.i64 wr, Value.bool so]⟩] (Value.int IntKind.i64 0) from (c_check.val rfl (by rw [he]))) (by kernel_rfl) <|
    R.call mixed (show Con Try.prog 41 [Value.agg ⟨[Value.int IntKind.i64 pr, Value.int IntKind.i64 pg, Value.int IntKind.i64 pb, Value.int IntKind.i64 pa, Value.int IntKind.i64 pz, Value.int IntKind.i64 ps]⟩] (Value.bool (okPx pr pg pb pa pz ps)) from c_right _ _ _ _ _ _) (by kernel_rfl) <|
    R.guard mixed 2 (!okPx pr pg pb pa pz ps) (by kernel_rfl)
     (fun h0 =>
       R.finIs mixed Try.func38 (Value.tuple ⟨[Value.agg (List.take 6 (List.drop 0 [Value.int IntKind.i64 0, Value.int IntKind.i64 0, Value.int IntKind.i64 0, Value.int IntKind.i64 0, Value.int IntKind.i64 0, Value.int IntKind.i64 0])).toArray, Value.int IntKind.i64 3]⟩) (by kernel_rfl) (by simp_all [qC, qZ, qS])
     )
     (fun h0 =>
       R.call mixed (show Con Try.prog 74 [Value.agg ⟨[Value.int IntKind.i64 fr, Value.int IntKind.i64 fg, Value.int IntKind.i64 fb, Value.int IntKind.i64 fa]⟩] (Value.bool (rightC fr fg fb fa)) from c_tint _ _ _ _) (by kernel_rfl) <|
       R.guard mixed 3 (bif false then true else !rightC fr fg fb fa) (by kernel_rfl)
        (fun h1 =>
          R.finIs mixed Try.func38 (Value.tuple ⟨[Value.agg (List.take 6 (List.drop 0 [Value.int IntKind.i64 0, Value.int IntKind.i64 0, Value.int IntKind.i64 0, Value.int IntKind.i64 0, Value.int IntKind.i64 0, Value.int IntKind.i64 0])).toArray, Value.int IntKind.i64 3]⟩) (by kernel_rfl) (by simp_all [qC, qZ, qS])
        )
        (fun h1 =>
          R.call mixed (show Con Try.prog 75 [Value.int IntKind.i64 fz] (Value.bool (is16 fz)) from c_deepf _) (by kernel_rfl) <|
          R.branch mixed 4 (bif false then true else !is16 fz) (by kernel_rfl)
           (fun h2 =>
             R.finIs mixed Try.func38 (Value.tuple ⟨[Value.agg (List.take 6 (List.drop 0 [Value.int IntKind.i64 0, Value.int IntKind.i64 0, Value.int IntKind.i64 0, Value.int IntKind.i64 0, Value.int IntKind.i64 0, Value.int IntKind.i64 0])).toArray, Value.int IntKind.i64 3]⟩) (by kernel_rfl) (by simp_all [qC, qZ, qS])
           )
           (fun h2 =>
             R.call mixed (show Con Try.prog 76 [Value.agg ⟨[Value.int IntKind.i64 t0, Value.int IntKind.i64 t1, Value.int IntKind.i64 t2, Value.int IntKind.i64 t3]⟩, Value.int IntKind.i64 x, Value.int IntKind.i64 y] (Value.bool (inR t0 t1 t2 t3 x y)) from c_has) (by kernel_rfl) <|
             R.branch mixed 3 (!inR t0 t1 t2 t3 x y) (by kernel_rfl)
              (fun h3 =>
                R.finIs mixed Try.func38 (Value.tuple ⟨[Value.agg (List.take 6 (List.drop 0 [Value.int IntKind.i64 pr, Value.int IntKind.i64 pg, Value.int IntKind.i64 pb, Value.int IntKind.i64 pa, Value.int IntKind.i64 pz, Value.int IntKind.i64 ps])).toArray, Value.int IntKind.i64 0]⟩) (by kernel_rfl) (by simp_all [qC, qZ, qS])
              )
              (fun h3 =>
                R.call mixed (show Con Try.prog 77 [Value.agg ⟨[Value.int IntKind.i64 s0, Value.int IntKind.i64 s1, Value.int IntKind.i64 s2, Value.int IntKind.i64 s3, Value.int IntKind.i64 s4, Value.int IntKind.i64 s5, Value.int IntKind.i64 s6]⟩, Value.int IntKind.i64 ps] (Value.tuple ⟨[Value.bool (rpass s0 (andA s1 s2) (andA ps s2)), Value.int IntKind.i64 0]⟩) from (c_stest hs p3)) (by kernel_rfl) <|
                R.branch mixed 10 (rpass s0 (andA s1 s2) (andA ps s2)) (by kernel_rfl)
                 (fun h4 =>
                   R.call mixed (show Con Try.prog 78 [Value.int IntKind.i64 df, Value.bool dp, Value.int IntKind.i64 fz, Value.int IntKind.i64 pz] (Value.tuple ⟨[Value.bool (rpass df fz pz), Value.int IntKind.i64 (bif rpass df fz pz && dp then fz else pz), Value.int IntKind.i64 0]⟩) from (c_dtest hd)) (by kernel_rfl) <|
                   R.branch mixed 12 (rpass df fz pz) (by kernel_rfl)
                    (fun h5 =>
                      R.call mixed (show Con Try.prog 79 [Value.agg ⟨[Value.int IntKind.i64 s0, Value.int IntKind.i64 s1, Value.int IntKind.i64 s2, Value.int IntKind.i64 s3, Value.int IntKind.i64 s4, Value.int IntKind.i64 s5, Value.int IntKind.i64 s6]⟩, Value.int IntKind.i64 2, Value.int IntKind.i64 ps] (Value.tuple ⟨[Value.int IntKind.i64 (putS s6 s1 s3 ps), Value.int IntKind.i64 0]⟩) from (by first | exact c_sput0 hs p3 | exact c_sput1 hs p3 | exact c_sput2 hs p3)) (by kernel_rfl) <|
                      R.call mixed (show Con Try.prog 80 [Value.agg ⟨[Value.int IntKind.i64 b0, Value.int IntKind.i64 b1, Value.int IntKind.i64 b2, Value.int IntKind.i64 b3]⟩, Value.agg ⟨[Value.int IntKind.i64 fr, Value.int IntKind.i64 fg, Value.int IntKind.i64 fb, Value.int IntKind.i64 fa]⟩, Value.agg ⟨[Value.int IntKind.i64 pr, Value.int IntKind.i64 pg, Value.int IntKind.i64 pb, Value.int IntKind.i64 pa]⟩] (Value.tuple ⟨[mixC b0 b1 b2 b3 fr fg fb fa pr pg pb pa, Value.int IntKind.i64 0]⟩) from (c_mix k0 k1 k2 k3 f1 p1)) (by kernel_rfl) <|
                      R.finIs mixed Try.func38 (Value.tuple ⟨[Value.agg (List.take 6 (List.drop 0 [Value.int IntKind.i64 (bif b3 % 2 == 1 then chan b0 b1 b2 fr pr fa pa else pr), Value.int IntKind.i64 (bif b3 / 2 % 2 == 1 then chan b0 b1 b2 fg pg fa pa else pg), Value.int IntKind.i64 (bif b3 / 4 % 2 == 1 then chan b0 b1 b2 fb pb fa pa else pb), Value.int IntKind.i64 (bif b3 / 8 % 2 == 1 then chan b0 b1 b2 fa pa fa pa else pa), Value.int IntKind.i64 (bif rpass df fz pz && dp then fz else pz), Value.int IntKind.i64 (putS s6 s1 s3 ps)])).toArray, Value.int IntKind.i64 0]⟩) (by kernel_rfl) (by simp_all [qC, qZ, qS])
                    )
                    (fun h5 =>
                      R.call mixed (show Con Try.prog 79 [Value.agg ⟨[Value.int IntKind.i64 s0, Value.int IntKind.i64 s1, Value.int IntKind.i64 s2, Value.int IntKind.i64 s3, Value.int IntKind.i64 s4, Value.int IntKind.i64 s5, Value.int IntKind.i64 s6]⟩, Value.int IntKind.i64 1, Value.int IntKind.i64 ps] (Value.tuple ⟨[Value.int IntKind.i64 (putS s5 s1 s3 ps), Value.int IntKind.i64 0]⟩) from (by first | exact c_sput0 hs p3 | exact c_sput1 hs p3 | exact c_sput2 hs p3)) (by kernel_rfl) <|
                      R.finIs mixed Try.func38 (Value.tuple ⟨[Value.agg (List.take 6 (List.drop 0 [Value.int IntKind.i64 pr, Value.int IntKind.i64 pg, Value.int IntKind.i64 pb, Value.int IntKind.i64 pa, Value.int IntKind.i64 pz, Value.int IntKind.i64 (putS s5 s1 s3 ps)])).toArray, Value.int IntKind.i64 0]⟩) (by kernel_rfl) (by simp_all [qC, qZ, qS])
                    )
                 )
                 (fun h4 =>
                   R.call mixed (show Con Try.prog 79 [Value.agg ⟨[Value.int IntKind.i64 s0, Value.int IntKind.i64 s1, Value.int IntKind.i64 s2, Value.int IntKind.i64 s3, Value.int IntKind.i64 s4, Value.int IntKind.i64 s5, Value.int IntKind.i64 s6]⟩, Value.int IntKind.i64 0, Value.int IntKind.i64 ps] (Value.tuple ⟨[Value.int IntKind.i64 (putS s4 s1 s3 ps), Value.int IntKind.i64 0]⟩) from (by first | exact c_sput0 hs p3 | exact c_sput1 hs p3 | exact c_sput2 hs p3)) (by kernel_rfl) <|
                   R.finIs mixed Try.func38 (Value.tuple ⟨[Value.agg (List.take 6 (List.drop 0 [Value.int IntKind.i64 pr, Value.int IntKind.i64 pg, Value.int IntKind.i64 pb, Value.int IntKind.i64 pa, Value.int IntKind.i64 pz, Value.int IntKind.i64 (putS s4 s1 s3 ps)])).toArray, Value.int IntKind.i64 0]⟩) (by kernel_rfl) (by simp_all [qC, qZ, qS])
                 )
              )
           )
        )
     )

end Go.Proofs.Ytfkmhhbpomkakaa.Frag
