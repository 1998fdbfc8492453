/- States: which may be. -/
import Derived.Test.YtfkmhhbpomkakaaFB
namespace Go.Proofs.Ytfkmhhbpomkakaa.Frag
open Go Go.Dt Go.Proofs
set_option linter.unusedVariables false
set_option linter.unusedSimpArgs false

abbrev ST (m0 m1 m2 m3 m4 m5 m6 m7 m8 m9 m10 m11 m12 m13 m14 m15 v0 v1 v2 v3 t0 t1 t2 t3 df : Int) (dp : Bool) (s0 s1 s2 s3 s4 s5 s6 b0 b1 b2 b3 cu tx wr : Int) (so : Bool) : Value := .agg ⟨[.int .i64 m0, .int .i64 m1, .int .i64 m2, .int .i64 m3, .int .i64 m4, .int .i64 m5, .int .i64 m6, .int .i64 m7, .int .i64 m8, .int .i64 m9, .int .i64 m10, .int .i64 m11, .int .i64 m12, .int .i64 m13, .int .i64 m14, .int .i64 m15, .int .i64 v0, .int .i64 v1, .int .i64 v2, .int .i64 v3, .int .i64 t0, .int .i64 t1, .int .i64 t2, .int .i64 t3, .int .i64 df, .bool dp, .int .i64 s0, .int .i64 s1, .int .i64 s2, .int .i64 s3, .int .i64 s4, .int .i64 s5, .int .i64 s6, .int .i64 b0, .int .i64 b1, .int .i64 b2, .int .i64 b3, .int .i64 cu, .int .i64 tx, .int .i64 wr, .bool so]⟩
def first9 (e0 e1 e2 e3 e4 e5 e6 e7 e8 : Int) : Int := if e0 ≠ 0 then e0 else if e1 ≠ 0 then e1 else if e2 ≠ 0 then e2 else if e3 ≠ 0 then e3 else if e4 ≠ 0 then e4 else if e5 ≠ 0 then e5 else if e6 ≠ 0 then e6 else if e7 ≠ 0 then e7 else if e8 ≠ 0 then e8 else 0
def matE (m0 m1 m2 m3 m4 m5 m6 m7 m8 m9 m10 m11 m12 m13 m14 m15 : Int) : Int := bif mayM m0 m1 m2 m3 m4 m5 m6 m7 m8 m9 m10 m11 m12 m13 m14 m15 then 0 else 11
def mat3 (m0 m1 m2 m3 m4 m5 m6 m7 m8 m9 m10 m11 m12 m13 m14 m15 : Int) : Int := bif mayM m0 m1 m2 m3 m4 m5 m6 m7 m8 m9 m10 m11 m12 m13 m14 m15 then 0 else 3
def viewE (a b c d : Int) : Int := if viewP a b c d then 0 else 12
def stE (m0 m1 m2 m3 m4 m5 m6 m7 m8 m9 m10 m11 m12 m13 m14 m15 v0 v1 v2 v3 t0 t1 t2 t3 df s0 s1 s2 s3 s4 s5 s6 b0 b1 b2 b3 cu tx wr : Int) : Int := first9 (matE m0 m1 m2 m3 m4 m5 m6 m7 m8 m9 m10 m11 m12 m13 m14 m15) (viewE v0 v1 v2 v3) (viewE t0 t1 t2 t3) (k7 df) (stenE s0 s1 s2 s3 s4 s5 s6) (blendE b0 b1 b2 b3) (kind2 cu) (hand tx) (kind2 wr)

theorem c_matrix {m0 m1 m2 m3 m4 m5 m6 m7 m8 m9 m10 m11 m12 m13 m14 m15 : Int}  : Con Try.prog 111 [M16 m0 m1 m2 m3 m4 m5 m6 m7 m8 m9 m10 m11 m12 m13 m14 m15] (.int .i64 (matE m0 m1 m2 m3 m4 m5 m6 m7 m8 m9 m10 m11 m12 m13 m14 m15)) := by
  exact Con.run Try.func111 (by kernel_rfl) rfl <|
    R.call mixed (show Con Try.prog 142 [Value.agg ⟨[Value.int IntKind.i64 m0, Value.int IntKind.i64 m1, Value.int IntKind.i64 m2, Value.int IntKind.i64 m3, Value.int IntKind.i64 m4, Value.int IntKind.i64 m5, Value.int IntKind.i64 m6, Value.int IntKind.i64 m7, Value.int IntKind.i64 m8, Value.int IntKind.i64 m9, Value.int IntKind.i64 m10, Value.int IntKind.i64 m11, Value.int IntKind.i64 m12, Value.int IntKind.i64 m13, Value.int IntKind.i64 m14, Value.int IntKind.i64 m15]⟩, Value.agg ⟨[Value.int IntKind.i64 0, Value.int IntKind.i64 0, Value.int IntKind.i64 0, Value.int IntKind.i64 0]⟩] (Value.tuple ⟨[R4 0 0 0 0, Value.int IntKind.i64 (mat3 m0 m1 m2 m3 m4 m5 m6 m7 m8 m9 m10 m11 m12 m13 m14 m15)]⟩) from c_apply0) (by kernel_rfl) <|
    R.branch mixed 12 (mat3 m0 m1 m2 m3 m4 m5 m6 m7 m8 m9 m10 m11 m12 m13 m14 m15 != 0) (by kernel_rfl)
     (fun h0 =>
       R.finIs mixed Try.func111 (Value.int IntKind.i64 11) (by kernel_rfl) (by cases hm : mayM m0 m1 m2 m3 m4 m5 m6 m7 m8 m9 m10 m11 m12 m13 m14 m15 <;> simp_all [matE, mat3])
     )
     (fun h0 =>
       R.finIs mixed Try.func111 (Value.int IntKind.i64 0) (by kernel_rfl) (by cases hm : mayM m0 m1 m2 m3 m4 m5 m6 m7 m8 m9 m10 m11 m12 m13 m14 m15 <;> simp_all [matE, mat3])
     )

theorem c_first {e0 e1 e2 e3 e4 e5 e6 e7 e8 : Int}  : ConM Try.prog 110 [.slice (some ⟨0, 0, none⟩) 9 9] [.cells [.int .i64 e0, .int .i64 e1, .int .i64 e2, .int .i64 e3, .int .i64 e4, .int .i64 e5, .int .i64 e6, .int .i64 e7, .int .i64 e8] 0 false] (.int .i64 (first9 e0 e1 e2 e3 e4 e5 e6 e7 e8)) (List.replicate 1 .gone) := by
  exact ConM.reads Try.func110 (by kernel_rfl) rfl <|
    R.branch mixed 33 (e0 != 0) (by kernel_rfl)
     (fun h0 =>
       R.finIs mixed Try.func110 (Value.int IntKind.i64 e0) (by kernel_rfl) (by simp_all [first9])
     )
     (fun h0 =>
       R.branch mixed 27 (e1 != 0) (by kernel_rfl)
        (fun h1 =>
          R.finIs mixed Try.func110 (Value.int IntKind.i64 e1) (by kernel_rfl) (by simp_all [first9])
        )
        (fun h1 =>
          R.branch mixed 27 (e2 != 0) (by kernel_rfl)
           (fun h2 =>
             R.finIs mixed Try.func110 (Value.int IntKind.i64 e2) (by kernel_rfl) (by simp_all [first9])
           )
           (fun h2 =>
             R.branch mixed 27 (e3 != 0) (by kernel_rfl)
              (fun h3 =>
                R.finIs mixed Try.func110 (Value.int IntKind.i64 e3) (by kernel_rfl) (by simp_all [first9])
              )
              (fun h3 =>
                R.branch mixed 27 (e4 != 0) (by kernel_rfl)
                 (fun h4 =>
                   R.finIs mixed Try.func110 (Value.int IntKind.i64 e4) (by kernel_rfl) (by simp_all [first9])
                 )
                 (fun h4 =>
                   R.branch mixed 27 (e5 != 0) (by kernel_rfl)
                    (fun h5 =>
                      R.finIs mixed Try.func110 (Value.int IntKind.i64 e5) (by kernel_rfl) (by simp_all [first9])
                    )
                    (fun h5 =>
                      R.branch mixed 27 (e6 != 0) (by kernel_rfl)
                       (fun h6 =>
                         R.finIs mixed Try.func110 (Value.int IntKind.i64 e6) (by kernel_rfl) (by simp_all [first9])
                       )
                       (fun h6 =>
                         R.branch mixed 27 (e7 != 0) (by kernel_rfl)
                          (fun h7 =>
                            R.finIs mixed Try.func110 (Value.int IntKind.i64 e7) (by kernel_rfl) (by simp_all [first9])
                          )
                          (fun h7 =>
                            R.branch mixed 27 (e8 != 0) (by kernel_rfl)
                             (fun h8 =>
                               R.finIs mixed Try.func110 (Value.int IntKind.i64 e8) (by kernel_rfl) (by simp_all [first9])
                             )
                             (fun h8 =>
                               R.finIs mixed Try.func110 (Value.int IntKind.i64 0) (by kernel_rfl) (by simp_all [first9])
                             )
                          )
                       )
                    )
                 )
              )
           )
        )
     )

theorem c_check {m0 m1 m2 m3 m4 m5 m6 m7 m8 m9 m10 m11 m12 m13 m14 m15 v0 v1 v2 v3 t0 t1 t2 t3 df : Int} {dp : Bool} {s0 s1 s2 s3 s4 s5 s6 b0 b1 b2 b3 cu tx wr : Int} {so : Bool}  : Con Try.prog 73 [ST m0 m1 m2 m3 m4 m5 m6 m7 m8 m9 m10 m11 m12 m13 m14 m15 v0 v1 v2 v3 t0 t1 t2 t3 df dp s0 s1 s2 s3 s4 s5 s6 b0 b1 b2 b3 cu tx wr so] (.int .i64 (stE m0 m1 m2 m3 m4 m5 m6 m7 m8 m9 m10 m11 m12 m13 m14 m15 v0 v1 v2 v3 t0 t1 t2 t3 df s0 s1 s2 s3 s4 s5 s6 b0 b1 b2 b3 cu tx wr)) := by
  exact Con.run Try.func73 (by kernel_rfl) rfl <|
    R.call mixed (show Con Try.prog 111 [Value.agg ⟨[Value.int IntKind.i64 m0, Value.int IntKind.i64 m1, Value.int IntKind.i64 m2, Value.int IntKind.i64 m3, Value.int IntKind.i64 m4, Value.int IntKind.i64 m5, Value.int IntKind.i64 m6, Value.int IntKind.i64 m7, Value.int IntKind.i64 m8, Value.int IntKind.i64 m9, Value.int IntKind.i64 m10, Value.int IntKind.i64 m11, Value.int IntKind.i64 m12, Value.int IntKind.i64 m13, Value.int IntKind.i64 m14, Value.int IntKind.i64 m15]⟩] (Value.int IntKind.i64 (matE m0 m1 m2 m3 m4 m5 m6 m7 m8 m9 m10 m11 m12 m13 m14 m15)) from c_matrix) (by kernel_rfl) <|
    R.call mixed (show Con Try.prog 112 [Value.agg ⟨[Value.int IntKind.i64 v0, Value.int IntKind.i64 v1, Value.int IntKind.i64 v2, Value.int IntKind.i64 v3]⟩] (Value.int IntKind.i64 (viewE v0 v1 v2 v3)) from c_view) (by kernel_rfl) <|
    R.call mixed (show Con Try.prog 112 [Value.agg ⟨[Value.int IntKind.i64 t0, Value.int IntKind.i64 t1, Value.int IntKind.i64 t2, Value.int IntKind.i64 t3]⟩] (Value.int IntKind.i64 (viewE t0 t1 t2 t3)) from c_view) (by kernel_rfl) <|
    R.call mixed (show Con Try.prog 113 [Value.int IntKind.i64 df] (Value.int IntKind.i64 (k7 df)) from c_test7) (by kernel_rfl) <|
    R.call mixed (show Con Try.prog 114 [Value.agg ⟨[Value.int IntKind.i64 s0, Value.int IntKind.i64 s1, Value.int IntKind.i64 s2, Value.int IntKind.i64 s3, Value.int IntKind.i64 s4, Value.int IntKind.i64 s5, Value.int IntKind.i64 s6]⟩] (Value.int IntKind.i64 (stenE s0 s1 s2 s3 s4 s5 s6)) from c_stenE) (by kernel_rfl) <|
    R.call mixed (show Con Try.prog 115 [Value.agg ⟨[Value.int IntKind.i64 b0, Value.int IntKind.i64 b1, Value.int IntKind.i64 b2, Value.int IntKind.i64 b3]⟩] (Value.int IntKind.i64 (blendE b0 b1 b2 b3)) from c_blendE) (by kernel_rfl) <|
    R.call mixed (show Con Try.prog 116 [Value.int IntKind.i64 cu] (Value.int IntKind.i64 (kind2 cu)) from c_kind2) (by kernel_rfl) <|
    R.call mixed (show Con Try.prog 117 [Value.int IntKind.i64 tx] (Value.int IntKind.i64 (hand tx)) from c_hand) (by kernel_rfl) <|
    R.call mixed (show Con Try.prog 116 [Value.int IntKind.i64 wr] (Value.int IntKind.i64 (kind2 wr)) from c_kind2) (by kernel_rfl) <|
    R.callM mixed ([.win 1 0 9 false]) (c_first (e0 := matE m0 m1 m2 m3 m4 m5 m6 m7 m8 m9 m10 m11 m12 m13 m14 m15) (e1 := viewE v0 v1 v2 v3) (e2 := viewE t0 t1 t2 t3) (e3 := k7 df) (e4 := stenE s0 s1 s2 s3 s4 s5 s6) (e5 := blendE b0 b1 b2 b3) (e6 := kind2 cu) (e7 := hand tx) (e8 := kind2 wr)) (by kernel_rfl) (by kernel_rfl) rfl <|
    R.finIs mixed Try.func73 (Value.int IntKind.i64 (first9 (matE m0 m1 m2 m3 m4 m5 m6 m7 m8 m9 m10 m11 m12 m13 m14 m15) (viewE v0 v1 v2 v3) (viewE t0 t1 t2 t3) (k7 df) (stenE s0 s1 s2 s3 s4 s5 s6) (blendE b0 b1 b2 b3) (kind2 cu) (hand tx) (kind2 wr))) (by kernel_rfl) (by rfl)

theorem c_rcheck {m0 m1 m2 m3 m4 m5 m6 m7 m8 m9 m10 m11 m12 m13 m14 m15 v0 v1 v2 v3 t0 t1 t2 t3 df : Int} {dp : Bool} {s0 s1 s2 s3 s4 s5 s6 b0 b1 b2 b3 cu tx wr : Int} {so : Bool}  : Con Try.prog 39 [ST m0 m1 m2 m3 m4 m5 m6 m7 m8 m9 m10 m11 m12 m13 m14 m15 v0 v1 v2 v3 t0 t1 t2 t3 df dp s0 s1 s2 s3 s4 s5 s6 b0 b1 b2 b3 cu tx wr so] (.int .i64 (stE m0 m1 m2 m3 m4 m5 m6 m7 m8 m9 m10 m11 m12 m13 m14 m15 v0 v1 v2 v3 t0 t1 t2 t3 df s0 s1 s2 s3 s4 s5 s6 b0 b1 b2 b3 cu tx wr)) := by
  exact Con.run Try.func39 (by kernel_rfl) rfl <|
    R.call mixed (show Con Try.prog 81 [Value.agg ⟨[Value.int IntKind.i64 m0, Value.int IntKind.i64 m1, Value.int IntKind.i64 m2, Value.int IntKind.i64 m3, Value.int IntKind.i64 m4, Value.int IntKind.i64 m5, Value.int IntKind.i64 m6, Value.int IntKind.i64 m7, Value.int IntKind.i64 m8, Value.int IntKind.i64 m9, Value.int IntKind.i64 m10, Value.int IntKind.i64 m11, Value.int IntKind.i64 m12, Value.int IntKind.i64 m13, Value.int IntKind.i64 m14, Value.int IntKind.i64 m15]⟩] (Value.bool (mayM m0 m1 m2 m3 m4 m5 m6 m7 m8 m9 m10 m11 m12 m13 m14 m15)) from c_rmayM) (by kernel_rfl) <|
    R.branch mixed 2 (!mayM m0 m1 m2 m3 m4 m5 m6 m7 m8 m9 m10 m11 m12 m13 m14 m15) (by kernel_rfl)
     (fun h0 =>
       R.finIs mixed Try.func39 (Value.int IntKind.i64 11) (by kernel_rfl) (by first | (simp_all [stE, first9, matE, viewE, k7, kind2, hand]; done) | (simp_all [stE, first9, matE, viewE, k7, kind2, hand]; (repeat' split) <;> omega))
     )
     (fun h0 =>
       R.call mixed (show Con Try.prog 82 [Value.agg ⟨[Value.int IntKind.i64 v0, Value.int IntKind.i64 v1, Value.int IntKind.i64 v2, Value.int IntKind.i64 v3]⟩] (Value.bool (decide (viewP v0 v1 v2 v3))) from c_rview) (by kernel_rfl) <|
       R.guard mixed 2 (!decide (viewP v0 v1 v2 v3)) (by kernel_rfl)
        (fun h1 =>
          R.finIs mixed Try.func39 (Value.int IntKind.i64 12) (by kernel_rfl) (by first | (simp_all [stE, first9, matE, viewE, k7, kind2, hand]; done) | (simp_all [stE, first9, matE, viewE, k7, kind2, hand]; (repeat' split) <;> omega))
        )
        (fun h1 =>
          R.call mixed (show Con Try.prog 82 [Value.agg ⟨[Value.int IntKind.i64 t0, Value.int IntKind.i64 t1, Value.int IntKind.i64 t2, Value.int IntKind.i64 t3]⟩] (Value.bool (decide (viewP t0 t1 t2 t3))) from c_rview) (by kernel_rfl) <|
          R.branch mixed 3 (bif false then true else !decide (viewP t0 t1 t2 t3)) (by kernel_rfl)
           (fun h2 =>
             R.finIs mixed Try.func39 (Value.int IntKind.i64 12) (by kernel_rfl) (by first | (simp_all [stE, first9, matE, viewE, k7, kind2, hand]; done) | (simp_all [stE, first9, matE, viewE, k7, kind2, hand]; (repeat' split) <;> omega))
           )
           (fun h2 =>
             R.call mixed (show Con Try.prog 83 [Value.int IntKind.i64 df] (Value.bool (is7 df)) from c_r7) (by kernel_rfl) <|
             R.branch mixed 2 (!is7 df) (by kernel_rfl)
              (fun h3 =>
                R.finIs mixed Try.func39 (Value.int IntKind.i64 9) (by kernel_rfl) (by first | (simp_all [stE, first9, matE, viewE, k7, kind2, hand]; done) | (simp_all [stE, first9, matE, viewE, k7, kind2, hand]; (repeat' split) <;> omega))
              )
              (fun h3 =>
                R.call mixed (show Con Try.prog 84 [Value.agg ⟨[Value.int IntKind.i64 s0, Value.int IntKind.i64 s1, Value.int IntKind.i64 s2, Value.int IntKind.i64 s3, Value.int IntKind.i64 s4, Value.int IntKind.i64 s5, Value.int IntKind.i64 s6]⟩] (Value.int IntKind.i64 (stenE s0 s1 s2 s3 s4 s5 s6)) from c_rstenE) (by kernel_rfl) <|
                R.branch mixed 7 (stenE s0 s1 s2 s3 s4 s5 s6 != 0) (by kernel_rfl)
                 (fun h4 =>
                   R.finIs mixed Try.func39 (Value.int IntKind.i64 (stenE s0 s1 s2 s3 s4 s5 s6)) (by kernel_rfl) (by first | (simp_all [stE, first9, matE, viewE, k7, kind2, hand]; done) | (simp_all [stE, first9, matE, viewE, k7, kind2, hand]; (repeat' split) <;> omega))
                 )
                 (fun h4 =>
                   R.call mixed (show Con Try.prog 85 [Value.agg ⟨[Value.int IntKind.i64 b0, Value.int IntKind.i64 b1, Value.int IntKind.i64 b2, Value.int IntKind.i64 b3]⟩] (Value.int IntKind.i64 (blendE b0 b1 b2 b3)) from c_rblendE) (by kernel_rfl) <|
                   R.branch mixed 7 (blendE b0 b1 b2 b3 != 0) (by kernel_rfl)
                    (fun h5 =>
                      R.finIs mixed Try.func39 (Value.int IntKind.i64 (blendE b0 b1 b2 b3)) (by kernel_rfl) (by first | (simp_all [stE, first9, matE, viewE, k7, kind2, hand]; done) | (simp_all [stE, first9, matE, viewE, k7, kind2, hand]; (repeat' split) <;> omega))
                    )
                    (fun h5 =>
                      R.guard mixed 8 (decide (cu < 0)) (by kernel_rfl)
                       (fun h6 =>
                         R.finIs mixed Try.func39 (Value.int IntKind.i64 9) (by kernel_rfl) (by first | (simp_all [stE, first9, matE, viewE, k7, kind2, hand]; done) | (simp_all [stE, first9, matE, viewE, k7, kind2, hand]; (repeat' split) <;> omega))
                       )
                       (fun h6 =>
                         R.branch mixed 5 (bif false then true else decide (cu > 2)) (by kernel_rfl)
                          (fun h7 =>
                            R.finIs mixed Try.func39 (Value.int IntKind.i64 9) (by kernel_rfl) (by first | (simp_all [stE, first9, matE, viewE, k7, kind2, hand]; done) | (simp_all [stE, first9, matE, viewE, k7, kind2, hand]; (repeat' split) <;> omega))
                          )
                          (fun h7 =>
                            R.guard mixed 8 (decide (tx < 0)) (by kernel_rfl)
                             (fun h8 =>
                               R.finIs mixed Try.func39 (Value.int IntKind.i64 7) (by kernel_rfl) (by first | (simp_all [stE, first9, matE, viewE, k7, kind2, hand]; done) | (simp_all [stE, first9, matE, viewE, k7, kind2, hand]; (repeat' split) <;> omega))
                             )
                             (fun h8 =>
                               R.branch mixed 5 (bif false then true else decide (tx > 64)) (by kernel_rfl)
                                (fun h9 =>
                                  R.finIs mixed Try.func39 (Value.int IntKind.i64 7) (by kernel_rfl) (by first | (simp_all [stE, first9, matE, viewE, k7, kind2, hand]; done) | (simp_all [stE, first9, matE, viewE, k7, kind2, hand]; (repeat' split) <;> omega))
                                )
                                (fun h9 =>
                                  R.guard mixed 8 (decide (wr < 0)) (by kernel_rfl)
                                   (fun h10 =>
                                     R.finIs mixed Try.func39 (Value.int IntKind.i64 9) (by kernel_rfl) (by first | (simp_all [stE, first9, matE, viewE, k7, kind2, hand]; done) | (simp_all [stE, first9, matE, viewE, k7, kind2, hand]; (repeat' split) <;> omega))
                                   )
                                   (fun h10 =>
                                     R.branch mixed 5 (bif false then true else decide (wr > 2)) (by kernel_rfl)
                                      (fun h11 =>
                                        R.finIs mixed Try.func39 (Value.int IntKind.i64 9) (by kernel_rfl) (by first | (simp_all [stE, first9, matE, viewE, k7, kind2, hand]; done) | (simp_all [stE, first9, matE, viewE, k7, kind2, hand]; (repeat' split) <;> omega))
                                      )
                                      (fun h11 =>
                                        R.finIs mixed Try.func39 (Value.int IntKind.i64 0) (by kernel_rfl) (by first | (simp_all [stE, first9, matE, viewE, k7, kind2, hand]; done) | (simp_all [stE, first9, matE, viewE, k7, kind2, hand]; (repeat' split) <;> omega))
                                      )
                                   )
                                )
                             )
                          )
                       )
                    )
                 )
              )
           )
        )
     )

end Go.Proofs.Ytfkmhhbpomkakaa.Frag
