/- GeomInside: the law is true. -/
import Derived.Test.YtegmkkpdckolkaaQC31
namespace Go.Proofs.Ytegmkkpdckolkaa.Lf
open Go Go.Dt Go.Proofs Go.Proofs.Ytegmkkpdckolkaa.Clip Go.Proofs.Ytegmkkpdckolkaa.Pol Go.Proofs.Ytegmkkpdckolkaa.Wide
set_option linter.unusedVariables false
set_option linter.unusedSimpArgs false

def nocullS (s : TState) : TState := ⟨s.M, s.View, s.Sciss, s.DFn, s.DPut, s.St, s.Bl, 0, s.Tex, s.Wrap, s.Soft⟩
theorem first9_some {e0 e1 e2 e3 e4 e5 e6 e7 e8 : Int} (h : Frag.first9 e0 e1 e2 e3 e4 e5 e6 e7 e8 = 0) : Frag.first9 e0 e1 e2 e3 e4 e5 0 e7 e8 = 0 := by
  unfold Frag.first9 at *
  (repeat' split at h) <;> simp_all
theorem st_nocull {s : TState} (h : (Fst s != 0) = false) : (Fst (nocullS s) != 0) = false := by
  have h : Fst s = 0 := by simpa using h
  have k : Frag.kind2 0 = 0 := rfl
  have e : Fst (nocullS s) = 0 := by
    unfold Fst nocullS Frag.stE
    simp only [k]
    exact first9_some h
  rw [e]; rfl
theorem awake_fine : ∀ K, 5000 < K → FL25_awake K = some true := fun K hK => by
  obtain ⟨n, rfl⟩ : ∃ n, K = n + 100 := ⟨K - 100, by omega⟩
  kernel_rfl
section
variable {s : TState} {t : A3TVertex} (hs : (Fst s != 0) = false) (ht : goodT t) (hin : ∀ i, i < 3 → ∀ k : Nat, k < 7 → 0 ≤ farC k (cr (getR (cornL s t) i)))
include hin
theorem left_in : leftL s t = cornL s t := plT_in 7 0 (by omega) hin
theorem tris_in : trisL (nocullS s) t = if (setV ⟨snapV s.View (cornV s.M t.e0), snapV s.View (cornV s.M t.e1), snapV s.View (cornV s.M t.e2)⟩ 0).2 = true then [(setV ⟨snapV s.View (cornV s.M t.e0), snapV s.View (cornV s.M t.e1), snapV s.View (cornV s.M t.e2)⟩ 0).1] else [] := by
  have e : spotL (nocullS s) t = [snapV s.View (cornV s.M t.e0), snapV s.View (cornV s.M t.e1), snapV s.View (cornV s.M t.e2)] := by
    show (leftL s t).map (snapV s.View) = _
    rw [left_in hin]
    rfl
  unfold trisL
  rw [e]
  show _ ++ [] = _
  rw [List.append_nil]
  rfl
end
theorem FL25_GeomInside_eq (s : TState) (t : A3TVertex) : FL25_GeomInside 10000 s t = some true := by
  have aw := awake_fine 10000 (by decide)
  unfold FL25_GeomInside
  cases hs : (Fst s != 0) with
  | true =>
    simp only [Option.bind_some, cond_true, aw]
  | false =>
    rw [FR25_Check_eq]
    rcases chk_cases (t := t) with ⟨e, h1, h2⟩ | ⟨h1, ht⟩
    · rw [h1]
      simp only [Option.bind_some, cond_true, cond_false, aw, h2]
    · have z0 : ((0 : Int) != 0) = false := rfl
      obtain ⟨hm, hv, -, -⟩ := st_ok hs
      rw [h1]
      simp only [Option.bind_some, cond_false, z0, aw, FR24_Corner_eq hm ht.1, FR24_Corner_eq hm ht.2.1, FR24_Corner_eq hm ht.2.2]
      have m0 := cornV_may hm ht.1
      have f00 : Ffar 10000 0 (cornV s.M t.e0).P = some (farC 0 (cr (cornV s.M t.e0))) := Ffar_eq (k := 0) (by decide) (mayB_iff.1 m0)
      have f01 : Ffar 10000 1 (cornV s.M t.e0).P = some (farC 1 (cr (cornV s.M t.e0))) := Ffar_eq (k := 1) (by decide) (mayB_iff.1 m0)
      have f02 : Ffar 10000 2 (cornV s.M t.e0).P = some (farC 2 (cr (cornV s.M t.e0))) := Ffar_eq (k := 2) (by decide) (mayB_iff.1 m0)
      have f03 : Ffar 10000 3 (cornV s.M t.e0).P = some (farC 3 (cr (cornV s.M t.e0))) := Ffar_eq (k := 3) (by decide) (mayB_iff.1 m0)
      have f04 : Ffar 10000 4 (cornV s.M t.e0).P = some (farC 4 (cr (cornV s.M t.e0))) := Ffar_eq (k := 4) (by decide) (mayB_iff.1 m0)
      have f05 : Ffar 10000 5 (cornV s.M t.e0).P = some (farC 5 (cr (cornV s.M t.e0))) := Ffar_eq (k := 5) (by decide) (mayB_iff.1 m0)
      have f06 : Ffar 10000 6 (cornV s.M t.e0).P = some (farC 6 (cr (cornV s.M t.e0))) := Ffar_eq (k := 6) (by decide) (mayB_iff.1 m0)
      have m1 := cornV_may hm ht.2.1
      have f10 : Ffar 10000 0 (cornV s.M t.e1).P = some (farC 0 (cr (cornV s.M t.e1))) := Ffar_eq (k := 0) (by decide) (mayB_iff.1 m1)
      have f11 : Ffar 10000 1 (cornV s.M t.e1).P = some (farC 1 (cr (cornV s.M t.e1))) := Ffar_eq (k := 1) (by decide) (mayB_iff.1 m1)
      have f12 : Ffar 10000 2 (cornV s.M t.e1).P = some (farC 2 (cr (cornV s.M t.e1))) := Ffar_eq (k := 2) (by decide) (mayB_iff.1 m1)
      have f13 : Ffar 10000 3 (cornV s.M t.e1).P = some (farC 3 (cr (cornV s.M t.e1))) := Ffar_eq (k := 3) (by decide) (mayB_iff.1 m1)
      have f14 : Ffar 10000 4 (cornV s.M t.e1).P = some (farC 4 (cr (cornV s.M t.e1))) := Ffar_eq (k := 4) (by decide) (mayB_iff.1 m1)
      have f15 : Ffar 10000 5 (cornV s.M t.e1).P = some (farC 5 (cr (cornV s.M t.e1))) := Ffar_eq (k := 5) (by decide) (mayB_iff.1 m1)
      have f16 : Ffar 10000 6 (cornV s.M t.e1).P = some (farC 6 (cr (cornV s.M t.e1))) := Ffar_eq (k := 6) (by decide) (mayB_iff.1 m1)
      have m2 := cornV_may hm ht.2.2
      have f20 : Ffar 10000 0 (cornV s.M t.e2).P = some (farC 0 (cr (cornV s.M t.e2))) := Ffar_eq (k := 0) (by decide) (mayB_iff.1 m2)
      have f21 : Ffar 10000 1 (cornV s.M t.e2).P = some (farC 1 (cr (cornV s.M t.e2))) := Ffar_eq (k := 1) (by decide) (mayB_iff.1 m2)
      have f22 : Ffar 10000 2 (cornV s.M t.e2).P = some (farC 2 (cr (cornV s.M t.e2))) := Ffar_eq (k := 2) (by decide) (mayB_iff.1 m2)
      have f23 : Ffar 10000 3 (cornV s.M t.e2).P = some (farC 3 (cr (cornV s.M t.e2))) := Ffar_eq (k := 3) (by decide) (mayB_iff.1 m2)
      have f24 : Ffar 10000 4 (cornV s.M t.e2).P = some (farC 4 (cr (cornV s.M t.e2))) := Ffar_eq (k := 4) (by decide) (mayB_iff.1 m2)
      have f25 : Ffar 10000 5 (cornV s.M t.e2).P = some (farC 5 (cr (cornV s.M t.e2))) := Ffar_eq (k := 5) (by decide) (mayB_iff.1 m2)
      have f26 : Ffar 10000 6 (cornV s.M t.e2).P = some (farC 6 (cr (cornV s.M t.e2))) := Ffar_eq (k := 6) (by decide) (mayB_iff.1 m2)
      rw [f00, Option.bind_some]
      rcases Int.lt_or_le (farC 0 (cr (cornV s.M t.e0))) 0 with a00 | a00
      · rw [decide_eq_true a00]; rfl
      rw [decide_eq_false (Int.not_lt.2 a00), cond_false]
      rw [f01, Option.bind_some]
      rcases Int.lt_or_le (farC 1 (cr (cornV s.M t.e0))) 0 with a01 | a01
      · rw [decide_eq_true a01]; rfl
      rw [decide_eq_false (Int.not_lt.2 a01), cond_false]
      rw [f02, Option.bind_some]
      rcases Int.lt_or_le (farC 2 (cr (cornV s.M t.e0))) 0 with a02 | a02
      · rw [decide_eq_true a02]; rfl
      rw [decide_eq_false (Int.not_lt.2 a02), cond_false]
      rw [f03, Option.bind_some]
      rcases Int.lt_or_le (farC 3 (cr (cornV s.M t.e0))) 0 with a03 | a03
      · rw [decide_eq_true a03]; rfl
      rw [decide_eq_false (Int.not_lt.2 a03), cond_false]
      rw [f04, Option.bind_some]
      rcases Int.lt_or_le (farC 4 (cr (cornV s.M t.e0))) 0 with a04 | a04
      · rw [decide_eq_true a04]; rfl
      rw [decide_eq_false (Int.not_lt.2 a04), cond_false]
      rw [f05, Option.bind_some]
      rcases Int.lt_or_le (farC 5 (cr (cornV s.M t.e0))) 0 with a05 | a05
      · rw [decide_eq_true a05]; rfl
      rw [decide_eq_false (Int.not_lt.2 a05), cond_false]
      rw [f06, Option.bind_some]
      rcases Int.lt_or_le (farC 6 (cr (cornV s.M t.e0))) 0 with a06 | a06
      · rw [decide_eq_true a06]; rfl
      rw [decide_eq_false (Int.not_lt.2 a06), cond_false]
      rw [FR16_Snap_eq m0 (by have : 0 ≤ (cornV s.M t.e0).P.W - 1 := a00; omega) hv, Option.bind_some]
      rw [f10, Option.bind_some]
      rcases Int.lt_or_le (farC 0 (cr (cornV s.M t.e1))) 0 with a10 | a10
      · rw [decide_eq_true a10]; rfl
      rw [decide_eq_false (Int.not_lt.2 a10), cond_false]
      rw [f11, Option.bind_some]
      rcases Int.lt_or_le (farC 1 (cr (cornV s.M t.e1))) 0 with a11 | a11
      · rw [decide_eq_true a11]; rfl
      rw [decide_eq_false (Int.not_lt.2 a11), cond_false]
      rw [f12, Option.bind_some]
      rcases Int.lt_or_le (farC 2 (cr (cornV s.M t.e1))) 0 with a12 | a12
      · rw [decide_eq_true a12]; rfl
      rw [decide_eq_false (Int.not_lt.2 a12), cond_false]
      rw [f13, Option.bind_some]
      rcases Int.lt_or_le (farC 3 (cr (cornV s.M t.e1))) 0 with a13 | a13
      · rw [decide_eq_true a13]; rfl
      rw [decide_eq_false (Int.not_lt.2 a13), cond_false]
      rw [f14, Option.bind_some]
      rcases Int.lt_or_le (farC 4 (cr (cornV s.M t.e1))) 0 with a14 | a14
      · rw [decide_eq_true a14]; rfl
      rw [decide_eq_false (Int.not_lt.2 a14), cond_false]
      rw [f15, Option.bind_some]
      rcases Int.lt_or_le (farC 5 (cr (cornV s.M t.e1))) 0 with a15 | a15
      · rw [decide_eq_true a15]; rfl
      rw [decide_eq_false (Int.not_lt.2 a15), cond_false]
      rw [f16, Option.bind_some]
      rcases Int.lt_or_le (farC 6 (cr (cornV s.M t.e1))) 0 with a16 | a16
      · rw [decide_eq_true a16]; rfl
      rw [decide_eq_false (Int.not_lt.2 a16), cond_false]
      rw [FR16_Snap_eq m1 (by have : 0 ≤ (cornV s.M t.e1).P.W - 1 := a10; omega) hv, Option.bind_some]
      rw [f20, Option.bind_some]
      rcases Int.lt_or_le (farC 0 (cr (cornV s.M t.e2))) 0 with a20 | a20
      · rw [decide_eq_true a20]; rfl
      rw [decide_eq_false (Int.not_lt.2 a20), cond_false]
      rw [f21, Option.bind_some]
      rcases Int.lt_or_le (farC 1 (cr (cornV s.M t.e2))) 0 with a21 | a21
      · rw [decide_eq_true a21]; rfl
      rw [decide_eq_false (Int.not_lt.2 a21), cond_false]
      rw [f22, Option.bind_some]
      rcases Int.lt_or_le (farC 2 (cr (cornV s.M t.e2))) 0 with a22 | a22
      · rw [decide_eq_true a22]; rfl
      rw [decide_eq_false (Int.not_lt.2 a22), cond_false]
      rw [f23, Option.bind_some]
      rcases Int.lt_or_le (farC 3 (cr (cornV s.M t.e2))) 0 with a23 | a23
      · rw [decide_eq_true a23]; rfl
      rw [decide_eq_false (Int.not_lt.2 a23), cond_false]
      rw [f24, Option.bind_some]
      rcases Int.lt_or_le (farC 4 (cr (cornV s.M t.e2))) 0 with a24 | a24
      · rw [decide_eq_true a24]; rfl
      rw [decide_eq_false (Int.not_lt.2 a24), cond_false]
      rw [f25, Option.bind_some]
      rcases Int.lt_or_le (farC 5 (cr (cornV s.M t.e2))) 0 with a25 | a25
      · rw [decide_eq_true a25]; rfl
      rw [decide_eq_false (Int.not_lt.2 a25), cond_false]
      rw [f26, Option.bind_some]
      rcases Int.lt_or_le (farC 6 (cr (cornV s.M t.e2))) 0 with a26 | a26
      · rw [decide_eq_true a26]; rfl
      rw [decide_eq_false (Int.not_lt.2 a26), cond_false]
      rw [FR16_Snap_eq m2 (by have : 0 ≤ (cornV s.M t.e2).P.W - 1 := a20; omega) hv, Option.bind_some]
      have hin : ∀ i, i < 3 → ∀ k : Nat, k < 7 → 0 ≤ farC k (cr (getR (cornL s t) i)) := by
        intro i hi k hk
        rcases i with _ | _ | _ | i
        · rcases k with _ | _ | _ | _ | _ | _ | _ | k
          · exact a00
          · exact a01
          · exact a02
          · exact a03
          · exact a04
          · exact a05
          · exact a06
          · omega
        · rcases k with _ | _ | _ | _ | _ | _ | _ | k
          · exact a10
          · exact a11
          · exact a12
          · exact a13
          · exact a14
          · exact a15
          · exact a16
          · omega
        · rcases k with _ | _ | _ | _ | _ | _ | _ | k
          · exact a20
          · exact a21
          · exact a22
          · exact a23
          · exact a24
          · exact a25
          · exact a26
          · omega
        · omega
      have e0 : Fgeom_Tris 10000 ⟨s.M, s.View, s.Sciss, s.DFn, s.DPut, s.St, s.Bl, 0, s.Tex, s.Wrap, s.Soft⟩ t = some (trisL (nocullS s) t, 0) := Fgeom_Tris_eq (s := nocullS s) (st_nocull hs) ht h1 (show 5000 < 10000 by decide)
      have hq : maysQ ⟨snapV s.View (cornV s.M t.e0), snapV s.View (cornV s.M t.e1), snapV s.View (cornV s.M t.e2)⟩ := ⟨mays_snap m0, mays_snap m1, mays_snap m2⟩
      rw [e0, tris_in hin, Option.bind_some, FR17_Setup_eq hq (cu := 0) (by decide) (by decide), Option.bind_some]
      generalize setV ⟨snapV s.View (cornV s.M t.e0), snapV s.View (cornV s.M t.e1), snapV s.View (cornV s.M t.e2)⟩ 0 = q
      obtain ⟨q, b⟩ := q
      cases b with
      | false => rfl
      | true =>
        have e1 : getR [q] 0 = q := rfl
        have e2 : (((([q] : List TTri).length : Nat) : Int) == 1) = true := rfl
        have e3 : inR 0 ([q] : List TTri).length = true := rfl
        have e4 : ((0 : Int) == 0) = true := rfl
        simp only [if_true, cond_true, cond_false, Bool.not_true, e1, e2, e3, e4, beq_self_eq_true, Bool.and_self, aw, Option.bind_some]
theorem geomInside_walk (s : TState) (t : A3TVertex) : Con Try.prog 4 [.agg ⟨flTState.cells s⟩, .agg ⟨flA3TVertex.cells t⟩] (.bool true) := cL25_GeomInside 10000 s t true (FL25_GeomInside_eq s t)
end Go.Proofs.Ytegmkkpdckolkaa.Lf
