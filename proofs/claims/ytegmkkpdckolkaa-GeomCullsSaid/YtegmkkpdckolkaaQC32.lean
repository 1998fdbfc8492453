/- Several texts in one: LHz1, G7z1. -/
import Derived.Test.YtegmkkpdckolkaaQC30
import Derived.Test.YtegmkkpdckolkaaQC31
namespace Go.Proofs.Ytegmkkpdckolkaa.Lf

section
open Go Go.Dt Go.Proofs
set_option linter.unusedVariables false

/-! ### 3 -/
abbrev EL25_GeomCulls : Bool → Value := fun r => .bool r
def FL25_GeomCulls_13 (a0 : TState) (a1 : A3TVertex) : Nat → A3LTTri → Int → Option Bool
  | 0, _, _ => none
  | K + 1, p5, p9 =>
    bif (decide (p9 < (↑p5.e0.length : Int))) then
      bif inR p9 p5.e0.length then
        (FL25_many K p5.e0 ((getR p5.e0 p9.toNat))).bind fun u14 =>
        (FL25_many K p5.e1 ((getR p5.e0 p9.toNat))).bind fun u15 =>
        (FL25_many K p5.e2 ((getR p5.e0 p9.toNat))).bind fun u16 =>
        bif (u14 != IntKind.i64.wrap (u15 + u16)) then
          some false
        else
          FL25_GeomCulls_13 a0 a1 K p5 (IntKind.i64.wrap (p9 + 1))
      else none
    else
      bif ((↑p5.e0.length : Int) == IntKind.i64.wrap ((↑p5.e1.length : Int) + (↑p5.e2.length : Int))) then
        (FL25_awake K).bind fun u19 =>
        some (bif true then u19 else false)
      else
        some false
def FL25_GeomCulls (K : Nat) (a0 : TState) (a1 : A3TVertex) : Option Bool :=
  bif (Fst a0 != 0) then
    (FL25_awake K).bind fun u2 =>
    some u2
  else
    (FR25_Check K a1).bind fun u3 =>
    bif (bif false then true else u3 != 0) then
      (FL25_awake K).bind fun u5 =>
      some u5
    else
      (Fgeom_Tris K ((⟨a0.M, a0.View, a0.Sciss, a0.DFn, a0.DPut, a0.St, a0.Bl, 0, a0.Tex, a0.Wrap, a0.Soft⟩ : TState)) a1).bind fun u6 =>
      bif (u6.snd != 0) then
        some false
      else
        (Fgeom_Tris K ((⟨a0.M, a0.View, a0.Sciss, a0.DFn, a0.DPut, a0.St, a0.Bl, 1, a0.Tex, a0.Wrap, a0.Soft⟩ : TState)) a1).bind fun u8 =>
        bif (u8.snd != 0) then
          some false
        else
          (Fgeom_Tris K ((⟨a0.M, a0.View, a0.Sciss, a0.DFn, a0.DPut, a0.St, a0.Bl, 2, a0.Tex, a0.Wrap, a0.Soft⟩ : TState)) a1).bind fun u10 =>
          bif (u10.snd != 0) then
            some false
          else
            FL25_GeomCulls_13 a0 a1 K ((⟨u6.fst, u8.fst, u10.fst⟩ : A3LTTri)) 0
def HL25_GeomCulls_13 (fn : Func) (a0 : TState) (a1 : A3TVertex) (p5 : A3LTTri) (p9 : Int) : VS := headS fn 13 [(5, frp [lst p5.e0, lst p5.e1, lst p5.e2] 0), (9, .int .i64 p9)] []
theorem lL25_GeomCulls (a0 : TState) (a1 : A3TVertex) : ∀ K : Nat, (∀ (p5 : A3LTTri) (p9 : Int), Lifts Try.prog 3 0 EL25_GeomCulls (HL25_GeomCulls_13 Try.f3 a0 a1 p5 p9) (FL25_GeomCulls_13 a0 a1 K p5 p9)) := by
  intro K
  induction K with
  | zero =>
    exact fun p5 p9 => (by rw [FL25_GeomCulls_13]; exact L.no)
  | succ K ih =>
    have IH13 := ih
    refine fun p5 p9 => ?_
    · rw [FL25_GeomCulls_13]
      exact
        L.ld mixed 5 40 [(lst p5.e0), (lst p5.e1), (lst p5.e2)] 0 ((lst p5.e0)) (by kernel_rfl) (by kernel_rfl) <|
        L.br mixed 3 _ (by kernel_rfl)
          (fun h12 =>
          L.ld mixed 6 40 [(lst p5.e0), (lst p5.e1), (lst p5.e2)] 0 ((lst p5.e0)) (by kernel_rfl) (by kernel_rfl) <|
          L.idx mixed 1 _ (rows p5.e0) 32 IntKind.i64 _ (by kernel_rfl) (fun h13a h13b =>
          L.ld mixed 0 52 (rows p5.e0) (p9.toNat * 32 + 0) (.agg ⟨[.int .i64 (getR p5.e0 p9.toNat).S.e0.P.X, .int .i64 (getR p5.e0 p9.toNat).S.e0.P.Y, .int .i64 (getR p5.e0 p9.toNat).S.e0.Z, .int .i64 (getR p5.e0 p9.toNat).S.e0.A.e0, .int .i64 (getR p5.e0 p9.toNat).S.e0.A.e1, .int .i64 (getR p5.e0 p9.toNat).S.e0.A.e2, .int .i64 (getR p5.e0 p9.toNat).S.e0.A.e3, .int .i64 (getR p5.e0 p9.toNat).S.e0.A.e4, .int .i64 (getR p5.e0 p9.toNat).S.e0.A.e5, .int .i64 (getR p5.e0 p9.toNat).S.e1.P.X, .int .i64 (getR p5.e0 p9.toNat).S.e1.P.Y, .int .i64 (getR p5.e0 p9.toNat).S.e1.Z, .int .i64 (getR p5.e0 p9.toNat).S.e1.A.e0, .int .i64 (getR p5.e0 p9.toNat).S.e1.A.e1, .int .i64 (getR p5.e0 p9.toNat).S.e1.A.e2, .int .i64 (getR p5.e0 p9.toNat).S.e1.A.e3, .int .i64 (getR p5.e0 p9.toNat).S.e1.A.e4, .int .i64 (getR p5.e0 p9.toNat).S.e1.A.e5, .int .i64 (getR p5.e0 p9.toNat).S.e2.P.X, .int .i64 (getR p5.e0 p9.toNat).S.e2.P.Y, .int .i64 (getR p5.e0 p9.toNat).S.e2.Z, .int .i64 (getR p5.e0 p9.toNat).S.e2.A.e0, .int .i64 (getR p5.e0 p9.toNat).S.e2.A.e1, .int .i64 (getR p5.e0 p9.toNat).S.e2.A.e2, .int .i64 (getR p5.e0 p9.toNat).S.e2.A.e3, .int .i64 (getR p5.e0 p9.toNat).S.e2.A.e4, .int .i64 (getR p5.e0 p9.toNat).S.e2.A.e5, .int .i64 (getR p5.e0 p9.toNat).Area, .int .i64 (getR p5.e0 p9.toNat).Box.X0, .int .i64 (getR p5.e0 p9.toNat).Box.Y0, .int .i64 (getR p5.e0 p9.toNat).Box.X1, .int .i64 (getR p5.e0 p9.toNat).Box.Y1]⟩) (by kernel_rfl) (loadN_rows (i := p9.toNat) (d := 0) (k := 32) rfl (toNat_lt h13a h13b) (by kernel_rfl) (by kernel_rfl) (Nat.le_of_ble_eq_true (by kernel_rfl)) (by kernel_rfl)) <|
          L.ld mixed 6 40 [(lst p5.e0), (lst p5.e1), (lst p5.e2)] 0 ((lst p5.e0)) (by kernel_rfl) (by kernel_rfl) <|
          L.callO mixed (fun u14 : Int => .int .i64 u14) (cL25_many K p5.e0 ((getR p5.e0 p9.toNat))) (by kernel_rfl) (fun u14 hu14 =>
          L.ld mixed 1 40 [(lst p5.e0), (lst p5.e1), (lst p5.e2)] 1 ((lst p5.e1)) (by kernel_rfl) (by kernel_rfl) <|
          L.callO mixed (fun u15 : Int => .int .i64 u15) (cL25_many K p5.e1 ((getR p5.e0 p9.toNat))) (by kernel_rfl) (fun u15 hu15 =>
          L.ld mixed 1 40 [(lst p5.e0), (lst p5.e1), (lst p5.e2)] 2 ((lst p5.e2)) (by kernel_rfl) (by kernel_rfl) <|
          L.callO mixed (fun u16 : Int => .int .i64 u16) (cL25_many K p5.e2 ((getR p5.e0 p9.toNat))) (by kernel_rfl) (fun u16 hu16 =>
          L.br mixed 3 _ (by kernel_rfl)
            (fun h17 =>
            L.ret _ mixed Try.func3 _ (by kernel_rfl) rfl)
            (fun h17 =>
            L.jumpG mixed 8 [5, 9] [] [] (by kernel_rfl) (by kernel_rfl) (by kernel_rfl) trivial (by kernel_rfl) (by kernel_rfl) (IH13 p5 (IntKind.i64.wrap (p9 + 1)))))))))
          (fun h12 =>
          L.ld mixed 4 40 [(lst p5.e0), (lst p5.e1), (lst p5.e2)] 0 ((lst p5.e0)) (by kernel_rfl) (by kernel_rfl) <|
          L.ld mixed 2 40 [(lst p5.e0), (lst p5.e1), (lst p5.e2)] 1 ((lst p5.e1)) (by kernel_rfl) (by kernel_rfl) <|
          L.ld mixed 2 40 [(lst p5.e0), (lst p5.e1), (lst p5.e2)] 2 ((lst p5.e2)) (by kernel_rfl) (by kernel_rfl) <|
          L.gu mixed 4 _ (by kernel_rfl)
            (fun h18 =>
            L.callO mixed (fun u19 : Bool => .bool u19) (cL25_awake K) (by kernel_rfl) (fun u19 hu19 =>
            L.ret _ mixed Try.func3 _ (by kernel_rfl) rfl))
            (fun h18 =>
            L.ret _ mixed Try.func3 _ (by kernel_rfl) rfl))
theorem cL25_GeomCulls (K : Nat) (a0 : TState) (a1 : A3TVertex) : ∀ r, FL25_GeomCulls K a0 a1 = some r → Con Try.prog 3 [.agg ⟨[.int .i64 a0.M.e0, .int .i64 a0.M.e1, .int .i64 a0.M.e2, .int .i64 a0.M.e3, .int .i64 a0.M.e4, .int .i64 a0.M.e5, .int .i64 a0.M.e6, .int .i64 a0.M.e7, .int .i64 a0.M.e8, .int .i64 a0.M.e9, .int .i64 a0.M.e10, .int .i64 a0.M.e11, .int .i64 a0.M.e12, .int .i64 a0.M.e13, .int .i64 a0.M.e14, .int .i64 a0.M.e15, .int .i64 a0.View.X0, .int .i64 a0.View.Y0, .int .i64 a0.View.X1, .int .i64 a0.View.Y1, .int .i64 a0.Sciss.X0, .int .i64 a0.Sciss.Y0, .int .i64 a0.Sciss.X1, .int .i64 a0.Sciss.Y1, .int .i64 a0.DFn, .bool a0.DPut, .int .i64 a0.St.Fn, .int .i64 a0.St.Ref, .int .i64 a0.St.Read, .int .i64 a0.St.Write, .int .i64 a0.St.Fail, .int .i64 a0.St.ZFail, .int .i64 a0.St.Pass, .int .i64 a0.Bl.Src, .int .i64 a0.Bl.Dst, .int .i64 a0.Bl.Eq, .int .i64 a0.Bl.Mask, .int .i64 a0.Cull, .int .i64 a0.Tex, .int .i64 a0.Wrap, .bool a0.Soft]⟩, .agg ⟨[.int .i64 a1.e0.X, .int .i64 a1.e0.Y, .int .i64 a1.e0.Z, .int .i64 a1.e0.C.R, .int .i64 a1.e0.C.G, .int .i64 a1.e0.C.B, .int .i64 a1.e0.C.A, .int .i64 a1.e0.U, .int .i64 a1.e0.V, .int .i64 a1.e1.X, .int .i64 a1.e1.Y, .int .i64 a1.e1.Z, .int .i64 a1.e1.C.R, .int .i64 a1.e1.C.G, .int .i64 a1.e1.C.B, .int .i64 a1.e1.C.A, .int .i64 a1.e1.U, .int .i64 a1.e1.V, .int .i64 a1.e2.X, .int .i64 a1.e2.Y, .int .i64 a1.e2.Z, .int .i64 a1.e2.C.R, .int .i64 a1.e2.C.G, .int .i64 a1.e2.C.B, .int .i64 a1.e2.C.A, .int .i64 a1.e2.U, .int .i64 a1.e2.V]⟩] (EL25_GeomCulls r) := by
  have IH13 := lL25_GeomCulls a0 a1 K
  refine Con.lift Try.func3 (by kernel_rfl) rfl (fun _ => rfl) ?_
  unfold FL25_GeomCulls
  exact
    L.call mixed (kRst a0) (by kernel_rfl) <|
    L.gu mixed 2 _ (by kernel_rfl)
      (fun h1 =>
      L.callO mixed (fun u2 : Bool => .bool u2) (cL25_awake K) (by kernel_rfl) (fun u2 hu2 =>
      L.ret _ mixed Try.func3 _ (by kernel_rfl) rfl))
      (fun h1 =>
      L.callO mixed (fun u3 : Int => .int .i64 u3) (cR25_Check K a1) (by kernel_rfl) (fun u3 hu3 =>
      L.br mixed 3 _ (by kernel_rfl)
        (fun h4 =>
        L.callO mixed (fun u5 : Bool => .bool u5) (cL25_awake K) (by kernel_rfl) (fun u5 hu5 =>
        L.ret _ mixed Try.func3 _ (by kernel_rfl) rfl))
        (fun h4 =>
        L.callO mixed (fun u6 : List TTri × Int => .tuple ⟨[lst u6.1, .int .i64 u6.2]⟩) (cgeom_Tris K ((⟨a0.M, a0.View, a0.Sciss, a0.DFn, a0.DPut, a0.St, a0.Bl, 0, a0.Tex, a0.Wrap, a0.Soft⟩ : TState)) a1) (by kernel_rfl) (fun u6 hu6 =>
        L.br mixed 12 _ (by kernel_rfl)
          (fun h7 =>
          L.ret _ mixed Try.func3 _ (by kernel_rfl) rfl)
          (fun h7 =>
          L.callO mixed (fun u8 : List TTri × Int => .tuple ⟨[lst u8.1, .int .i64 u8.2]⟩) (cgeom_Tris K ((⟨a0.M, a0.View, a0.Sciss, a0.DFn, a0.DPut, a0.St, a0.Bl, 1, a0.Tex, a0.Wrap, a0.Soft⟩ : TState)) a1) (by kernel_rfl) (fun u8 hu8 =>
          L.br mixed 12 _ (by kernel_rfl)
            (fun h9 =>
            L.ret _ mixed Try.func3 _ (by kernel_rfl) rfl)
            (fun h9 =>
            L.callO mixed (fun u10 : List TTri × Int => .tuple ⟨[lst u10.1, .int .i64 u10.2]⟩) (cgeom_Tris K ((⟨a0.M, a0.View, a0.Sciss, a0.DFn, a0.DPut, a0.St, a0.Bl, 2, a0.Tex, a0.Wrap, a0.Soft⟩ : TState)) a1) (by kernel_rfl) (fun u10 hu10 =>
            L.br mixed 12 _ (by kernel_rfl)
              (fun h11 =>
              L.ret _ mixed Try.func3 _ (by kernel_rfl) rfl)
              (fun h11 =>
              L.frzP mixed 28 5 2 0 0 [(lst u6.fst), (lst u8.fst), (lst u10.fst)] (by kernel_rfl) (by kernel_rfl) (by kernel_rfl) (by kernel_rfl) <|
              L.jumpG mixed 1 [5, 9] [] [] (by kernel_rfl) (by kernel_rfl) (by kernel_rfl) trivial (by kernel_rfl) (by kernel_rfl) (IH13 ((⟨u6.fst, u8.fst, u10.fst⟩ : A3LTTri)) 0))))))))))

end

section
open Go Go.Dt Go.Proofs Go.Proofs.Ytegmkkpdckolkaa.Clip Go.Proofs.Ytegmkkpdckolkaa.Pol Go.Proofs.Ytegmkkpdckolkaa.Wide
set_option linter.unusedVariables false
set_option linter.unusedSimpArgs false

/-! ### States with another way of culling -/
def cullS (s : TState) (cu : Int) : TState := ⟨s.M, s.View, s.Sciss, s.DFn, s.DPut, s.St, s.Bl, cu, s.Tex, s.Wrap, s.Soft⟩
theorem first9_all {e0 e1 e2 e3 e4 e5 e6 e7 e8 : Int} (h : Frag.first9 e0 e1 e2 e3 e4 e5 e6 e7 e8 = 0) : Frag.first9 e0 e1 e2 e3 e4 e5 0 e7 e8 = 0 := by
  unfold Frag.first9 at *
  (repeat' split at h) <;> simp_all
theorem st_cull {s : TState} {cu : Int} (h1 : 0 ≤ cu) (h2 : cu ≤ 2) (h : (Fst s != 0) = false) : (Fst (cullS s cu) != 0) = false := by
  have h : Fst s = 0 := by simpa using h
  have k : Frag.kind2 cu = 0 := by
    unfold Frag.kind2
    rw [if_neg (by omega), if_neg (by omega)]
  have e : Fst (cullS s cu) = 0 := by
    unfold Fst cullS Frag.stE
    simp only [k]
    exact first9_all h
  rw [e]; rfl
theorem awake_ok : ∀ K, 5000 < K → FL25_awake K = some true := fun K hK => by
  obtain ⟨n, rfl⟩ : ∃ n, K = n + 100 := ⟨K - 100, by omega⟩
  kernel_rfl
theorem trisL_len (s : TState) (t : A3TVertex) : (trisL s t).length ≤ 384 := by
  have := fan_len (l := spotL s t) s.Cull ((spotL s t).length - 2) 2
  have := spot_len (s := s) (t := t)
  unfold trisL
  omega

/-! ### How often -/
def eqT (a b : TTri) : Bool := bif false then !(b.S.e0.P.X == a.S.e0.P.X && (b.S.e0.P.Y == a.S.e0.P.Y && true) && (b.S.e0.Z == a.S.e0.Z && (b.S.e0.A.e0 == a.S.e0.A.e0 && (b.S.e0.A.e1 == a.S.e0.A.e1 && (b.S.e0.A.e2 == a.S.e0.A.e2 && (b.S.e0.A.e3 == a.S.e0.A.e3 && (b.S.e0.A.e4 == a.S.e0.A.e4 && (b.S.e0.A.e5 == a.S.e0.A.e5 && true))))) && true)) && (b.S.e1.P.X == a.S.e1.P.X && (b.S.e1.P.Y == a.S.e1.P.Y && true) && (b.S.e1.Z == a.S.e1.Z && (b.S.e1.A.e0 == a.S.e1.A.e0 && (b.S.e1.A.e1 == a.S.e1.A.e1 && (b.S.e1.A.e2 == a.S.e1.A.e2 && (b.S.e1.A.e3 == a.S.e1.A.e3 && (b.S.e1.A.e4 == a.S.e1.A.e4 && (b.S.e1.A.e5 == a.S.e1.A.e5 && true))))) && true)) && (b.S.e2.P.X == a.S.e2.P.X && (b.S.e2.P.Y == a.S.e2.P.Y && true) && (b.S.e2.Z == a.S.e2.Z && (b.S.e2.A.e0 == a.S.e2.A.e0 && (b.S.e2.A.e1 == a.S.e2.A.e1 && (b.S.e2.A.e2 == a.S.e2.A.e2 && (b.S.e2.A.e3 == a.S.e2.A.e3 && (b.S.e2.A.e4 == a.S.e2.A.e4 && (b.S.e2.A.e5 == a.S.e2.A.e5 && true))))) && true)) && true)) && (b.Area == a.Area && (b.Box.X0 == a.Box.X0 && (b.Box.Y0 == a.Box.Y0 && (b.Box.X1 == a.Box.X1 && (b.Box.Y1 == a.Box.Y1 && true))) && true))) else b.S.e0.P.X == a.S.e0.P.X && (b.S.e0.P.Y == a.S.e0.P.Y && true) && (b.S.e0.Z == a.S.e0.Z && (b.S.e0.A.e0 == a.S.e0.A.e0 && (b.S.e0.A.e1 == a.S.e0.A.e1 && (b.S.e0.A.e2 == a.S.e0.A.e2 && (b.S.e0.A.e3 == a.S.e0.A.e3 && (b.S.e0.A.e4 == a.S.e0.A.e4 && (b.S.e0.A.e5 == a.S.e0.A.e5 && true))))) && true)) && (b.S.e1.P.X == a.S.e1.P.X && (b.S.e1.P.Y == a.S.e1.P.Y && true) && (b.S.e1.Z == a.S.e1.Z && (b.S.e1.A.e0 == a.S.e1.A.e0 && (b.S.e1.A.e1 == a.S.e1.A.e1 && (b.S.e1.A.e2 == a.S.e1.A.e2 && (b.S.e1.A.e3 == a.S.e1.A.e3 && (b.S.e1.A.e4 == a.S.e1.A.e4 && (b.S.e1.A.e5 == a.S.e1.A.e5 && true))))) && true)) && (b.S.e2.P.X == a.S.e2.P.X && (b.S.e2.P.Y == a.S.e2.P.Y && true) && (b.S.e2.Z == a.S.e2.Z && (b.S.e2.A.e0 == a.S.e2.A.e0 && (b.S.e2.A.e1 == a.S.e2.A.e1 && (b.S.e2.A.e2 == a.S.e2.A.e2 && (b.S.e2.A.e3 == a.S.e2.A.e3 && (b.S.e2.A.e4 == a.S.e2.A.e4 && (b.S.e2.A.e5 == a.S.e2.A.e5 && true))))) && true)) && true)) && (b.Area == a.Area && (b.Box.X0 == a.Box.X0 && (b.Box.Y0 == a.Box.Y0 && (b.Box.X1 == a.Box.X1 && (b.Box.Y1 == a.Box.Y1 && true))) && true))
theorem many_succ (l : List TTri) (x : TTri) (K : Nat) (n i : Int) : FL25_many_3 l x (K + 1) n i = (bif decide (i < (l.length : Int)) then bif inR i l.length then bif eqT x (getR l i.toNat) then FL25_many_3 l x K (IntKind.i64.wrap (n + 1)) (IntKind.i64.wrap (i + 1)) else FL25_many_3 l x K n (IntKind.i64.wrap (i + 1)) else none else some n) := rfl
theorem many_loop {l : List TTri} {x : TTri} (hn : l.length ≤ 1000) : ∀ (d i K n : Nat), i + d = l.length → d < K → n + d ≤ 2000 → FL25_many_3 l x K (n : Int) (i : Int) = some ((n + (l.drop i).countP (eqT x) : Nat) : Int)
  | 0, i, K + 1, n, h, hK, hb => by
    have e1 : decide ((i : Int) < (l.length : Int)) = false := decide_eq_false (by omega)
    rw [many_succ, List.drop_of_length_le (by omega)]
    simp only [e1, cond_false]
    rfl
  | d + 1, i, K + 1, n, h, hK, hb => by
    have e1 : decide ((i : Int) < (l.length : Int)) = true := decide_eq_true (by omega)
    have hi : i < l.length := by omega
    have e2 := inR_ok hi
    rw [many_succ, drop_getR l hi, List.countP_cons]
    simp only [e1, e2, cond_true, Int.toNat_natCast, wrap_nxt (show i ≤ 1000000 by omega), wrap_nxt (show n ≤ 1000000 by omega)]
    cases hc : eqT x (getR l i) with
    | false =>
      simp only [cond_false]
      rw [many_loop hn d (i + 1) K n (by omega) (by omega) (by omega), if_neg (by decide)]
      rfl
    | true =>
      simp only [cond_true]
      rw [many_loop hn d (i + 1) K (n + 1) (by omega) (by omega) (by omega), if_pos trivial]
      congr 2; omega
  | _, _, 0, _, _, hK, _ => absurd hK (Nat.not_lt_zero _)
theorem FL25_many_eq {l : List TTri} {x : TTri} (hn : l.length ≤ 1000) {K : Nat} (hK : 1000 < K) : FL25_many K l x = some ((l.countP (eqT x) : Nat) : Int) := by
  unfold FL25_many
  have h := many_loop (x := x) hn l.length 0 K 0 (by omega) (by omega) (by omega)
  rw [Nat.zero_add] at h
  exact h
def one (q : A3TSpot) (cu : Int) : List TTri := if (setV q cu).2 = true then [(setV q cu).1] else []
theorem one_split (q : A3TSpot) (f : TTri → Bool) : (one q 0).countP f = (one q 1).countP f + (one q 2).countP f ∧ (one q 0).length = (one q 1).length + (one q 2).length := by
  unfold one
  rcases Int.lt_trichotomy (sideQ q) 0 with h | h | h
  · have e : ∀ cu, setV q cu = if cu = 1 then (zT, false) else (⟨swp q, IntKind.i64.wrap (0 - sideQ q), Vbox (swp q)⟩, true) := fun cu => by unfold setV; rw [if_neg (by omega), if_pos h]
    have e0 := e 0
    have e1 := e 1
    have e2 := e 2
    rw [if_neg (by decide)] at e0 e2
    rw [if_pos rfl] at e1
    rw [e0, e1, e2]
    simp
  · have e : ∀ cu, setV q cu = (zT, false) := fun cu => by unfold setV; rw [if_pos h]
    rw [e 0, e 1, e 2]
    simp
  · have e : ∀ cu, setV q cu = if cu = 2 then (zT, false) else (⟨q, sideQ q, Vbox q⟩, true) := fun cu => by unfold setV; rw [if_neg (by omega), if_neg (by omega)]
    have e0 := e 0
    have e1 := e 1
    have e2 := e 2
    rw [if_neg (by decide)] at e0 e1
    rw [if_pos rfl] at e2
    rw [e0, e1, e2]
    simp
theorem fan_split (l : List TSpot) (f : TTri → Bool) : ∀ (d i : Nat), (fan 0 l d i).countP f = (fan 1 l d i).countP f + (fan 2 l d i).countP f ∧ (fan 0 l d i).length = (fan 1 l d i).length + (fan 2 l d i).length
  | 0, i => ⟨rfl, rfl⟩
  | d + 1, i => by
    obtain ⟨h1, h2⟩ := fan_split l f d (i + 1)
    obtain ⟨h3, h4⟩ := one_split ⟨getR l 0, getR l (i - 1), getR l i⟩ f
    have e : ∀ cu, fan cu l (d + 1) i = one ⟨getR l 0, getR l (i - 1), getR l i⟩ cu ++ fan cu l d (i + 1) := fun cu => rfl
    rw [e, e, e, List.countP_append, List.countP_append, List.countP_append, List.length_append, List.length_append, List.length_append]
    omega
theorem culls_loop {s : TState} {t : A3TVertex} {x : A3LTTri} (h0 : x.e0.length ≤ 400) (h1 : x.e1.length ≤ 400) (h2 : x.e2.length ≤ 400) (hc : ∀ f : TTri → Bool, x.e0.countP f = x.e1.countP f + x.e2.countP f) (hl : x.e0.length = x.e1.length + x.e2.length) :
    ∀ (d i K : Nat), i + d = x.e0.length → 5001 + d < K → FL25_GeomCulls_13 s t K x (i : Int) = some true
  | 0, i, K + 1, h, hK => by
    have e1 : decide ((i : Int) < (x.e0.length : Int)) = false := decide_eq_false (by omega)
    have e2 : ((x.e0.length : Int) == IntKind.i64.wrap ((x.e1.length : Int) + (x.e2.length : Int))) = true := by
      rw [wrap_i64_of (by omega) (by omega), hl]
      simp
    rw [FL25_GeomCulls_13]
    simp only [e1, e2, cond_false, cond_true, awake_ok K (by omega), Option.bind_some]
  | d + 1, i, K + 1, h, hK => by
    have e1 : decide ((i : Int) < (x.e0.length : Int)) = true := decide_eq_true (by omega)
    have e2 := inR_ok (show i < x.e0.length by omega)
    have m0 := fun y => FL25_many_eq (l := x.e0) (x := y) (by omega) (show 1000 < K by omega)
    have m1 := fun y => FL25_many_eq (l := x.e1) (x := y) (by omega) (show 1000 < K by omega)
    have m2 := fun y => FL25_many_eq (l := x.e2) (x := y) (by omega) (show 1000 < K by omega)
    have c := hc (eqT (getR x.e0 i))
    have b1 := List.countP_le_length (p := eqT (getR x.e0 i)) (l := x.e1)
    have b2 := List.countP_le_length (p := eqT (getR x.e0 i)) (l := x.e2)
    have e3 : (((x.e0.countP (eqT (getR x.e0 i)) : Nat) : Int) != IntKind.i64.wrap (((x.e1.countP (eqT (getR x.e0 i)) : Nat) : Int) + ((x.e2.countP (eqT (getR x.e0 i)) : Nat) : Int))) = false := by
      rw [wrap_i64_of (by omega) (by omega), c]
      simp
    rw [FL25_GeomCulls_13]
    simp only [e1, e2, cond_true, Int.toNat_natCast, m0, m1, m2, Option.bind_some, e3, cond_false, wrap_nxt (show i ≤ 1000000 by omega)]
    exact culls_loop h0 h1 h2 hc hl d (i + 1) K (by omega) (by omega)
  | _, _, 0, _, hK => absurd hK (Nat.not_lt_zero _)
theorem spot_cull (s : TState) (t : A3TVertex) (cu : Int) : spotL (cullS s cu) t = spotL s t := rfl
theorem tris_cull (s : TState) (t : A3TVertex) (cu : Int) : trisL (cullS s cu) t = fan cu (spotL s t) ((spotL s t).length - 2) 2 := by
  unfold trisL
  rw [spot_cull]
  rfl
theorem culls_end (s : TState) (t : A3TVertex) {K : Nat} (hK : 9000 < K) : FL25_GeomCulls_13 s t K ⟨trisL (cullS s 0) t, trisL (cullS s 1) t, trisL (cullS s 2) t⟩ 0 = some true := by
  have l0 := trisL_len (cullS s 0) t
  have l1 := trisL_len (cullS s 1) t
  have l2 := trisL_len (cullS s 2) t
  have sp : ∀ f : TTri → Bool, (trisL (cullS s 0) t).countP f = (trisL (cullS s 1) t).countP f + (trisL (cullS s 2) t).countP f ∧ (trisL (cullS s 0) t).length = (trisL (cullS s 1) t).length + (trisL (cullS s 2) t).length := fun f => by
    rw [tris_cull, tris_cull, tris_cull]
    exact fan_split (spotL s t) f _ 2
  generalize trisL (cullS s 0) t = q0 at *
  generalize trisL (cullS s 1) t = q1 at *
  generalize trisL (cullS s 2) t = q2 at *
  have h := culls_loop (s := s) (t := t) (x := ⟨q0, q1, q2⟩) (Nat.le_trans l0 (by decide)) (Nat.le_trans l1 (by decide)) (Nat.le_trans l2 (by decide)) (fun f => (sp f).1) (sp fun _ => true).2 q0.length 0 K (Nat.zero_add _) (by omega)
  exact h
theorem FL25_GeomCulls_eq (s : TState) (t : A3TVertex) {K : Nat} (hK : 9000 < K) : FL25_GeomCulls K s t = some true := by
  have aw := awake_ok K (by omega)
  unfold FL25_GeomCulls
  cases hs : (Fst s != 0) with
  | true =>
    simp only [Option.bind_some, cond_true, aw]
  | false =>
    rw [FR25_Check_eq]
    rcases chk_cases (t := t) with ⟨e, h1, h2⟩ | ⟨h1, ht⟩
    · rw [h1]
      simp only [Option.bind_some, cond_true, cond_false, aw, h2]
    · have z0 : ((0 : Int) != 0) = false := rfl
      have e0 : Fgeom_Tris K ⟨s.M, s.View, s.Sciss, s.DFn, s.DPut, s.St, s.Bl, 0, s.Tex, s.Wrap, s.Soft⟩ t = some (trisL (cullS s 0) t, 0) := Fgeom_Tris_eq (s := cullS s 0) (st_cull (cu := 0) (by decide) (by decide) hs) ht h1 (show 5000 < K by omega)
      have e1 : Fgeom_Tris K ⟨s.M, s.View, s.Sciss, s.DFn, s.DPut, s.St, s.Bl, 1, s.Tex, s.Wrap, s.Soft⟩ t = some (trisL (cullS s 1) t, 0) := Fgeom_Tris_eq (s := cullS s 1) (st_cull (cu := 1) (by decide) (by decide) hs) ht h1 (show 5000 < K by omega)
      have e2 : Fgeom_Tris K ⟨s.M, s.View, s.Sciss, s.DFn, s.DPut, s.St, s.Bl, 2, s.Tex, s.Wrap, s.Soft⟩ t = some (trisL (cullS s 2) t, 0) := Fgeom_Tris_eq (s := cullS s 2) (st_cull (cu := 2) (by decide) (by decide) hs) ht h1 (show 5000 < K by omega)
      rw [h1]
      simp only [Option.bind_some, cond_false, z0, e0, e1, e2]
      exact culls_end s t hK
theorem geomCulls_walk (s : TState) (t : A3TVertex) : Con Try.prog 3 [.agg ⟨flTState.cells s⟩, .agg ⟨flA3TVertex.cells t⟩] (.bool true) := cL25_GeomCulls 10000 s t true (FL25_GeomCulls_eq s t (by decide))

end

end Go.Proofs.Ytegmkkpdckolkaa.Lf
