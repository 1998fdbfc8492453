/- Several texts in one: GKz1, LGz1, G2z1. -/
import Derived.Test.YtegmkkpdckolkaaQC17
import Derived.Test.YtegmkkpdckolkaaQC18
import Derived.Test.YtegmkkpdckolkaaQC26
import Derived.Test.YtegmkkpdckolkaaQC27
import Derived.Test.YtegmkkpdckolkaaQC29
namespace Go.Proofs.Ytegmkkpdckolkaa.Lf

section
open Go Go.Dt Go.Proofs Go.Proofs.Ytegmkkpdckolkaa.Clip Go.Proofs.Ytegmkkpdckolkaa.Pol
set_option linter.unusedVariables false

abbrev cr (c : TCorner) : Cr := ⟨c.P.X, c.P.Y, c.P.Z, c.P.W, c.A.e0, c.A.e1, c.A.e2, c.A.e3, c.A.e4, c.A.e5⟩
abbrev uncr (c : Cr) : TCorner := ⟨⟨c.x, c.y, c.z, c.w⟩, ⟨c.a, c.b, c.c, c.d, c.e, c.f⟩⟩
def in30 (n : Int) : Bool := decide (-1073741824 ≤ n) && decide (n ≤ 1073741824)
theorem in30_ok {n : Int} (h : in30 n = true) : ok30 n := by
  simp only [in30, Bool.and_eq_true, decide_eq_true_eq] at h
  exact h
theorem in30_mk {n : Int} (h : ok30 n) : in30 n = true := by
  simp only [in30, Bool.and_eq_true, decide_eq_true_eq]
  exact h
def inK (k : Int) : Bool := decide (0 ≤ k) && decide (k ≤ 6)
theorem inK_ok {k : Int} (h : inK k = true) : 0 ≤ k ∧ k ≤ 6 := by
  simp only [inK, Bool.and_eq_true, decide_eq_true_eq] at h
  exact h
theorem inK_mk {k : Int} (h : 0 ≤ k ∧ k ≤ 6) : inK k = true := by
  simp only [inK, Bool.and_eq_true, decide_eq_true_eq]
  exact h
def inV (v : TVec) : Bool := in30 v.X && (in30 v.Y && (in30 v.Z && in30 v.W))
theorem inV_ok {v : TVec} (h : inV v = true) : mayV v.X v.Y v.Z v.W := by
  simp only [inV, Bool.and_eq_true] at h
  exact ⟨in30_ok h.1, in30_ok h.2.1, in30_ok h.2.2.1, in30_ok h.2.2.2⟩
theorem inV_mk {v : TVec} (h : mayV v.X v.Y v.Z v.W) : inV v = true := by
  simp only [inV, Bool.and_eq_true]
  exact ⟨in30_mk h.1, in30_mk h.2.1, in30_mk h.2.2.1, in30_mk h.2.2.2⟩

def Fmay (c : TCorner) : Bool := mayB (cr c)
theorem kmay (c : TCorner) : Con Try.prog 77 [.agg ⟨flTCorner.cells c⟩] (.bool (Fmay c)) := c_may _ _ _ _ _ _ _ _ _ _
def Ffar (K : Nat) (k : Int) (v : TVec) : Option Int := bif inK k && inV v then some (farI k v.X v.Y v.Z v.W) else none
theorem kfar (K : Nat) (k : Int) (v : TVec) : ∀ r, Ffar K k v = some r → Con Try.prog 78 [.int .i64 k, .agg ⟨flTVec.cells v⟩] (.int .i64 r) := fun r hr => by
  unfold Ffar at hr
  cases h : (inK k && inV v) with
  | false => rw [h] at hr; cases hr
  | true =>
    rw [h] at hr; cases hr
    rw [Bool.and_eq_true] at h
    exact c_far (inK_ok h.1) (inV_ok h.2)
theorem kRfar (K : Nat) (k : Int) (v : TVec) : ∀ r, Ffar K k v = some r → Con Try.prog 11 [.int .i64 k, .agg ⟨flTVec.cells v⟩] (.int .i64 r) := fun r hr => by
  unfold Ffar at hr
  cases h : (inK k && inV v) with
  | false => rw [h] at hr; cases hr
  | true =>
    rw [h] at hr; cases hr
    rw [Bool.and_eq_true] at h
    exact c_rfar (inK_ok h.1) (inV_ok h.2)
def Fcut (K : Nat) (k : Int) (a b : TCorner) : Option TCorner := bif inK k && (mayB (cr a) && (mayB (cr b) && (decide (0 ≤ farC k (cr a)) && !decide (0 ≤ farC k (cr b))))) then some (uncr (cutC k (cr a) (cr b))) else none
theorem Fcut_some {K : Nat} {k : Int} {a b r : TCorner} (hr : Fcut K k a b = some r) : r = uncr (cutC k (cr a) (cr b)) ∧ (0 ≤ k ∧ k ≤ 6) ∧ mayR (cr a) ∧ mayR (cr b) ∧ 0 ≤ farC k (cr a) ∧ ¬ 0 ≤ farC k (cr b) := by
  unfold Fcut at hr
  cases h : (inK k && (mayB (cr a) && (mayB (cr b) && (decide (0 ≤ farC k (cr a)) && !decide (0 ≤ farC k (cr b)))))) with
  | false => rw [h] at hr; cases hr
  | true =>
    rw [h] at hr; cases hr
    simp only [Bool.and_eq_true, Bool.not_eq_true', decide_eq_true_eq, decide_eq_false_iff_not] at h
    exact ⟨rfl, inK_ok h.1, mayB_iff.1 h.2.1, mayB_iff.1 h.2.2.1, h.2.2.2.1, h.2.2.2.2⟩
theorem Fcut_eq {K : Nat} {k : Int} {a b : TCorner} (h1 : 0 ≤ k ∧ k ≤ 6) (h2 : mayR (cr a)) (h3 : mayR (cr b)) (h4 : 0 ≤ farC k (cr a)) (h5 : ¬ 0 ≤ farC k (cr b)) : Fcut K k a b = some (uncr (cutC k (cr a) (cr b))) := by
  unfold Fcut
  rw [inK_mk h1, mayB_iff.2 h2, mayB_iff.2 h3, decide_eq_true h4, decide_eq_false h5]
  rfl
theorem kcut (K : Nat) (k : Int) (a b : TCorner) : ∀ r, Fcut K k a b = some r → Con Try.prog 79 [.int .i64 k, .agg ⟨flTCorner.cells a⟩, .agg ⟨flTCorner.cells b⟩] (.agg ⟨flTCorner.cells r⟩) := fun r hr => by
  obtain ⟨rfl, h1, h2, h3, h4, h5⟩ := Fcut_some hr
  exact c_cutA h1 h2 h3 h4 h5
def Fst (s : TState) : Int := Frag.stE s.M.e0 s.M.e1 s.M.e2 s.M.e3 s.M.e4 s.M.e5 s.M.e6 s.M.e7 s.M.e8 s.M.e9 s.M.e10 s.M.e11 s.M.e12 s.M.e13 s.M.e14 s.M.e15 s.View.X0 s.View.Y0 s.View.X1 s.View.Y1 s.Sciss.X0 s.Sciss.Y0 s.Sciss.X1 s.Sciss.Y1 s.DFn s.St.Fn s.St.Ref s.St.Read s.St.Write s.St.Fail s.St.ZFail s.St.Pass s.Bl.Src s.Bl.Dst s.Bl.Eq s.Bl.Mask s.Cull s.Tex s.Wrap
theorem kst (s : TState) : Con Try.prog 22 [.agg ⟨flTState.cells s⟩] (.int .i64 (Fst s)) := Frag.c_check
theorem kRst (s : TState) : Con Try.prog 5 [.agg ⟨flTState.cells s⟩] (.int .i64 (Fst s)) := Frag.c_rcheck
def FmayM (m : TMat) : Bool := Frag.mayM m.e0 m.e1 m.e2 m.e3 m.e4 m.e5 m.e6 m.e7 m.e8 m.e9 m.e10 m.e11 m.e12 m.e13 m.e14 m.e15
theorem kmayM (m : TMat) : Con Try.prog 73 [.agg ⟨flTMat.cells m⟩] (.bool (FmayM m)) := Frag.c_mayM
def Fview (r : TRect) : Int := if Frag.viewP r.X0 r.Y0 r.X1 r.Y1 then 0 else 12
theorem kview (r : TRect) : Con Try.prog 39 [.agg ⟨flTRect.cells r⟩] (.int .i64 (Fview r)) := Frag.c_view
def Fsat (n lo hi : Int) : Int := Frag.sat n lo hi
theorem ksat (n lo hi : Int) : Con Try.prog 63 [.int .i64 n, .int .i64 lo, .int .i64 hi] (.int .i64 (Fsat n lo hi)) := Frag.c_sat n lo hi
theorem kRsat (n lo hi : Int) : Con Try.prog 28 [.int .i64 n, .int .i64 lo, .int .i64 hi] (.int .i64 (Fsat n lo hi)) := Frag.c_rsat3
def Ftint (c : TColor) : Bool := Frag.rightC c.R c.G c.B c.A
theorem ktint (c : TColor) : Con Try.prog 46 [.agg ⟨flTColor.cells c⟩] (.bool (Ftint c)) := Frag.c_tint _ _ _ _
theorem kRtint (c : TColor) : Con Try.prog 20 [.agg ⟨flTColor.cells c⟩] (.bool (Ftint c)) := Frag.c_rightC _ _ _ _
def Fmays (s : TSpot) : Bool := decide (Tri.mayS s.P.X s.P.Y s.Z s.A.e0 s.A.e1 s.A.e2 s.A.e3 s.A.e4 s.A.e5)
theorem kmays (s : TSpot) : Con Try.prog 50 [.agg ⟨flTSpot.cells s⟩] (.bool (Fmays s)) := Tri.c_mayS _ _ _ _ _ _ _ _ _
def Fside (a b c : TPoint) : Int := Bary.sideR a.X a.Y b.X b.Y c.X c.Y
theorem kRside (a b c : TPoint) : Con Try.prog 30 [.agg ⟨flTPoint.cells a⟩, .agg ⟨flTPoint.cells b⟩, .agg ⟨flTPoint.cells c⟩] (.int .i64 (Fside a b c)) := Bary.c_rside _ _ _ _ _ _
def Fedge (a b c : TPoint) : Int × Int := (bif Bary.ok3 a.X a.Y b.X b.Y c.X c.Y then Fside a b c else 0, bif Bary.ok3 a.X a.Y b.X b.Y c.X c.Y then 0 else 3)
theorem kedge (a b c : TPoint) : Con Try.prog 51 [.agg ⟨flTPoint.cells a⟩, .agg ⟨flTPoint.cells b⟩, .agg ⟨flTPoint.cells c⟩] (.tuple ⟨[.int .i64 (Fedge a b c).1, .int .i64 (Fedge a b c).2]⟩) := Bary.c_edge _ _ _ _ _ _
def Vbox (s : A3TSpot) : TRect := ⟨Tri.bx0 s.e0.P.X s.e1.P.X s.e2.P.X, Tri.bx0 s.e0.P.Y s.e1.P.Y s.e2.P.Y, Tri.bx1 s.e0.P.X s.e1.P.X s.e2.P.X, Tri.bx1 s.e0.P.Y s.e1.P.Y s.e2.P.Y⟩
def Okbox (s : A3TSpot) : Bool := Bary.okP s.e0.P.X s.e0.P.Y && (Bary.okP s.e1.P.X s.e1.P.Y && Bary.okP s.e2.P.X s.e2.P.Y)
def Fbox (K : Nat) (s : A3TSpot) : Option TRect := bif Okbox s then some (Vbox s) else none
theorem Fbox_some {K : Nat} {s : A3TSpot} {r : TRect} (h : Fbox K s = some r) : Okbox s = true ∧ r = Vbox s := by
  unfold Fbox at h
  cases e : Okbox s with
  | false => rw [e] at h; cases h
  | true => rw [e] at h; cases h; exact ⟨rfl, rfl⟩
theorem kbox (K : Nat) (s : A3TSpot) : ∀ r, Fbox K s = some r → Con Try.prog 52 [.agg ⟨flA3TSpot.cells s⟩] (.agg ⟨flTRect.cells r⟩) := fun r hr => by
  obtain ⟨h, rfl⟩ := Fbox_some hr
  simp only [Okbox, Bool.and_eq_true] at h
  exact Tri.c_box h.1 h.2.1 h.2.2
theorem kRbox (K : Nat) (s : A3TSpot) : ∀ r, Fbox K s = some r → Con Try.prog 31 [.agg ⟨flA3TSpot.cells s⟩] (.agg ⟨flTRect.cells r⟩) := fun r hr => by
  obtain ⟨h, rfl⟩ := Fbox_some hr
  simp only [Okbox, Bool.and_eq_true] at h
  exact Tri.c_rbox h.1 h.2.1 h.2.2

end

section
open Go Go.Dt Go.Proofs
set_option linter.unusedVariables false

/-! ### 72 -/
abbrev Evec_list : A4I → Value := fun r => .agg ⟨[.int .i64 r.e0, .int .i64 r.e1, .int .i64 r.e2, .int .i64 r.e3]⟩
def Fvec_list (K : Nat) (a0 : TVec) : Option A4I :=
  some ((⟨a0.X, a0.Y, a0.Z, a0.W⟩ : A4I))
theorem cvec_list (K : Nat) (a0 : TVec) : ∀ r, Fvec_list K a0 = some r → Con Try.prog 72 [.agg ⟨[.int .i64 a0.X, .int .i64 a0.Y, .int .i64 a0.Z, .int .i64 a0.W]⟩] (Evec_list r) := by
  refine Con.lift Try.func72 (by kernel_rfl) rfl (fun _ => rfl) ?_
  unfold Fvec_list
  exact
    L.ret _ mixed Try.func72 _ (by kernel_rfl) rfl
/-! ### 76 -/
abbrev Evec_Place : TVec → Value := fun r => .agg ⟨[.int .i64 r.X, .int .i64 r.Y, .int .i64 r.Z, .int .i64 r.W]⟩
def Fvec_Place (K : Nat) (a0 : TVertex) : Option TVec :=
  some ((⟨a0.X, a0.Y, a0.Z, 256⟩ : TVec))
theorem cvec_Place (K : Nat) (a0 : TVertex) : ∀ r, Fvec_Place K a0 = some r → Con Try.prog 76 [.agg ⟨[.int .i64 a0.X, .int .i64 a0.Y, .int .i64 a0.Z, .int .i64 a0.C.R, .int .i64 a0.C.G, .int .i64 a0.C.B, .int .i64 a0.C.A, .int .i64 a0.U, .int .i64 a0.V]⟩] (Evec_Place r) := by
  refine Con.lift Try.func76 (by kernel_rfl) rfl (fun _ => rfl) ?_
  unfold Fvec_Place
  exact
    L.ret _ mixed Try.func76 _ (by kernel_rfl) rfl
/-! ### 74 -/
abbrev Evec_within : Bool → Value := fun r => .bool r
def Fvec_within (K : Nat) (a0 : Int) (a1 : Int) : Option Bool :=
  bif (decide (a0 ≥ IntKind.i64.wrap (0 - a1))) then
    some (bif true then decide (a0 ≤ a1) else false)
  else
    some false
theorem cvec_within (K : Nat) (a0 : Int) (a1 : Int) : ∀ r, Fvec_within K a0 a1 = some r → Con Try.prog 74 [.int .i64 a0, .int .i64 a1] (Evec_within r) := by
  refine Con.lift Try.func74 (by kernel_rfl) rfl (fun _ => rfl) ?_
  unfold Fvec_within
  exact
    L.gu mixed 11 _ (by kernel_rfl)
      (fun h1 =>
      L.ret _ mixed Try.func74 _ (by kernel_rfl) rfl)
      (fun h1 =>
      L.ret _ mixed Try.func74 _ (by kernel_rfl) rfl)
/-! ### 57 -/
abbrev Evec_Apply : TVec × Int → Value := fun r => .tuple ⟨[.agg ⟨[.int .i64 r.1.X, .int .i64 r.1.Y, .int .i64 r.1.Z, .int .i64 r.1.W]⟩, .int .i64 r.2]⟩
def Fvec_Apply (K : Nat) (a0 : TMat) (a1 : TVec) : Option (TVec × Int) :=
  (Fvec_list K a1).bind fun u1 =>
  bif (!FmayM a0) then
    some (((⟨0, 0, 0, 0⟩ : TVec), 3))
  else
    (Fvec_within K a1.X 1073741824).bind fun u3 =>
    bif (bif false then true else !u3) then
      some (((⟨0, 0, 0, 0⟩ : TVec), 3))
    else
      (Fvec_within K a1.Y 1073741824).bind fun u5 =>
      bif (bif false then true else !u5) then
        some (((⟨0, 0, 0, 0⟩ : TVec), 3))
      else
        (Fvec_within K a1.Z 1073741824).bind fun u7 =>
        bif (bif false then true else !u7) then
          some (((⟨0, 0, 0, 0⟩ : TVec), 3))
        else
          (Fvec_within K a1.W 1073741824).bind fun u9 =>
          bif (bif false then true else !u9) then
            some (((⟨0, 0, 0, 0⟩ : TVec), 3))
          else
            some (((⟨(IntKind.i64.wrap (IntKind.i64.wrap (IntKind.i64.wrap (IntKind.i64.wrap (0 + IntKind.i64.wrap (a0.e0 * u1.e0)) + IntKind.i64.wrap (a0.e1 * u1.e1)) + IntKind.i64.wrap (a0.e2 * u1.e2)) + IntKind.i64.wrap (a0.e3 * u1.e3))).fdiv 65536, (IntKind.i64.wrap (IntKind.i64.wrap (IntKind.i64.wrap (IntKind.i64.wrap (0 + IntKind.i64.wrap (a0.e4 * u1.e0)) + IntKind.i64.wrap (a0.e5 * u1.e1)) + IntKind.i64.wrap (a0.e6 * u1.e2)) + IntKind.i64.wrap (a0.e7 * u1.e3))).fdiv 65536, (IntKind.i64.wrap (IntKind.i64.wrap (IntKind.i64.wrap (IntKind.i64.wrap (0 + IntKind.i64.wrap (a0.e8 * u1.e0)) + IntKind.i64.wrap (a0.e9 * u1.e1)) + IntKind.i64.wrap (a0.e10 * u1.e2)) + IntKind.i64.wrap (a0.e11 * u1.e3))).fdiv 65536, (IntKind.i64.wrap (IntKind.i64.wrap (IntKind.i64.wrap (IntKind.i64.wrap (0 + IntKind.i64.wrap (a0.e12 * u1.e0)) + IntKind.i64.wrap (a0.e13 * u1.e1)) + IntKind.i64.wrap (a0.e14 * u1.e2)) + IntKind.i64.wrap (a0.e15 * u1.e3))).fdiv 65536⟩ : TVec), 0))
theorem cvec_Apply (K : Nat) (a0 : TMat) (a1 : TVec) : ∀ r, Fvec_Apply K a0 a1 = some r → Con Try.prog 57 [.agg ⟨[.int .i64 a0.e0, .int .i64 a0.e1, .int .i64 a0.e2, .int .i64 a0.e3, .int .i64 a0.e4, .int .i64 a0.e5, .int .i64 a0.e6, .int .i64 a0.e7, .int .i64 a0.e8, .int .i64 a0.e9, .int .i64 a0.e10, .int .i64 a0.e11, .int .i64 a0.e12, .int .i64 a0.e13, .int .i64 a0.e14, .int .i64 a0.e15]⟩, .agg ⟨[.int .i64 a1.X, .int .i64 a1.Y, .int .i64 a1.Z, .int .i64 a1.W]⟩] (Evec_Apply r) := by
  refine Con.lift Try.func57 (by kernel_rfl) rfl (fun _ => rfl) ?_
  unfold Fvec_Apply
  exact
    L.callO mixed (fun u1 : A4I => .agg ⟨[.int .i64 u1.e0, .int .i64 u1.e1, .int .i64 u1.e2, .int .i64 u1.e3]⟩) (cvec_list K a1) (by kernel_rfl) (fun u1 hu1 =>
    L.call mixed (kmayM a0) (by kernel_rfl) <|
    L.gu mixed 2 _ (by kernel_rfl)
      (fun h2 =>
      L.ret _ mixed Try.func57 _ (by kernel_rfl) rfl)
      (fun h2 =>
      L.callO mixed (fun u3 : Bool => .bool u3) (cvec_within K a1.X 1073741824) (by kernel_rfl) (fun u3 hu3 =>
      L.gu mixed 3 _ (by kernel_rfl)
        (fun h4 =>
        L.ret _ mixed Try.func57 _ (by kernel_rfl) rfl)
        (fun h4 =>
        L.callO mixed (fun u5 : Bool => .bool u5) (cvec_within K a1.Y 1073741824) (by kernel_rfl) (fun u5 hu5 =>
        L.gu mixed 3 _ (by kernel_rfl)
          (fun h6 =>
          L.ret _ mixed Try.func57 _ (by kernel_rfl) rfl)
          (fun h6 =>
          L.callO mixed (fun u7 : Bool => .bool u7) (cvec_within K a1.Z 1073741824) (by kernel_rfl) (fun u7 hu7 =>
          L.gu mixed 3 _ (by kernel_rfl)
            (fun h8 =>
            L.ret _ mixed Try.func57 _ (by kernel_rfl) rfl)
            (fun h8 =>
            L.callO mixed (fun u9 : Bool => .bool u9) (cvec_within K a1.W 1073741824) (by kernel_rfl) (fun u9 hu9 =>
            L.br mixed 3 _ (by kernel_rfl)
              (fun h10 =>
              L.ret _ mixed Try.func57 _ (by kernel_rfl) rfl)
              (fun h10 =>
              L.ret _ mixed Try.func57 _ (by kernel_rfl) rfl))))))))))
/-! ### 64 -/
abbrev Efetch_Corner : TCorner × Int → Value := fun r => .tuple ⟨[.agg ⟨[.int .i64 r.1.P.X, .int .i64 r.1.P.Y, .int .i64 r.1.P.Z, .int .i64 r.1.P.W, .int .i64 r.1.A.e0, .int .i64 r.1.A.e1, .int .i64 r.1.A.e2, .int .i64 r.1.A.e3, .int .i64 r.1.A.e4, .int .i64 r.1.A.e5]⟩, .int .i64 r.2]⟩
def Ffetch_Corner (K : Nat) (a0 : TMat) (a1 : TVertex) : Option (TCorner × Int) :=
  (Fvec_Place K a1).bind fun u1 =>
  (Fvec_Apply K a0 u1).bind fun u2 =>
  bif (u2.snd != 0) then
    some (((⟨(⟨0, 0, 0, 0⟩ : TVec), (⟨0, 0, 0, 0, 0, 0⟩ : A6I)⟩ : TCorner), u2.snd))
  else
    some (((⟨u2.fst, (⟨a1.C.R, a1.C.G, a1.C.B, a1.C.A, a1.U, a1.V⟩ : A6I)⟩ : TCorner), 0))
theorem cfetch_Corner (K : Nat) (a0 : TMat) (a1 : TVertex) : ∀ r, Ffetch_Corner K a0 a1 = some r → Con Try.prog 64 [.agg ⟨[.int .i64 a0.e0, .int .i64 a0.e1, .int .i64 a0.e2, .int .i64 a0.e3, .int .i64 a0.e4, .int .i64 a0.e5, .int .i64 a0.e6, .int .i64 a0.e7, .int .i64 a0.e8, .int .i64 a0.e9, .int .i64 a0.e10, .int .i64 a0.e11, .int .i64 a0.e12, .int .i64 a0.e13, .int .i64 a0.e14, .int .i64 a0.e15]⟩, .agg ⟨[.int .i64 a1.X, .int .i64 a1.Y, .int .i64 a1.Z, .int .i64 a1.C.R, .int .i64 a1.C.G, .int .i64 a1.C.B, .int .i64 a1.C.A, .int .i64 a1.U, .int .i64 a1.V]⟩] (Efetch_Corner r) := by
  refine Con.lift Try.func64 (by kernel_rfl) rfl (fun _ => rfl) ?_
  unfold Ffetch_Corner
  exact
    L.callO mixed (fun u1 : TVec => .agg ⟨[.int .i64 u1.X, .int .i64 u1.Y, .int .i64 u1.Z, .int .i64 u1.W]⟩) (cvec_Place K a1) (by kernel_rfl) (fun u1 hu1 =>
    L.callO mixed (fun u2 : TVec × Int => .tuple ⟨[.agg ⟨[.int .i64 u2.1.X, .int .i64 u2.1.Y, .int .i64 u2.1.Z, .int .i64 u2.1.W]⟩, .int .i64 u2.2]⟩) (cvec_Apply K a0 u1) (by kernel_rfl) (fun u2 hu2 =>
    L.br mixed 13 _ (by kernel_rfl)
      (fun h3 =>
      L.ret _ mixed Try.func64 _ (by kernel_rfl) rfl)
      (fun h3 =>
      L.ret _ mixed Try.func64 _ (by kernel_rfl) rfl)))
/-! ### 47 -/
abbrev Efetch_Corners : A3TCorner × Int → Value := fun r => .tuple ⟨[.agg ⟨[.int .i64 r.1.e0.P.X, .int .i64 r.1.e0.P.Y, .int .i64 r.1.e0.P.Z, .int .i64 r.1.e0.P.W, .int .i64 r.1.e0.A.e0, .int .i64 r.1.e0.A.e1, .int .i64 r.1.e0.A.e2, .int .i64 r.1.e0.A.e3, .int .i64 r.1.e0.A.e4, .int .i64 r.1.e0.A.e5, .int .i64 r.1.e1.P.X, .int .i64 r.1.e1.P.Y, .int .i64 r.1.e1.P.Z, .int .i64 r.1.e1.P.W, .int .i64 r.1.e1.A.e0, .int .i64 r.1.e1.A.e1, .int .i64 r.1.e1.A.e2, .int .i64 r.1.e1.A.e3, .int .i64 r.1.e1.A.e4, .int .i64 r.1.e1.A.e5, .int .i64 r.1.e2.P.X, .int .i64 r.1.e2.P.Y, .int .i64 r.1.e2.P.Z, .int .i64 r.1.e2.P.W, .int .i64 r.1.e2.A.e0, .int .i64 r.1.e2.A.e1, .int .i64 r.1.e2.A.e2, .int .i64 r.1.e2.A.e3, .int .i64 r.1.e2.A.e4, .int .i64 r.1.e2.A.e5]⟩, .int .i64 r.2]⟩
def Ffetch_Corners (K : Nat) (a0 : TMat) (a1 : A3TVertex) : Option (A3TCorner × Int) :=
  (Ffetch_Corner K a0 a1.e0).bind fun u1 =>
  bif (u1.snd != 0) then
    some (((⟨(⟨(⟨0, 0, 0, 0⟩ : TVec), (⟨0, 0, 0, 0, 0, 0⟩ : A6I)⟩ : TCorner), (⟨(⟨0, 0, 0, 0⟩ : TVec), (⟨0, 0, 0, 0, 0, 0⟩ : A6I)⟩ : TCorner), (⟨(⟨0, 0, 0, 0⟩ : TVec), (⟨0, 0, 0, 0, 0, 0⟩ : A6I)⟩ : TCorner)⟩ : A3TCorner), u1.snd))
  else
    (Ffetch_Corner K a0 a1.e1).bind fun u3 =>
    bif (u3.snd != 0) then
      some (((⟨(⟨(⟨0, 0, 0, 0⟩ : TVec), (⟨0, 0, 0, 0, 0, 0⟩ : A6I)⟩ : TCorner), (⟨(⟨0, 0, 0, 0⟩ : TVec), (⟨0, 0, 0, 0, 0, 0⟩ : A6I)⟩ : TCorner), (⟨(⟨0, 0, 0, 0⟩ : TVec), (⟨0, 0, 0, 0, 0, 0⟩ : A6I)⟩ : TCorner)⟩ : A3TCorner), u3.snd))
    else
      (Ffetch_Corner K a0 a1.e2).bind fun u5 =>
      bif (u5.snd != 0) then
        some (((⟨(⟨(⟨0, 0, 0, 0⟩ : TVec), (⟨0, 0, 0, 0, 0, 0⟩ : A6I)⟩ : TCorner), (⟨(⟨0, 0, 0, 0⟩ : TVec), (⟨0, 0, 0, 0, 0, 0⟩ : A6I)⟩ : TCorner), (⟨(⟨0, 0, 0, 0⟩ : TVec), (⟨0, 0, 0, 0, 0, 0⟩ : A6I)⟩ : TCorner)⟩ : A3TCorner), u5.snd))
      else
        some (((⟨u1.fst, u3.fst, u5.fst⟩ : A3TCorner), 0))
theorem cfetch_Corners (K : Nat) (a0 : TMat) (a1 : A3TVertex) : ∀ r, Ffetch_Corners K a0 a1 = some r → Con Try.prog 47 [.agg ⟨[.int .i64 a0.e0, .int .i64 a0.e1, .int .i64 a0.e2, .int .i64 a0.e3, .int .i64 a0.e4, .int .i64 a0.e5, .int .i64 a0.e6, .int .i64 a0.e7, .int .i64 a0.e8, .int .i64 a0.e9, .int .i64 a0.e10, .int .i64 a0.e11, .int .i64 a0.e12, .int .i64 a0.e13, .int .i64 a0.e14, .int .i64 a0.e15]⟩, .agg ⟨[.int .i64 a1.e0.X, .int .i64 a1.e0.Y, .int .i64 a1.e0.Z, .int .i64 a1.e0.C.R, .int .i64 a1.e0.C.G, .int .i64 a1.e0.C.B, .int .i64 a1.e0.C.A, .int .i64 a1.e0.U, .int .i64 a1.e0.V, .int .i64 a1.e1.X, .int .i64 a1.e1.Y, .int .i64 a1.e1.Z, .int .i64 a1.e1.C.R, .int .i64 a1.e1.C.G, .int .i64 a1.e1.C.B, .int .i64 a1.e1.C.A, .int .i64 a1.e1.U, .int .i64 a1.e1.V, .int .i64 a1.e2.X, .int .i64 a1.e2.Y, .int .i64 a1.e2.Z, .int .i64 a1.e2.C.R, .int .i64 a1.e2.C.G, .int .i64 a1.e2.C.B, .int .i64 a1.e2.C.A, .int .i64 a1.e2.U, .int .i64 a1.e2.V]⟩] (Efetch_Corners r) := by
  refine Con.lift Try.func47 (by kernel_rfl) rfl (fun _ => rfl) ?_
  unfold Ffetch_Corners
  exact
    L.callO mixed (fun u1 : TCorner × Int => .tuple ⟨[.agg ⟨[.int .i64 u1.1.P.X, .int .i64 u1.1.P.Y, .int .i64 u1.1.P.Z, .int .i64 u1.1.P.W, .int .i64 u1.1.A.e0, .int .i64 u1.1.A.e1, .int .i64 u1.1.A.e2, .int .i64 u1.1.A.e3, .int .i64 u1.1.A.e4, .int .i64 u1.1.A.e5]⟩, .int .i64 u1.2]⟩) (cfetch_Corner K a0 a1.e0) (by kernel_rfl) (fun u1 hu1 =>
    L.br mixed 13 _ (by kernel_rfl)
      (fun h2 =>
      L.ret _ mixed Try.func47 _ (by kernel_rfl) rfl)
      (fun h2 =>
      L.callO mixed (fun u3 : TCorner × Int => .tuple ⟨[.agg ⟨[.int .i64 u3.1.P.X, .int .i64 u3.1.P.Y, .int .i64 u3.1.P.Z, .int .i64 u3.1.P.W, .int .i64 u3.1.A.e0, .int .i64 u3.1.A.e1, .int .i64 u3.1.A.e2, .int .i64 u3.1.A.e3, .int .i64 u3.1.A.e4, .int .i64 u3.1.A.e5]⟩, .int .i64 u3.2]⟩) (cfetch_Corner K a0 a1.e1) (by kernel_rfl) (fun u3 hu3 =>
      L.br mixed 13 _ (by kernel_rfl)
        (fun h4 =>
        L.ret _ mixed Try.func47 _ (by kernel_rfl) rfl)
        (fun h4 =>
        L.callO mixed (fun u5 : TCorner × Int => .tuple ⟨[.agg ⟨[.int .i64 u5.1.P.X, .int .i64 u5.1.P.Y, .int .i64 u5.1.P.Z, .int .i64 u5.1.P.W, .int .i64 u5.1.A.e0, .int .i64 u5.1.A.e1, .int .i64 u5.1.A.e2, .int .i64 u5.1.A.e3, .int .i64 u5.1.A.e4, .int .i64 u5.1.A.e5]⟩, .int .i64 u5.2]⟩) (cfetch_Corner K a0 a1.e2) (by kernel_rfl) (fun u5 hu5 =>
        L.br mixed 13 _ (by kernel_rfl)
          (fun h6 =>
          L.ret _ mixed Try.func47 _ (by kernel_rfl) rfl)
          (fun h6 =>
          L.ret _ mixed Try.func47 _ (by kernel_rfl) rfl))))))
/-! ### 65 -/
abbrev Eclip_check : Int → Value := fun r => .int .i64 r
def Fclip_check_4 (a0 : List TCorner) : Nat → Int → Option Int
  | 0, _ => none
  | K + 1, p10 =>
    bif (decide (p10 < (↑a0.length : Int))) then
      bif inR p10 a0.length then
        bif (!Fmay (getR a0 p10.toNat)) then
          some 3
        else
          Fclip_check_4 a0 K (IntKind.i64.wrap (p10 + 1))
      else none
    else
      some 0
def Fclip_check (K : Nat) (a0 : List TCorner) : Option Int :=
  bif (decide ((↑a0.length : Int) > 16)) then
    some 4
  else
    Fclip_check_4 a0 K 0
def Hclip_check_4 (fn : Func) (a0 : List TCorner) (p10 : Int) : VS := headS fn 4 [(8, (lst a0)), (9, (Value.int IntKind.i64 ((↑a0.length : Int)))), (10, .int .i64 p10)] []
theorem lclip_check (a0 : List TCorner) : ∀ K : Nat, (∀ (p10 : Int), Lifts Try.prog 65 0 Eclip_check (Hclip_check_4 Try.f65 a0 p10) (Fclip_check_4 a0 K p10)) := by
  intro K
  induction K with
  | zero =>
    exact fun p10 => (by rw [Fclip_check_4]; exact L.no)
  | succ K ih =>
    have IH4 := ih
    refine fun p10 => ?_
    · rw [Fclip_check_4]
      exact
        L.br mixed 5 _ (by kernel_rfl)
          (fun h2 =>
          L.idx mixed 5 _ (rows a0) 10 IntKind.i64 _ (by kernel_rfl) (fun h3a h3b =>
          L.ld mixed 0 58 (rows a0) (p10.toNat * 10 + 0) (.agg ⟨[.int .i64 (getR a0 p10.toNat).P.X, .int .i64 (getR a0 p10.toNat).P.Y, .int .i64 (getR a0 p10.toNat).P.Z, .int .i64 (getR a0 p10.toNat).P.W, .int .i64 (getR a0 p10.toNat).A.e0, .int .i64 (getR a0 p10.toNat).A.e1, .int .i64 (getR a0 p10.toNat).A.e2, .int .i64 (getR a0 p10.toNat).A.e3, .int .i64 (getR a0 p10.toNat).A.e4, .int .i64 (getR a0 p10.toNat).A.e5]⟩) (by kernel_rfl) (loadN_rows (i := p10.toNat) (d := 0) (k := 10) rfl (toNat_lt h3a h3b) (by kernel_rfl) (by kernel_rfl) (Nat.le_of_ble_eq_true (by kernel_rfl)) (by kernel_rfl)) <|
          L.call mixed (kmay ((getR a0 p10.toNat))) (by kernel_rfl) <|
          L.br mixed 2 _ (by kernel_rfl)
            (fun h4 =>
            L.ret _ mixed Try.func65 _ (by kernel_rfl) rfl)
            (fun h4 =>
            L.jumpG mixed 7 [8, 9, 10] [] [] (by kernel_rfl) (by kernel_rfl) (by kernel_rfl) trivial (by kernel_rfl) (by kernel_rfl) (IH4 (IntKind.i64.wrap (p10 + 1))))))
          (fun h2 =>
          L.ret _ mixed Try.func65 _ (by kernel_rfl) rfl)
theorem cclip_check (K : Nat) (a0 : List TCorner) : ∀ r, Fclip_check K a0 = some r → Con Try.prog 65 [lst a0] (Eclip_check r) := by
  have IH4 := lclip_check a0 K
  refine Con.lift Try.func65 (by kernel_rfl) rfl (fun _ => rfl) ?_
  unfold Fclip_check
  exact
    L.br mixed 11 _ (by kernel_rfl)
      (fun h1 =>
      L.ret _ mixed Try.func65 _ (by kernel_rfl) rfl)
      (fun h1 =>
      L.jump mixed 10 [8, 9, 10] (by kernel_rfl) (IH4 0))
/-! ### 67 -/
abbrev Eclip_at : List TCorner → Value := fun r => lst r
def Fclip_at_3 (a0 : Int) (a1 : List TCorner) : Nat → (List TCorner) → Int → Option (List TCorner)
  | 0, _, _ => none
  | K + 1, p5, p13 =>
    bif (decide (p13 < (↑a1.length : Int))) then
      bif inR p13 a1.length then
        bif ((↑a1.length : Int)) != 0 then
          bif inR ((IntKind.i64.wrap (p13 + 1)).tmod (↑a1.length : Int)) a1.length then
            (Ffar K a0 ((getR a1 p13.toNat).P)).bind fun u19 =>
            (Ffar K a0 ((getR a1 ((IntKind.i64.wrap (p13 + 1)).tmod (↑a1.length : Int)).toNat).P)).bind fun u20 =>
            bif (decide (u19 ≥ 0)) then
              bif room (p5.length + ([(getR a1 p13.toNat)] : List TCorner).length) 80 then
                bif (bif true then !decide (u20 ≥ 0) else false) then
                  (Fcut K a0 ((getR a1 p13.toNat)) ((getR a1 ((IntKind.i64.wrap (p13 + 1)).tmod (↑a1.length : Int)).toNat))).bind fun u23 =>
                  bif room ((p5 ++ [getR a1 p13.toNat]).length + ([u23] : List TCorner).length) 80 then
                    Fclip_at_3 a0 a1 K (p5 ++ [getR a1 p13.toNat] ++ [u23]) (IntKind.i64.wrap (p13 + 1))
                  else none
                else
                  bif (!decide (u19 ≥ 0)) then
                    bif (bif true then decide (u20 ≥ 0) else false) then
                      (Fcut K a0 ((getR a1 ((IntKind.i64.wrap (p13 + 1)).tmod (↑a1.length : Int)).toNat)) ((getR a1 p13.toNat))).bind fun u26 =>
                      bif room ((p5 ++ [getR a1 p13.toNat]).length + ([u26] : List TCorner).length) 80 then
                        Fclip_at_3 a0 a1 K (p5 ++ [getR a1 p13.toNat] ++ [u26]) (IntKind.i64.wrap (p13 + 1))
                      else none
                    else
                      Fclip_at_3 a0 a1 K (p5 ++ [getR a1 p13.toNat]) (IntKind.i64.wrap (p13 + 1))
                  else
                    Fclip_at_3 a0 a1 K (p5 ++ [getR a1 p13.toNat]) (IntKind.i64.wrap (p13 + 1))
              else none
            else
              bif (!decide (u19 ≥ 0)) then
                bif (bif true then decide (u20 ≥ 0) else false) then
                  (Fcut K a0 ((getR a1 ((IntKind.i64.wrap (p13 + 1)).tmod (↑a1.length : Int)).toNat)) ((getR a1 p13.toNat))).bind fun u29 =>
                  bif room (p5.length + ([u29] : List TCorner).length) 80 then
                    Fclip_at_3 a0 a1 K (p5 ++ [u29]) (IntKind.i64.wrap (p13 + 1))
                  else none
                else
                  Fclip_at_3 a0 a1 K p5 (IntKind.i64.wrap (p13 + 1))
              else
                Fclip_at_3 a0 a1 K p5 (IntKind.i64.wrap (p13 + 1))
          else none
        else none
      else none
    else
      some p5
def Fclip_at (K : Nat) (a0 : Int) (a1 : List TCorner) : Option (List TCorner) :=
  Fclip_at_3 a0 a1 K [] 0
def Hclip_at_35N (fn : Func) (a0 : Int) (a1 : List TCorner) (p13 : Int) : VS := headS fn 3 [(0, (Value.int IntKind.i64 a0)), (1, (lst a1)), (5, .slice none 0 0), (11, (lst a1)), (12, (Value.int IntKind.i64 ((↑a1.length : Int)))), (13, .int .i64 p13)] []
def Hclip_at_35O (fn : Func) (a0 : Int) (a1 : List TCorner) (np5 : Nat) (p5 : List TCorner) (p13 : Int) : VS := headS fn 3 [(0, (Value.int IntKind.i64 a0)), (1, (lst a1)), (5, .slice (some ⟨0, 0, none⟩) np5 np5), (11, (lst a1)), (12, (Value.int IntKind.i64 ((↑a1.length : Int)))), (13, .int .i64 p13)] [ownB p5]
theorem lclip_at (a0 : Int) (a1 : List TCorner) : ∀ K : Nat, (∀ (p13 : Int), Lifts Try.prog 67 0 Eclip_at (Hclip_at_35N Try.f67 a0 a1 p13) (Fclip_at_3 a0 a1 K [] p13)) ∧ (∀ (np5 : Nat) (p5 : List TCorner) (_ : np5 = p5.length) (p13 : Int), Lifts Try.prog 67 0 Eclip_at (Hclip_at_35O Try.f67 a0 a1 np5 p5 p13) (Fclip_at_3 a0 a1 K p5 p13)) := by
  intro K
  induction K with
  | zero =>
    exact ⟨fun p13 => (by rw [Fclip_at_3]; exact L.no), fun np5 p5 ep5 p13 => (by rw [Fclip_at_3]; exact L.no)⟩
  | succ K ih =>
    obtain ⟨IH35N, IH35O⟩ := ih
    refine ⟨fun p13 => ?_, fun np5 p5 ep5 p13 => ?_⟩
    · rw [Fclip_at_3]
      exact
        L.br mixed 5 _ (by kernel_rfl)
          (fun h1 =>
          L.idx mixed 6 _ (rows a1) 10 IntKind.i64 _ (by kernel_rfl) (fun h2a h2b =>
          L.ld mixed 0 58 (rows a1) (p13.toNat * 10 + 0) (.agg ⟨[.int .i64 (getR a1 p13.toNat).P.X, .int .i64 (getR a1 p13.toNat).P.Y, .int .i64 (getR a1 p13.toNat).P.Z, .int .i64 (getR a1 p13.toNat).P.W, .int .i64 (getR a1 p13.toNat).A.e0, .int .i64 (getR a1 p13.toNat).A.e1, .int .i64 (getR a1 p13.toNat).A.e2, .int .i64 (getR a1 p13.toNat).A.e3, .int .i64 (getR a1 p13.toNat).A.e4, .int .i64 (getR a1 p13.toNat).A.e5]⟩) (by kernel_rfl) (loadN_rows (i := p13.toNat) (d := 0) (k := 10) rfl (toNat_lt h2a h2b) (by kernel_rfl) (by kernel_rfl) (Nat.le_of_ble_eq_true (by kernel_rfl)) (by kernel_rfl)) <|
          L.div mixed 11 true IntKind.i64 (IntKind.i64.wrap (p13 + 1)) _ (by kernel_rfl) (fun hd15 =>
          L.idx mixed 0 _ (rows a1) 10 IntKind.i64 _ (by kernel_rfl) (fun h3a h3b =>
          L.ld mixed 0 58 (rows a1) (((IntKind.i64.wrap (p13 + 1)).tmod (↑a1.length : Int)).toNat * 10 + 0) (.agg ⟨[.int .i64 (getR a1 ((IntKind.i64.wrap (p13 + 1)).tmod (↑a1.length : Int)).toNat).P.X, .int .i64 (getR a1 ((IntKind.i64.wrap (p13 + 1)).tmod (↑a1.length : Int)).toNat).P.Y, .int .i64 (getR a1 ((IntKind.i64.wrap (p13 + 1)).tmod (↑a1.length : Int)).toNat).P.Z, .int .i64 (getR a1 ((IntKind.i64.wrap (p13 + 1)).tmod (↑a1.length : Int)).toNat).P.W, .int .i64 (getR a1 ((IntKind.i64.wrap (p13 + 1)).tmod (↑a1.length : Int)).toNat).A.e0, .int .i64 (getR a1 ((IntKind.i64.wrap (p13 + 1)).tmod (↑a1.length : Int)).toNat).A.e1, .int .i64 (getR a1 ((IntKind.i64.wrap (p13 + 1)).tmod (↑a1.length : Int)).toNat).A.e2, .int .i64 (getR a1 ((IntKind.i64.wrap (p13 + 1)).tmod (↑a1.length : Int)).toNat).A.e3, .int .i64 (getR a1 ((IntKind.i64.wrap (p13 + 1)).tmod (↑a1.length : Int)).toNat).A.e4, .int .i64 (getR a1 ((IntKind.i64.wrap (p13 + 1)).tmod (↑a1.length : Int)).toNat).A.e5]⟩) (by kernel_rfl) (loadN_rows (i := ((IntKind.i64.wrap (p13 + 1)).tmod (↑a1.length : Int)).toNat) (d := 0) (k := 10) rfl (toNat_lt h3a h3b) (by kernel_rfl) (by kernel_rfl) (Nat.le_of_ble_eq_true (by kernel_rfl)) (by kernel_rfl)) <|
          L.callO mixed (fun u4 : Int => .int .i64 u4) (kfar K a0 ((getR a1 p13.toNat).P)) (by kernel_rfl) (fun u4 hu4 =>
          L.callO mixed (fun u5 : Int => .int .i64 u5) (kfar K a0 ((getR a1 ((IntKind.i64.wrap (p13 + 1)).tmod (↑a1.length : Int)).toNat).P)) (by kernel_rfl) (fun u5 hu5 =>
          L.br mixed 9 _ (by kernel_rfl)
            (fun h6 =>
            L.push0 mixed 4 80 2 0 [(Value.int IntKind.i64 ((getR a1 p13.toNat).P.X)), (Value.int IntKind.i64 ((getR a1 p13.toNat).P.Y)), (Value.int IntKind.i64 ((getR a1 p13.toNat).P.Z)), (Value.int IntKind.i64 ((getR a1 p13.toNat).P.W)), (Value.int IntKind.i64 ((getR a1 p13.toNat).A.e0)), (Value.int IntKind.i64 ((getR a1 p13.toNat).A.e1)), (Value.int IntKind.i64 ((getR a1 p13.toNat).A.e2)), (Value.int IntKind.i64 ((getR a1 p13.toNat).A.e3)), (Value.int IntKind.i64 ((getR a1 p13.toNat).A.e4)), (Value.int IntKind.i64 ((getR a1 p13.toNat).A.e5))] ([(getR a1 p13.toNat)] : List TCorner) (by kernel_rfl) (Nat.le_of_ble_eq_true (by kernel_rfl)) (Nat.le_of_ble_eq_true (by kernel_rfl)) (by kernel_rfl) <|
            L.guIs mixed 7 _ true h6 (by kernel_rfl) <|
            L.br mixed 5 _ (by kernel_rfl)
              (fun h7 =>
              L.callO mixed (fun u8 : TCorner => .agg ⟨[.int .i64 u8.P.X, .int .i64 u8.P.Y, .int .i64 u8.P.Z, .int .i64 u8.P.W, .int .i64 u8.A.e0, .int .i64 u8.A.e1, .int .i64 u8.A.e2, .int .i64 u8.A.e3, .int .i64 u8.A.e4, .int .i64 u8.A.e5]⟩) (kcut K a0 ((getR a1 p13.toNat)) ((getR a1 ((IntKind.i64.wrap (p13 + 1)).tmod (↑a1.length : Int)).toNat))) (by kernel_rfl) (fun u8 hu8 =>
              L.app mixed 1 3 80 4 0 ([getR a1 p13.toNat].length) [(Value.int IntKind.i64 u8.P.X), (Value.int IntKind.i64 u8.P.Y), (Value.int IntKind.i64 u8.P.Z), (Value.int IntKind.i64 u8.P.W), (Value.int IntKind.i64 u8.A.e0), (Value.int IntKind.i64 u8.A.e1), (Value.int IntKind.i64 u8.A.e2), (Value.int IntKind.i64 u8.A.e3), (Value.int IntKind.i64 u8.A.e4), (Value.int IntKind.i64 u8.A.e5)] [getR a1 p13.toNat] ([u8] : List TCorner) (by first | rfl | exact Eq.symm (by assumption) | (simp; done) | (simp [*]; done)) (by kernel_rfl) (by kernel_rfl) (Nat.le_of_ble_eq_true (by kernel_rfl)) (Nat.le_of_ble_eq_true (by kernel_rfl)) (by kernel_rfl) <|
              L.jumpG mixed 9 [0, 1, 5, 11, 12, 13] [.ownp 5] [rows ([getR a1 p13.toNat] ++ [u8])] (by kernel_rfl) (by kernel_rfl) (by kernel_rfl) ⟨rows_pure _, trivial⟩ (by kernel_rfl) (by kernel_rfl) (IH35O (([getR a1 p13.toNat] ++ [u8]).length) ([getR a1 p13.toNat] ++ [u8]) (by first | rfl | exact Eq.symm (by assumption) | (simp; done) | (simp [*]; done)) (IntKind.i64.wrap (p13 + 1)))))
              (fun h7 =>
              L.gu mixed 5 _ (by kernel_rfl)
                (fun h9 =>
                L.br mixed 4 _ (by kernel_rfl)
                  (fun h10 =>
                  L.callO mixed (fun u11 : TCorner => .agg ⟨[.int .i64 u11.P.X, .int .i64 u11.P.Y, .int .i64 u11.P.Z, .int .i64 u11.P.W, .int .i64 u11.A.e0, .int .i64 u11.A.e1, .int .i64 u11.A.e2, .int .i64 u11.A.e3, .int .i64 u11.A.e4, .int .i64 u11.A.e5]⟩) (kcut K a0 ((getR a1 ((IntKind.i64.wrap (p13 + 1)).tmod (↑a1.length : Int)).toNat)) ((getR a1 p13.toNat))) (by kernel_rfl) (fun u11 hu11 =>
                  L.app mixed 1 3 80 4 0 ([getR a1 p13.toNat].length) [(Value.int IntKind.i64 u11.P.X), (Value.int IntKind.i64 u11.P.Y), (Value.int IntKind.i64 u11.P.Z), (Value.int IntKind.i64 u11.P.W), (Value.int IntKind.i64 u11.A.e0), (Value.int IntKind.i64 u11.A.e1), (Value.int IntKind.i64 u11.A.e2), (Value.int IntKind.i64 u11.A.e3), (Value.int IntKind.i64 u11.A.e4), (Value.int IntKind.i64 u11.A.e5)] [getR a1 p13.toNat] ([u11] : List TCorner) (by first | rfl | exact Eq.symm (by assumption) | (simp; done) | (simp [*]; done)) (by kernel_rfl) (by kernel_rfl) (Nat.le_of_ble_eq_true (by kernel_rfl)) (Nat.le_of_ble_eq_true (by kernel_rfl)) (by kernel_rfl) <|
                  L.jumpG mixed 9 [0, 1, 5, 11, 12, 13] [.ownp 5] [rows ([getR a1 p13.toNat] ++ [u11])] (by kernel_rfl) (by kernel_rfl) (by kernel_rfl) ⟨rows_pure _, trivial⟩ (by kernel_rfl) (by kernel_rfl) (IH35O (([getR a1 p13.toNat] ++ [u11]).length) ([getR a1 p13.toNat] ++ [u11]) (by first | rfl | exact Eq.symm (by assumption) | (simp; done) | (simp [*]; done)) (IntKind.i64.wrap (p13 + 1)))))
                  (fun h10 =>
                  L.jumpG mixed 8 [0, 1, 5, 11, 12, 13] [.ownp 3] [rows [getR a1 p13.toNat]] (by kernel_rfl) (by kernel_rfl) (by kernel_rfl) ⟨rows_pure _, trivial⟩ (by kernel_rfl) (by kernel_rfl) (IH35O ([getR a1 p13.toNat].length) [getR a1 p13.toNat] (by first | rfl | exact Eq.symm (by assumption) | (simp; done) | (simp [*]; done)) (IntKind.i64.wrap (p13 + 1)))))
                (fun h9 =>
                L.jumpG mixed 13 [0, 1, 5, 11, 12, 13] [.ownp 3] [rows [getR a1 p13.toNat]] (by kernel_rfl) (by kernel_rfl) (by kernel_rfl) ⟨rows_pure _, trivial⟩ (by kernel_rfl) (by kernel_rfl) (IH35O ([getR a1 p13.toNat].length) [getR a1 p13.toNat] (by first | rfl | exact Eq.symm (by assumption) | (simp; done) | (simp [*]; done)) (IntKind.i64.wrap (p13 + 1))))))
            (fun h6 =>
            L.guIs mixed 6 _ false h6 (by kernel_rfl) <|
            L.gu mixed 11 _ (by kernel_rfl)
              (fun h12 =>
              L.br mixed 4 _ (by kernel_rfl)
                (fun h13 =>
                L.callO mixed (fun u14 : TCorner => .agg ⟨[.int .i64 u14.P.X, .int .i64 u14.P.Y, .int .i64 u14.P.Z, .int .i64 u14.P.W, .int .i64 u14.A.e0, .int .i64 u14.A.e1, .int .i64 u14.A.e2, .int .i64 u14.A.e3, .int .i64 u14.A.e4, .int .i64 u14.A.e5]⟩) (kcut K a0 ((getR a1 ((IntKind.i64.wrap (p13 + 1)).tmod (↑a1.length : Int)).toNat)) ((getR a1 p13.toNat))) (by kernel_rfl) (fun u14 hu14 =>
                L.push0 mixed 1 80 2 0 [(Value.int IntKind.i64 u14.P.X), (Value.int IntKind.i64 u14.P.Y), (Value.int IntKind.i64 u14.P.Z), (Value.int IntKind.i64 u14.P.W), (Value.int IntKind.i64 u14.A.e0), (Value.int IntKind.i64 u14.A.e1), (Value.int IntKind.i64 u14.A.e2), (Value.int IntKind.i64 u14.A.e3), (Value.int IntKind.i64 u14.A.e4), (Value.int IntKind.i64 u14.A.e5)] ([u14] : List TCorner) (by kernel_rfl) (Nat.le_of_ble_eq_true (by kernel_rfl)) (Nat.le_of_ble_eq_true (by kernel_rfl)) (by kernel_rfl) <|
                L.jumpG mixed 9 [0, 1, 5, 11, 12, 13] [.ownp 3] [rows [u14]] (by kernel_rfl) (by kernel_rfl) (by kernel_rfl) ⟨rows_pure _, trivial⟩ (by kernel_rfl) (by kernel_rfl) (IH35O [u14].length [u14] (by first | rfl | exact Eq.symm (by assumption) | (simp; done) | (simp [*]; done)) (IntKind.i64.wrap (p13 + 1)))))
                (fun h13 =>
                L.jumpG mixed 8 [0, 1, 5, 11, 12, 13] [] [] (by kernel_rfl) (by kernel_rfl) (by kernel_rfl) trivial (by kernel_rfl) (by kernel_rfl) (IH35N (IntKind.i64.wrap (p13 + 1)))))
              (fun h12 =>
              L.jumpG mixed 13 [0, 1, 5, 11, 12, 13] [] [] (by kernel_rfl) (by kernel_rfl) (by kernel_rfl) trivial (by kernel_rfl) (by kernel_rfl) (IH35N (IntKind.i64.wrap (p13 + 1)))))))))))
          (fun h1 =>
          L.frzNil mixed 6 4 (by kernel_rfl) <|
          L.ret _ mixed Try.func67 _ (by kernel_rfl) rfl)
    · subst ep5; rw [Fclip_at_3]
      exact
        L.br mixed 5 _ (by kernel_rfl)
          (fun h16 =>
          L.idx mixed 6 _ (rows a1) 10 IntKind.i64 _ (by kernel_rfl) (fun h17a h17b =>
          L.ld mixed 0 58 (rows a1) (p13.toNat * 10 + 0) (.agg ⟨[.int .i64 (getR a1 p13.toNat).P.X, .int .i64 (getR a1 p13.toNat).P.Y, .int .i64 (getR a1 p13.toNat).P.Z, .int .i64 (getR a1 p13.toNat).P.W, .int .i64 (getR a1 p13.toNat).A.e0, .int .i64 (getR a1 p13.toNat).A.e1, .int .i64 (getR a1 p13.toNat).A.e2, .int .i64 (getR a1 p13.toNat).A.e3, .int .i64 (getR a1 p13.toNat).A.e4, .int .i64 (getR a1 p13.toNat).A.e5]⟩) (by kernel_rfl) (loadN_rows (i := p13.toNat) (d := 0) (k := 10) rfl (toNat_lt h17a h17b) (by kernel_rfl) (by kernel_rfl) (Nat.le_of_ble_eq_true (by kernel_rfl)) (by kernel_rfl)) <|
          L.div mixed 11 true IntKind.i64 (IntKind.i64.wrap (p13 + 1)) _ (by kernel_rfl) (fun hd30 =>
          L.idx mixed 0 _ (rows a1) 10 IntKind.i64 _ (by kernel_rfl) (fun h18a h18b =>
          L.ld mixed 0 58 (rows a1) (((IntKind.i64.wrap (p13 + 1)).tmod (↑a1.length : Int)).toNat * 10 + 0) (.agg ⟨[.int .i64 (getR a1 ((IntKind.i64.wrap (p13 + 1)).tmod (↑a1.length : Int)).toNat).P.X, .int .i64 (getR a1 ((IntKind.i64.wrap (p13 + 1)).tmod (↑a1.length : Int)).toNat).P.Y, .int .i64 (getR a1 ((IntKind.i64.wrap (p13 + 1)).tmod (↑a1.length : Int)).toNat).P.Z, .int .i64 (getR a1 ((IntKind.i64.wrap (p13 + 1)).tmod (↑a1.length : Int)).toNat).P.W, .int .i64 (getR a1 ((IntKind.i64.wrap (p13 + 1)).tmod (↑a1.length : Int)).toNat).A.e0, .int .i64 (getR a1 ((IntKind.i64.wrap (p13 + 1)).tmod (↑a1.length : Int)).toNat).A.e1, .int .i64 (getR a1 ((IntKind.i64.wrap (p13 + 1)).tmod (↑a1.length : Int)).toNat).A.e2, .int .i64 (getR a1 ((IntKind.i64.wrap (p13 + 1)).tmod (↑a1.length : Int)).toNat).A.e3, .int .i64 (getR a1 ((IntKind.i64.wrap (p13 + 1)).tmod (↑a1.length : Int)).toNat).A.e4, .int .i64 (getR a1 ((IntKind.i64.wrap (p13 + 1)).tmod (↑a1.length : Int)).toNat).A.e5]⟩) (by kernel_rfl) (loadN_rows (i := ((IntKind.i64.wrap (p13 + 1)).tmod (↑a1.length : Int)).toNat) (d := 0) (k := 10) rfl (toNat_lt h18a h18b) (by kernel_rfl) (by kernel_rfl) (Nat.le_of_ble_eq_true (by kernel_rfl)) (by kernel_rfl)) <|
          L.callO mixed (fun u19 : Int => .int .i64 u19) (kfar K a0 ((getR a1 p13.toNat).P)) (by kernel_rfl) (fun u19 hu19 =>
          L.callO mixed (fun u20 : Int => .int .i64 u20) (kfar K a0 ((getR a1 ((IntKind.i64.wrap (p13 + 1)).tmod (↑a1.length : Int)).toNat).P)) (by kernel_rfl) (fun u20 hu20 =>
          L.br mixed 9 _ (by kernel_rfl)
            (fun h21 =>
            L.app mixed 4 0 80 3 0 p5.length [(Value.int IntKind.i64 ((getR a1 p13.toNat).P.X)), (Value.int IntKind.i64 ((getR a1 p13.toNat).P.Y)), (Value.int IntKind.i64 ((getR a1 p13.toNat).P.Z)), (Value.int IntKind.i64 ((getR a1 p13.toNat).P.W)), (Value.int IntKind.i64 ((getR a1 p13.toNat).A.e0)), (Value.int IntKind.i64 ((getR a1 p13.toNat).A.e1)), (Value.int IntKind.i64 ((getR a1 p13.toNat).A.e2)), (Value.int IntKind.i64 ((getR a1 p13.toNat).A.e3)), (Value.int IntKind.i64 ((getR a1 p13.toNat).A.e4)), (Value.int IntKind.i64 ((getR a1 p13.toNat).A.e5))] p5 ([(getR a1 p13.toNat)] : List TCorner) (by first | rfl | exact Eq.symm (by assumption) | (simp; done) | (simp [*]; done)) (by kernel_rfl) (by kernel_rfl) (Nat.le_of_ble_eq_true (by kernel_rfl)) (Nat.le_of_ble_eq_true (by kernel_rfl)) (by kernel_rfl) <|
            L.guIs mixed 7 _ true h21 (by kernel_rfl) <|
            L.br mixed 5 _ (by kernel_rfl)
              (fun h22 =>
              L.callO mixed (fun u23 : TCorner => .agg ⟨[.int .i64 u23.P.X, .int .i64 u23.P.Y, .int .i64 u23.P.Z, .int .i64 u23.P.W, .int .i64 u23.A.e0, .int .i64 u23.A.e1, .int .i64 u23.A.e2, .int .i64 u23.A.e3, .int .i64 u23.A.e4, .int .i64 u23.A.e5]⟩) (kcut K a0 ((getR a1 p13.toNat)) ((getR a1 ((IntKind.i64.wrap (p13 + 1)).tmod (↑a1.length : Int)).toNat))) (by kernel_rfl) (fun u23 hu23 =>
              L.app mixed 1 4 80 5 0 ((p5 ++ [getR a1 p13.toNat]).length) [(Value.int IntKind.i64 u23.P.X), (Value.int IntKind.i64 u23.P.Y), (Value.int IntKind.i64 u23.P.Z), (Value.int IntKind.i64 u23.P.W), (Value.int IntKind.i64 u23.A.e0), (Value.int IntKind.i64 u23.A.e1), (Value.int IntKind.i64 u23.A.e2), (Value.int IntKind.i64 u23.A.e3), (Value.int IntKind.i64 u23.A.e4), (Value.int IntKind.i64 u23.A.e5)] (p5 ++ [getR a1 p13.toNat]) ([u23] : List TCorner) (by first | rfl | exact Eq.symm (by assumption) | (simp; done) | (simp [*]; done)) (by kernel_rfl) (by kernel_rfl) (Nat.le_of_ble_eq_true (by kernel_rfl)) (Nat.le_of_ble_eq_true (by kernel_rfl)) (by kernel_rfl) <|
              L.jumpG mixed 9 [0, 1, 5, 11, 12, 13] [.ownp 6] [rows (p5 ++ [getR a1 p13.toNat] ++ [u23])] (by kernel_rfl) (by kernel_rfl) (by kernel_rfl) ⟨rows_pure _, trivial⟩ (by kernel_rfl) (by kernel_rfl) (IH35O ((p5 ++ [getR a1 p13.toNat] ++ [u23]).length) (p5 ++ [getR a1 p13.toNat] ++ [u23]) (by first | rfl | exact Eq.symm (by assumption) | (simp; done) | (simp [*]; done)) (IntKind.i64.wrap (p13 + 1)))))
              (fun h22 =>
              L.gu mixed 5 _ (by kernel_rfl)
                (fun h24 =>
                L.br mixed 4 _ (by kernel_rfl)
                  (fun h25 =>
                  L.callO mixed (fun u26 : TCorner => .agg ⟨[.int .i64 u26.P.X, .int .i64 u26.P.Y, .int .i64 u26.P.Z, .int .i64 u26.P.W, .int .i64 u26.A.e0, .int .i64 u26.A.e1, .int .i64 u26.A.e2, .int .i64 u26.A.e3, .int .i64 u26.A.e4, .int .i64 u26.A.e5]⟩) (kcut K a0 ((getR a1 ((IntKind.i64.wrap (p13 + 1)).tmod (↑a1.length : Int)).toNat)) ((getR a1 p13.toNat))) (by kernel_rfl) (fun u26 hu26 =>
                  L.app mixed 1 4 80 5 0 ((p5 ++ [getR a1 p13.toNat]).length) [(Value.int IntKind.i64 u26.P.X), (Value.int IntKind.i64 u26.P.Y), (Value.int IntKind.i64 u26.P.Z), (Value.int IntKind.i64 u26.P.W), (Value.int IntKind.i64 u26.A.e0), (Value.int IntKind.i64 u26.A.e1), (Value.int IntKind.i64 u26.A.e2), (Value.int IntKind.i64 u26.A.e3), (Value.int IntKind.i64 u26.A.e4), (Value.int IntKind.i64 u26.A.e5)] (p5 ++ [getR a1 p13.toNat]) ([u26] : List TCorner) (by first | rfl | exact Eq.symm (by assumption) | (simp; done) | (simp [*]; done)) (by kernel_rfl) (by kernel_rfl) (Nat.le_of_ble_eq_true (by kernel_rfl)) (Nat.le_of_ble_eq_true (by kernel_rfl)) (by kernel_rfl) <|
                  L.jumpG mixed 9 [0, 1, 5, 11, 12, 13] [.ownp 6] [rows (p5 ++ [getR a1 p13.toNat] ++ [u26])] (by kernel_rfl) (by kernel_rfl) (by kernel_rfl) ⟨rows_pure _, trivial⟩ (by kernel_rfl) (by kernel_rfl) (IH35O ((p5 ++ [getR a1 p13.toNat] ++ [u26]).length) (p5 ++ [getR a1 p13.toNat] ++ [u26]) (by first | rfl | exact Eq.symm (by assumption) | (simp; done) | (simp [*]; done)) (IntKind.i64.wrap (p13 + 1)))))
                  (fun h25 =>
                  L.jumpG mixed 8 [0, 1, 5, 11, 12, 13] [.ownp 4] [rows (p5 ++ [getR a1 p13.toNat])] (by kernel_rfl) (by kernel_rfl) (by kernel_rfl) ⟨rows_pure _, trivial⟩ (by kernel_rfl) (by kernel_rfl) (IH35O ((p5 ++ [getR a1 p13.toNat]).length) (p5 ++ [getR a1 p13.toNat]) (by first | rfl | exact Eq.symm (by assumption) | (simp; done) | (simp [*]; done)) (IntKind.i64.wrap (p13 + 1)))))
                (fun h24 =>
                L.jumpG mixed 13 [0, 1, 5, 11, 12, 13] [.ownp 4] [rows (p5 ++ [getR a1 p13.toNat])] (by kernel_rfl) (by kernel_rfl) (by kernel_rfl) ⟨rows_pure _, trivial⟩ (by kernel_rfl) (by kernel_rfl) (IH35O ((p5 ++ [getR a1 p13.toNat]).length) (p5 ++ [getR a1 p13.toNat]) (by first | rfl | exact Eq.symm (by assumption) | (simp; done) | (simp [*]; done)) (IntKind.i64.wrap (p13 + 1))))))
            (fun h21 =>
            L.guIs mixed 6 _ false h21 (by kernel_rfl) <|
            L.gu mixed 11 _ (by kernel_rfl)
              (fun h27 =>
              L.br mixed 4 _ (by kernel_rfl)
                (fun h28 =>
                L.callO mixed (fun u29 : TCorner => .agg ⟨[.int .i64 u29.P.X, .int .i64 u29.P.Y, .int .i64 u29.P.Z, .int .i64 u29.P.W, .int .i64 u29.A.e0, .int .i64 u29.A.e1, .int .i64 u29.A.e2, .int .i64 u29.A.e3, .int .i64 u29.A.e4, .int .i64 u29.A.e5]⟩) (kcut K a0 ((getR a1 ((IntKind.i64.wrap (p13 + 1)).tmod (↑a1.length : Int)).toNat)) ((getR a1 p13.toNat))) (by kernel_rfl) (fun u29 hu29 =>
                L.app mixed 1 0 80 3 0 p5.length [(Value.int IntKind.i64 u29.P.X), (Value.int IntKind.i64 u29.P.Y), (Value.int IntKind.i64 u29.P.Z), (Value.int IntKind.i64 u29.P.W), (Value.int IntKind.i64 u29.A.e0), (Value.int IntKind.i64 u29.A.e1), (Value.int IntKind.i64 u29.A.e2), (Value.int IntKind.i64 u29.A.e3), (Value.int IntKind.i64 u29.A.e4), (Value.int IntKind.i64 u29.A.e5)] p5 ([u29] : List TCorner) (by first | rfl | exact Eq.symm (by assumption) | (simp; done) | (simp [*]; done)) (by kernel_rfl) (by kernel_rfl) (Nat.le_of_ble_eq_true (by kernel_rfl)) (Nat.le_of_ble_eq_true (by kernel_rfl)) (by kernel_rfl) <|
                L.jumpG mixed 9 [0, 1, 5, 11, 12, 13] [.ownp 4] [rows (p5 ++ [u29])] (by kernel_rfl) (by kernel_rfl) (by kernel_rfl) ⟨rows_pure _, trivial⟩ (by kernel_rfl) (by kernel_rfl) (IH35O ((p5 ++ [u29]).length) (p5 ++ [u29]) (by first | rfl | exact Eq.symm (by assumption) | (simp; done) | (simp [*]; done)) (IntKind.i64.wrap (p13 + 1)))))
                (fun h28 =>
                L.jumpG mixed 8 [0, 1, 5, 11, 12, 13] [.ownp 0] [rows p5] (by kernel_rfl) (by kernel_rfl) (by kernel_rfl) ⟨rows_pure _, trivial⟩ (by kernel_rfl) (by kernel_rfl) (IH35O p5.length p5 (by first | rfl | exact Eq.symm (by assumption) | (simp; done) | (simp [*]; done)) (IntKind.i64.wrap (p13 + 1)))))
              (fun h27 =>
              L.jumpG mixed 13 [0, 1, 5, 11, 12, 13] [.ownp 0] [rows p5] (by kernel_rfl) (by kernel_rfl) (by kernel_rfl) ⟨rows_pure _, trivial⟩ (by kernel_rfl) (by kernel_rfl) (IH35O p5.length p5 (by first | rfl | exact Eq.symm (by assumption) | (simp; done) | (simp [*]; done)) (IntKind.i64.wrap (p13 + 1)))))))))))
          (fun h16 =>
          L.frzO mixed 6 4 0 p5.length p5 (by first | rfl | exact Eq.symm (by assumption) | (simp; done) | (simp [*]; done)) (by kernel_rfl) (by kernel_rfl) (by kernel_rfl) <|
          L.ret _ mixed Try.func67 _ (by kernel_rfl) rfl)
theorem cclip_at (K : Nat) (a0 : Int) (a1 : List TCorner) : ∀ r, Fclip_at K a0 a1 = some r → Con Try.prog 67 [.int .i64 a0, lst a1] (Eclip_at r) := by
  obtain ⟨IH35N, IH35O⟩ := lclip_at a0 a1 K
  refine Con.lift Try.func67 (by kernel_rfl) rfl (fun _ => rfl) ?_
  unfold Fclip_at
  exact
    L.jump mixed 17 [0, 1, 5, 11, 12, 13] (by kernel_rfl) (IH35N 0)
/-! ### 66 -/
abbrev Eslices_Clone : List TCorner → Value := fun r => lst r
def Fslices_Clone (K : Nat) (a0 : List TCorner) : Option (List TCorner) := bif room a0.length 80 then some a0 else none
theorem cslices_Clone (K : Nat) (a0 : List TCorner) : ∀ r, Fslices_Clone K a0 = some r → Con Try.prog 66 [lst a0] (Eslices_Clone r) :=
  clone_con 80 Try.func66 (by kernel_rfl) (clone_nil (α := TCorner) (size := 10) mixed Try.func66 8 1 5 4 4 rfl (by kernel_rfl) rfl (by kernel_rfl) rfl (by kernel_rfl) (by kernel_rfl) rfl (by kernel_rfl) rfl (clone_tail (α := TCorner) mixed Try.func66 1 2 80 (by kernel_rfl) (by kernel_rfl) (by kernel_rfl) (by kernel_rfl)))
    (fun y ys => L.eqNil (n := ys.length + 1) (c := rows (y :: ys)) mixed 8 (Nat.succ_pos _) (by kernel_rfl) <| L.none mixed 5 10 (by kernel_rfl) <| L.cat0 mixed 1 0 80 (y :: ys) (by kernel_rfl) (by kernel_rfl) <| L.ret _ mixed Try.func66 _ (by kernel_rfl) rfl) a0
/-! ### 48 -/
abbrev Eclip_All : List TCorner × Int → Value := fun r => .tuple ⟨[lst r.1, .int .i64 r.2]⟩
def Fclip_All_6 (a0 : List TCorner) : Nat → (List TCorner) → Int → Option (List TCorner × Int)
  | 0, _, _ => none
  | K + 1, p5, p14 =>
    bif (decide (p14 < 7)) then
      (Fclip_at K p14 p5).bind fun u5 =>
      Fclip_All_6 a0 K u5 (IntKind.i64.wrap (p14 + 1))
    else
      some ((p5, 0))
def Fclip_All (K : Nat) (a0 : List TCorner) : Option (List TCorner × Int) :=
  (Fclip_check K a0).bind fun u1 =>
  bif (u1 != 0) then
    some ((([] : List TCorner), u1))
  else
    (Fslices_Clone K a0).bind fun u3 =>
    Fclip_All_6 a0 K u3 0
def Hclip_All_6 (fn : Func) (a0 : List TCorner) (p5 : List TCorner) (p14 : Int) : VS := headS fn 6 [(5, lst p5), (14, .int .i64 p14)] []
theorem lclip_All (a0 : List TCorner) : ∀ K : Nat, (∀ (p5 : List TCorner) (p14 : Int), Lifts Try.prog 48 0 Eclip_All (Hclip_All_6 Try.f48 a0 p5 p14) (Fclip_All_6 a0 K p5 p14)) := by
  intro K
  induction K with
  | zero =>
    exact fun p5 p14 => (by rw [Fclip_All_6]; exact L.no)
  | succ K ih =>
    have IH6 := ih
    refine fun p5 p14 => ?_
    · rw [Fclip_All_6]
      exact
        L.br mixed 5 _ (by kernel_rfl)
          (fun h4 =>
          L.callO mixed (fun u5 : List TCorner => lst u5) (cclip_at K p14 p5) (by kernel_rfl) (fun u5 hu5 =>
          L.jump mixed 8 [5, 14] (by kernel_rfl) (IH6 u5 (IntKind.i64.wrap (p14 + 1)))))
          (fun h4 =>
          L.ret _ mixed Try.func48 _ (by kernel_rfl) rfl)
theorem cclip_All (K : Nat) (a0 : List TCorner) : ∀ r, Fclip_All K a0 = some r → Con Try.prog 48 [lst a0] (Eclip_All r) := by
  have IH6 := lclip_All a0 K
  refine Con.lift Try.func48 (by kernel_rfl) rfl (fun _ => rfl) ?_
  unfold Fclip_All
  exact
    L.callO mixed (fun u1 : Int => .int .i64 u1) (cclip_check K a0) (by kernel_rfl) (fun u1 hu1 =>
    L.br mixed 7 _ (by kernel_rfl)
      (fun h2 =>
      L.frzNil mixed 6 2 (by kernel_rfl) <|
      L.ret _ mixed Try.func48 _ (by kernel_rfl) rfl)
      (fun h2 =>
      L.callO mixed (fun u3 : List TCorner => lst u3) (cslices_Clone K a0) (by kernel_rfl) (fun u3 hu3 =>
      L.jump mixed 9 [5, 14] (by kernel_rfl) (IH6 u3 0))))
/-! ### 80 -/
abbrev Eclip_Far : Int × Int → Value := fun r => .tuple ⟨[.int .i64 r.1, .int .i64 r.2]⟩
def Fclip_Far (K : Nat) (a0 : Int) (a1 : TCorner) : Option (Int × Int) :=
  bif (decide (a0 < 0)) then
    some ((0, 2))
  else
    bif (bif false then true else decide (a0 ≥ 7)) then
      some ((0, 2))
    else
      bif (!Fmay a1) then
        some ((0, 3))
      else
        (Ffar K a0 a1.P).bind fun u4 =>
        some ((u4, 0))
theorem cclip_Far (K : Nat) (a0 : Int) (a1 : TCorner) : ∀ r, Fclip_Far K a0 a1 = some r → Con Try.prog 80 [.int .i64 a0, .agg ⟨[.int .i64 a1.P.X, .int .i64 a1.P.Y, .int .i64 a1.P.Z, .int .i64 a1.P.W, .int .i64 a1.A.e0, .int .i64 a1.A.e1, .int .i64 a1.A.e2, .int .i64 a1.A.e3, .int .i64 a1.A.e4, .int .i64 a1.A.e5]⟩] (Eclip_Far r) := by
  refine Con.lift Try.func80 (by kernel_rfl) rfl (fun _ => rfl) ?_
  unfold Fclip_Far
  exact
    L.gu mixed 13 _ (by kernel_rfl)
      (fun h1 =>
      L.ret _ mixed Try.func80 _ (by kernel_rfl) rfl)
      (fun h1 =>
      L.br mixed 5 _ (by kernel_rfl)
        (fun h2 =>
        L.ret _ mixed Try.func80 _ (by kernel_rfl) rfl)
        (fun h2 =>
        L.call mixed (kmay a1) (by kernel_rfl) <|
        L.br mixed 3 _ (by kernel_rfl)
          (fun h3 =>
          L.ret _ mixed Try.func80 _ (by kernel_rfl) rfl)
          (fun h3 =>
          L.callO mixed (fun u4 : Int => .int .i64 u4) (kfar K a0 a1.P) (by kernel_rfl) (fun u4 hu4 =>
          L.ret _ mixed Try.func80 _ (by kernel_rfl) rfl))))
/-! ### 82 -/
abbrev Efix_Floor : Int × Int → Value := fun r => .tuple ⟨[.int .i64 r.1, .int .i64 r.2]⟩
def Ffix_Floor (K : Nat) (a0 : Int) (a1 : Int) : Option (Int × Int) :=
  bif (a1 == 0) then
    some ((0, 2))
  else
    bif (a0 == -9223372036854775808) then
      bif (bif true then a1 == -1 else false) then
        some ((9223372036854775807, 0))
      else
        bif a1 != 0 then
          bif a1 != 0 then
            bif (a0.tmod a1 != 0) then
              bif (bif true then !decide (a0 < 0) == decide (a1 < 0) else false) then
                some ((IntKind.i64.wrap (IntKind.i64.wrap (a0.tdiv a1) - 1), 0))
              else
                some ((IntKind.i64.wrap (a0.tdiv a1), 0))
            else
              some ((IntKind.i64.wrap (a0.tdiv a1), 0))
          else none
        else none
    else
      bif a1 != 0 then
        bif a1 != 0 then
          bif (a0.tmod a1 != 0) then
            bif (bif true then !decide (a0 < 0) == decide (a1 < 0) else false) then
              some ((IntKind.i64.wrap (IntKind.i64.wrap (a0.tdiv a1) - 1), 0))
            else
              some ((IntKind.i64.wrap (a0.tdiv a1), 0))
          else
            some ((IntKind.i64.wrap (a0.tdiv a1), 0))
        else none
      else none
theorem cfix_Floor (K : Nat) (a0 : Int) (a1 : Int) : ∀ r, Ffix_Floor K a0 a1 = some r → Con Try.prog 82 [.int .i64 a0, .int .i64 a1] (Efix_Floor r) := by
  refine Con.lift Try.func82 (by kernel_rfl) rfl (fun _ => rfl) ?_
  unfold Ffix_Floor
  exact
    L.br mixed 13 _ (by kernel_rfl)
      (fun h1 =>
      L.ret _ mixed Try.func82 _ (by kernel_rfl) rfl)
      (fun h1 =>
      L.gu mixed 5 _ (by kernel_rfl)
        (fun h2 =>
        L.br mixed 5 _ (by kernel_rfl)
          (fun h3 =>
          L.ret _ mixed Try.func82 _ (by kernel_rfl) rfl)
          (fun h3 =>
          L.div mixed 6 false IntKind.i64 a0 _ (by kernel_rfl) (fun hd7 =>
          L.div mixed 7 true IntKind.i64 a0 _ (by kernel_rfl) (fun hd6 =>
          L.gu mixed 2 _ (by kernel_rfl)
            (fun h4 =>
            L.br mixed 7 _ (by kernel_rfl)
              (fun h5 =>
              L.ret _ mixed Try.func82 _ (by kernel_rfl) rfl)
              (fun h5 =>
              L.ret _ mixed Try.func82 _ (by kernel_rfl) rfl))
            (fun h4 =>
            L.ret _ mixed Try.func82 _ (by kernel_rfl) rfl)))))
        (fun h2 =>
        L.div mixed 12 false IntKind.i64 a0 _ (by kernel_rfl) (fun hd11 =>
        L.div mixed 7 true IntKind.i64 a0 _ (by kernel_rfl) (fun hd10 =>
        L.gu mixed 2 _ (by kernel_rfl)
          (fun h8 =>
          L.br mixed 7 _ (by kernel_rfl)
            (fun h9 =>
            L.ret _ mixed Try.func82 _ (by kernel_rfl) rfl)
            (fun h9 =>
            L.ret _ mixed Try.func82 _ (by kernel_rfl) rfl))
          (fun h8 =>
          L.ret _ mixed Try.func82 _ (by kernel_rfl) rfl)))))
/-! ### 81 -/
abbrev Eview_Snap_1 : Int → Value := fun r => .int .i64 r
def Fview_Snap_1 (K : Nat) (a0 : Int) (a1 : Int) (a2 : Int) (a3 : TVec) : Option Int :=
  (Ffix_Floor K (IntKind.i64.wrap (IntKind.i64.wrap (a1 * 8) * a2)) a3.W).bind fun u1 =>
  some (Fsat (IntKind.i64.wrap (IntKind.i64.wrap (a0 * 16) + u1.fst)) (-524288) 524288)
theorem cview_Snap_1 (K : Nat) (a0 : Int) (a1 : Int) (a2 : Int) (a3 : TVec) : ∀ r, Fview_Snap_1 K a0 a1 a2 a3 = some r → Con Try.prog 81 [.int .i64 a0, .int .i64 a1, .int .i64 a2, frp [.int .i64 a3.X, .int .i64 a3.Y, .int .i64 a3.Z, .int .i64 a3.W] 0] (Eview_Snap_1 r) := by
  refine Con.lift Try.func81 (by kernel_rfl) rfl (fun _ => rfl) ?_
  unfold Fview_Snap_1
  exact
    L.ld mixed 11 3 [(Value.int IntKind.i64 a3.X), (Value.int IntKind.i64 a3.Y), (Value.int IntKind.i64 a3.Z), (Value.int IntKind.i64 a3.W)] 3 ((Value.int IntKind.i64 a3.W)) (by kernel_rfl) (by kernel_rfl) <|
    L.callO mixed (fun u1 : Int × Int => .tuple ⟨[.int .i64 u1.1, .int .i64 u1.2]⟩) (cfix_Floor K (IntKind.i64.wrap (IntKind.i64.wrap (a1 * 8) * a2)) a3.W) (by kernel_rfl) (fun u1 hu1 =>
    L.call mixed (ksat (IntKind.i64.wrap (IntKind.i64.wrap (a0 * 16) + u1.fst)) (-524288) 524288) (by kernel_rfl) <|
    L.ret _ mixed Try.func81 _ (by kernel_rfl) rfl)
/-! ### 68 -/
abbrev Eview_Snap : TSpot × Int → Value := fun r => .tuple ⟨[.agg ⟨[.int .i64 r.1.P.X, .int .i64 r.1.P.Y, .int .i64 r.1.Z, .int .i64 r.1.A.e0, .int .i64 r.1.A.e1, .int .i64 r.1.A.e2, .int .i64 r.1.A.e3, .int .i64 r.1.A.e4, .int .i64 r.1.A.e5]⟩, .int .i64 r.2]⟩
def Fview_Snap (K : Nat) (a0 : TCorner) (a1 : TRect) : Option (TSpot × Int) :=
  bif (Fview a1 != 0) then
    some (((⟨(⟨0, 0⟩ : TPoint), 0, (⟨0, 0, 0, 0, 0, 0⟩ : A6I)⟩ : TSpot), Fview a1))
  else
    (Fclip_Far K 0 a0).bind fun u2 =>
    bif (u2.snd != 0) then
      some (((⟨(⟨0, 0⟩ : TPoint), 0, (⟨0, 0, 0, 0, 0, 0⟩ : A6I)⟩ : TSpot), 3))
    else
      bif (bif false then true else decide (u2.fst < 0)) then
        some (((⟨(⟨0, 0⟩ : TPoint), 0, (⟨0, 0, 0, 0, 0, 0⟩ : A6I)⟩ : TSpot), 3))
      else
        (Ffix_Floor K (IntKind.i64.wrap (IntKind.i64.wrap (a0.P.Z + a0.P.W) * 65535)) (IntKind.i64.wrap (2 * a0.P.W))).bind fun u5 =>
        (Fview_Snap_1 K a1.X0 (IntKind.i64.wrap (a0.P.X + a0.P.W)) (IntKind.i64.wrap (a1.X1 - a1.X0)) a0.P).bind fun u6 =>
        (Fview_Snap_1 K a1.Y0 (IntKind.i64.wrap (a0.P.W - a0.P.Y)) (IntKind.i64.wrap (a1.Y1 - a1.Y0)) a0.P).bind fun u7 =>
        some (((⟨(⟨u6, u7⟩ : TPoint), Fsat u5.fst 0 65535, a0.A⟩ : TSpot), 0))
theorem cview_Snap (K : Nat) (a0 : TCorner) (a1 : TRect) : ∀ r, Fview_Snap K a0 a1 = some r → Con Try.prog 68 [.agg ⟨[.int .i64 a0.P.X, .int .i64 a0.P.Y, .int .i64 a0.P.Z, .int .i64 a0.P.W, .int .i64 a0.A.e0, .int .i64 a0.A.e1, .int .i64 a0.A.e2, .int .i64 a0.A.e3, .int .i64 a0.A.e4, .int .i64 a0.A.e5]⟩, .agg ⟨[.int .i64 a1.X0, .int .i64 a1.Y0, .int .i64 a1.X1, .int .i64 a1.Y1]⟩] (Eview_Snap r) := by
  refine Con.lift Try.func68 (by kernel_rfl) rfl (fun _ => rfl) ?_
  unfold Fview_Snap
  exact
    L.call mixed (kview a1) (by kernel_rfl) <|
    L.br mixed 7 _ (by kernel_rfl)
      (fun h1 =>
      L.ret _ mixed Try.func68 _ (by kernel_rfl) rfl)
      (fun h1 =>
      L.callO mixed (fun u2 : Int × Int => .tuple ⟨[.int .i64 u2.1, .int .i64 u2.2]⟩) (cclip_Far K 0 a0) (by kernel_rfl) (fun u2 hu2 =>
      L.gu mixed 11 _ (by kernel_rfl)
        (fun h3 =>
        L.ret _ mixed Try.func68 _ (by kernel_rfl) rfl)
        (fun h3 =>
        L.br mixed 4 _ (by kernel_rfl)
          (fun h4 =>
          L.ret _ mixed Try.func68 _ (by kernel_rfl) rfl)
          (fun h4 =>
          L.frzP mixed 9 9 3 0 0 [(Value.int IntKind.i64 a0.P.X), (Value.int IntKind.i64 a0.P.Y), (Value.int IntKind.i64 a0.P.Z), (Value.int IntKind.i64 a0.P.W)] (by kernel_rfl) (by kernel_rfl) (by kernel_rfl) (by kernel_rfl) <|
          L.ld mixed 7 3 [(Value.int IntKind.i64 a0.P.X), (Value.int IntKind.i64 a0.P.Y), (Value.int IntKind.i64 a0.P.Z), (Value.int IntKind.i64 a0.P.W)] 2 ((Value.int IntKind.i64 a0.P.Z)) (by kernel_rfl) (by kernel_rfl) <|
          L.ld mixed 1 3 [(Value.int IntKind.i64 a0.P.X), (Value.int IntKind.i64 a0.P.Y), (Value.int IntKind.i64 a0.P.Z), (Value.int IntKind.i64 a0.P.W)] 3 ((Value.int IntKind.i64 a0.P.W)) (by kernel_rfl) (by kernel_rfl) <|
          L.ld mixed 3 3 [(Value.int IntKind.i64 a0.P.X), (Value.int IntKind.i64 a0.P.Y), (Value.int IntKind.i64 a0.P.Z), (Value.int IntKind.i64 a0.P.W)] 3 ((Value.int IntKind.i64 a0.P.W)) (by kernel_rfl) (by kernel_rfl) <|
          L.callO mixed (fun u5 : Int × Int => .tuple ⟨[.int .i64 u5.1, .int .i64 u5.2]⟩) (cfix_Floor K (IntKind.i64.wrap (IntKind.i64.wrap (a0.P.Z + a0.P.W) * 65535)) (IntKind.i64.wrap (2 * a0.P.W))) (by kernel_rfl) (fun u5 hu5 =>
          L.ld mixed 12 3 [(Value.int IntKind.i64 a0.P.X), (Value.int IntKind.i64 a0.P.Y), (Value.int IntKind.i64 a0.P.Z), (Value.int IntKind.i64 a0.P.W)] 0 ((Value.int IntKind.i64 a0.P.X)) (by kernel_rfl) (by kernel_rfl) <|
          L.ld mixed 1 3 [(Value.int IntKind.i64 a0.P.X), (Value.int IntKind.i64 a0.P.Y), (Value.int IntKind.i64 a0.P.Z), (Value.int IntKind.i64 a0.P.W)] 3 ((Value.int IntKind.i64 a0.P.W)) (by kernel_rfl) (by kernel_rfl) <|
          L.callO mixed (fun u6 : Int => .int .i64 u6) (cview_Snap_1 K a1.X0 (IntKind.i64.wrap (a0.P.X + a0.P.W)) (IntKind.i64.wrap (a1.X1 - a1.X0)) a0.P) (by kernel_rfl) (fun u6 hu6 =>
          L.ld mixed 4 3 [(Value.int IntKind.i64 a0.P.X), (Value.int IntKind.i64 a0.P.Y), (Value.int IntKind.i64 a0.P.Z), (Value.int IntKind.i64 a0.P.W)] 3 ((Value.int IntKind.i64 a0.P.W)) (by kernel_rfl) (by kernel_rfl) <|
          L.ld mixed 1 3 [(Value.int IntKind.i64 a0.P.X), (Value.int IntKind.i64 a0.P.Y), (Value.int IntKind.i64 a0.P.Z), (Value.int IntKind.i64 a0.P.W)] 1 ((Value.int IntKind.i64 a0.P.Y)) (by kernel_rfl) (by kernel_rfl) <|
          L.callO mixed (fun u7 : Int => .int .i64 u7) (cview_Snap_1 K a1.Y0 (IntKind.i64.wrap (a0.P.W - a0.P.Y)) (IntKind.i64.wrap (a1.Y1 - a1.Y0)) a0.P) (by kernel_rfl) (fun u7 hu7 =>
          L.call mixed (ksat u5.fst 0 65535) (by kernel_rfl) <|
          L.ret _ mixed Try.func68 _ (by kernel_rfl) rfl)))))))
/-! ### 49 -/
abbrev Eview_Poly : List TSpot × Int → Value := fun r => .tuple ⟨[lst r.1, .int .i64 r.2]⟩
def Fview_Poly_6 (a0 : List TCorner) (a1 : TRect) : Nat → (List TSpot) → Int → Option (List TSpot × Int)
  | 0, _, _ => none
  | K + 1, p7, p19 =>
    bif (decide (p19 < (↑a0.length : Int))) then
      bif inR p19 a0.length then
        (Fview_Snap K ((getR a0 p19.toNat)) a1).bind fun u8 =>
        bif (u8.snd != 0) then
          some ((([] : List TSpot), u8.snd))
        else
          bif room (p7.length + ([u8.fst] : List TSpot).length) 72 then
            Fview_Poly_6 a0 a1 K (p7 ++ [u8.fst]) (IntKind.i64.wrap (p19 + 1))
          else none
      else none
    else
      some ((p7, 0))
def Fview_Poly (K : Nat) (a0 : List TCorner) (a1 : TRect) : Option (List TSpot × Int) :=
  bif (Fview a1 != 0) then
    some ((([] : List TSpot), Fview a1))
  else
    Fview_Poly_6 a0 a1 K [] 0
def Hview_Poly_67N (fn : Func) (a0 : List TCorner) (a1 : TRect) (p19 : Int) : VS := headS fn 6 [(3, (frp [(Value.int IntKind.i64 a1.X0), (Value.int IntKind.i64 a1.Y0), (Value.int IntKind.i64 a1.X1), (Value.int IntKind.i64 a1.Y1)] 0)), (7, .slice none 0 0), (17, (lst a0)), (18, (Value.int IntKind.i64 ((↑a0.length : Int)))), (19, .int .i64 p19)] []
def Hview_Poly_67O (fn : Func) (a0 : List TCorner) (a1 : TRect) (np7 : Nat) (p7 : List TSpot) (p19 : Int) : VS := headS fn 6 [(3, (frp [(Value.int IntKind.i64 a1.X0), (Value.int IntKind.i64 a1.Y0), (Value.int IntKind.i64 a1.X1), (Value.int IntKind.i64 a1.Y1)] 0)), (7, .slice (some ⟨0, 0, none⟩) np7 np7), (17, (lst a0)), (18, (Value.int IntKind.i64 ((↑a0.length : Int)))), (19, .int .i64 p19)] [ownB p7]
theorem lview_Poly (a0 : List TCorner) (a1 : TRect) : ∀ K : Nat, (∀ (p19 : Int), Lifts Try.prog 49 0 Eview_Poly (Hview_Poly_67N Try.f49 a0 a1 p19) (Fview_Poly_6 a0 a1 K [] p19)) ∧ (∀ (np7 : Nat) (p7 : List TSpot) (_ : np7 = p7.length) (p19 : Int), Lifts Try.prog 49 0 Eview_Poly (Hview_Poly_67O Try.f49 a0 a1 np7 p7 p19) (Fview_Poly_6 a0 a1 K p7 p19)) := by
  intro K
  induction K with
  | zero =>
    exact ⟨fun p19 => (by rw [Fview_Poly_6]; exact L.no), fun np7 p7 ep7 p19 => (by rw [Fview_Poly_6]; exact L.no)⟩
  | succ K ih =>
    obtain ⟨IH67N, IH67O⟩ := ih
    refine ⟨fun p19 => ?_, fun np7 p7 ep7 p19 => ?_⟩
    · rw [Fview_Poly_6]
      exact
        L.br mixed 5 _ (by kernel_rfl)
          (fun h2 =>
          L.idx mixed 5 _ (rows a0) 10 IntKind.i64 _ (by kernel_rfl) (fun h3a h3b =>
          L.ld mixed 0 58 (rows a0) (p19.toNat * 10 + 0) (.agg ⟨[.int .i64 (getR a0 p19.toNat).P.X, .int .i64 (getR a0 p19.toNat).P.Y, .int .i64 (getR a0 p19.toNat).P.Z, .int .i64 (getR a0 p19.toNat).P.W, .int .i64 (getR a0 p19.toNat).A.e0, .int .i64 (getR a0 p19.toNat).A.e1, .int .i64 (getR a0 p19.toNat).A.e2, .int .i64 (getR a0 p19.toNat).A.e3, .int .i64 (getR a0 p19.toNat).A.e4, .int .i64 (getR a0 p19.toNat).A.e5]⟩) (by kernel_rfl) (loadN_rows (i := p19.toNat) (d := 0) (k := 10) rfl (toNat_lt h3a h3b) (by kernel_rfl) (by kernel_rfl) (Nat.le_of_ble_eq_true (by kernel_rfl)) (by kernel_rfl)) <|
          L.ld mixed 6 25 [(Value.int IntKind.i64 a1.X0), (Value.int IntKind.i64 a1.Y0), (Value.int IntKind.i64 a1.X1), (Value.int IntKind.i64 a1.Y1)] 0 ((Value.agg ⟨[(Value.int IntKind.i64 a1.X0), (Value.int IntKind.i64 a1.Y0), (Value.int IntKind.i64 a1.X1), (Value.int IntKind.i64 a1.Y1)]⟩)) (by kernel_rfl) (by kernel_rfl) <|
          L.callO mixed (fun u4 : TSpot × Int => .tuple ⟨[.agg ⟨[.int .i64 u4.1.P.X, .int .i64 u4.1.P.Y, .int .i64 u4.1.Z, .int .i64 u4.1.A.e0, .int .i64 u4.1.A.e1, .int .i64 u4.1.A.e2, .int .i64 u4.1.A.e3, .int .i64 u4.1.A.e4, .int .i64 u4.1.A.e5]⟩, .int .i64 u4.2]⟩) (cview_Snap K ((getR a0 p19.toNat)) a1) (by kernel_rfl) (fun u4 hu4 =>
          L.br mixed 13 _ (by kernel_rfl)
            (fun h5 =>
            L.frzNil mixed 6 4 (by kernel_rfl) <|
            L.ret _ mixed Try.func49 _ (by kernel_rfl) rfl)
            (fun h5 =>
            L.push0 mixed 5 72 2 0 [(Value.int IntKind.i64 u4.fst.P.X), (Value.int IntKind.i64 u4.fst.P.Y), (Value.int IntKind.i64 u4.fst.Z), (Value.int IntKind.i64 u4.fst.A.e0), (Value.int IntKind.i64 u4.fst.A.e1), (Value.int IntKind.i64 u4.fst.A.e2), (Value.int IntKind.i64 u4.fst.A.e3), (Value.int IntKind.i64 u4.fst.A.e4), (Value.int IntKind.i64 u4.fst.A.e5)] ([u4.fst] : List TSpot) (by kernel_rfl) (Nat.le_of_ble_eq_true (by kernel_rfl)) (Nat.le_of_ble_eq_true (by kernel_rfl)) (by kernel_rfl) <|
            L.jumpG mixed 8 [3, 7, 17, 18, 19] [.ownp 3] [rows [u4.fst]] (by kernel_rfl) (by kernel_rfl) (by kernel_rfl) ⟨rows_pure _, trivial⟩ (by kernel_rfl) (by kernel_rfl) (IH67O [u4.fst].length [u4.fst] (by first | rfl | exact Eq.symm (by assumption) | (simp; done) | (simp [*]; done)) (IntKind.i64.wrap (p19 + 1)))))))
          (fun h2 =>
          L.frzNil mixed 7 4 (by kernel_rfl) <|
          L.ret _ mixed Try.func49 _ (by kernel_rfl) rfl)
    · subst ep7; rw [Fview_Poly_6]
      exact
        L.br mixed 5 _ (by kernel_rfl)
          (fun h6 =>
          L.idx mixed 5 _ (rows a0) 10 IntKind.i64 _ (by kernel_rfl) (fun h7a h7b =>
          L.ld mixed 0 58 (rows a0) (p19.toNat * 10 + 0) (.agg ⟨[.int .i64 (getR a0 p19.toNat).P.X, .int .i64 (getR a0 p19.toNat).P.Y, .int .i64 (getR a0 p19.toNat).P.Z, .int .i64 (getR a0 p19.toNat).P.W, .int .i64 (getR a0 p19.toNat).A.e0, .int .i64 (getR a0 p19.toNat).A.e1, .int .i64 (getR a0 p19.toNat).A.e2, .int .i64 (getR a0 p19.toNat).A.e3, .int .i64 (getR a0 p19.toNat).A.e4, .int .i64 (getR a0 p19.toNat).A.e5]⟩) (by kernel_rfl) (loadN_rows (i := p19.toNat) (d := 0) (k := 10) rfl (toNat_lt h7a h7b) (by kernel_rfl) (by kernel_rfl) (Nat.le_of_ble_eq_true (by kernel_rfl)) (by kernel_rfl)) <|
          L.ld mixed 6 25 [(Value.int IntKind.i64 a1.X0), (Value.int IntKind.i64 a1.Y0), (Value.int IntKind.i64 a1.X1), (Value.int IntKind.i64 a1.Y1)] 0 ((Value.agg ⟨[(Value.int IntKind.i64 a1.X0), (Value.int IntKind.i64 a1.Y0), (Value.int IntKind.i64 a1.X1), (Value.int IntKind.i64 a1.Y1)]⟩)) (by kernel_rfl) (by kernel_rfl) <|
          L.callO mixed (fun u8 : TSpot × Int => .tuple ⟨[.agg ⟨[.int .i64 u8.1.P.X, .int .i64 u8.1.P.Y, .int .i64 u8.1.Z, .int .i64 u8.1.A.e0, .int .i64 u8.1.A.e1, .int .i64 u8.1.A.e2, .int .i64 u8.1.A.e3, .int .i64 u8.1.A.e4, .int .i64 u8.1.A.e5]⟩, .int .i64 u8.2]⟩) (cview_Snap K ((getR a0 p19.toNat)) a1) (by kernel_rfl) (fun u8 hu8 =>
          L.br mixed 13 _ (by kernel_rfl)
            (fun h9 =>
            L.frzNil mixed 6 4 (by kernel_rfl) <|
            L.ret _ mixed Try.func49 _ (by kernel_rfl) rfl)
            (fun h9 =>
            L.app mixed 5 0 72 3 0 p7.length [(Value.int IntKind.i64 u8.fst.P.X), (Value.int IntKind.i64 u8.fst.P.Y), (Value.int IntKind.i64 u8.fst.Z), (Value.int IntKind.i64 u8.fst.A.e0), (Value.int IntKind.i64 u8.fst.A.e1), (Value.int IntKind.i64 u8.fst.A.e2), (Value.int IntKind.i64 u8.fst.A.e3), (Value.int IntKind.i64 u8.fst.A.e4), (Value.int IntKind.i64 u8.fst.A.e5)] p7 ([u8.fst] : List TSpot) (by first | rfl | exact Eq.symm (by assumption) | (simp; done) | (simp [*]; done)) (by kernel_rfl) (by kernel_rfl) (Nat.le_of_ble_eq_true (by kernel_rfl)) (Nat.le_of_ble_eq_true (by kernel_rfl)) (by kernel_rfl) <|
            L.jumpG mixed 8 [3, 7, 17, 18, 19] [.ownp 4] [rows (p7 ++ [u8.fst])] (by kernel_rfl) (by kernel_rfl) (by kernel_rfl) ⟨rows_pure _, trivial⟩ (by kernel_rfl) (by kernel_rfl) (IH67O ((p7 ++ [u8.fst]).length) (p7 ++ [u8.fst]) (by first | rfl | exact Eq.symm (by assumption) | (simp; done) | (simp [*]; done)) (IntKind.i64.wrap (p19 + 1)))))))
          (fun h6 =>
          L.frzO mixed 7 4 0 p7.length p7 (by first | rfl | exact Eq.symm (by assumption) | (simp; done) | (simp [*]; done)) (by kernel_rfl) (by kernel_rfl) (by kernel_rfl) <|
          L.ret _ mixed Try.func49 _ (by kernel_rfl) rfl)
theorem cview_Poly (K : Nat) (a0 : List TCorner) (a1 : TRect) : ∀ r, Fview_Poly K a0 a1 = some r → Con Try.prog 49 [lst a0, .agg ⟨[.int .i64 a1.X0, .int .i64 a1.Y0, .int .i64 a1.X1, .int .i64 a1.Y1]⟩] (Eview_Poly r) := by
  obtain ⟨IH67N, IH67O⟩ := lview_Poly a0 a1 K
  refine Con.lift Try.func49 (by kernel_rfl) rfl (fun _ => rfl) ?_
  unfold Fview_Poly
  exact
    L.call mixed (kview a1) (by kernel_rfl) <|
    L.br mixed 7 _ (by kernel_rfl)
      (fun h1 =>
      L.frzNil mixed 6 4 (by kernel_rfl) <|
      L.ret _ mixed Try.func49 _ (by kernel_rfl) rfl)
      (fun h1 =>
      L.frzP mixed 13 3 0 0 0 [(Value.int IntKind.i64 a1.X0), (Value.int IntKind.i64 a1.Y0), (Value.int IntKind.i64 a1.X1), (Value.int IntKind.i64 a1.Y1)] (by kernel_rfl) (by kernel_rfl) (by kernel_rfl) (by kernel_rfl) <|
      L.jumpG mixed 1 [3, 7, 17, 18, 19] [] [] (by kernel_rfl) (by kernel_rfl) (by kernel_rfl) trivial (by kernel_rfl) (by kernel_rfl) (IH67N 0))
/-! ### 45 -/
abbrev Egeom_within : Bool → Value := fun r => .bool r
def Fgeom_within_2 (a0 : Int) (a1 : List Int) : Nat → Int → Option Bool
  | 0, _ => none
  | K + 1, p9 =>
    bif (decide (p9 < (↑a1.length : Int))) then
      bif inR p9 a1.length then
        bif (decide (getR a1 p9.toNat < IntKind.i64.wrap (0 - a0))) then
          some false
        else
          bif (bif false then true else decide (getR a1 p9.toNat > a0)) then
            some false
          else
            Fgeom_within_2 a0 a1 K (IntKind.i64.wrap (p9 + 1))
      else none
    else
      some true
def Fgeom_within (K : Nat) (a0 : Int) (a1 : List Int) : Option Bool :=
  Fgeom_within_2 a0 a1 K 0
def Hgeom_within_2 (fn : Func) (a0 : Int) (a1 : List Int) (p9 : Int) : VS := headS fn 2 [(0, (Value.int IntKind.i64 a0)), (7, (lst a1)), (8, (Value.int IntKind.i64 ((↑a1.length : Int)))), (9, .int .i64 p9)] []
theorem lgeom_within (a0 : Int) (a1 : List Int) : ∀ K : Nat, (∀ (p9 : Int), Lifts Try.prog 45 0 Egeom_within (Hgeom_within_2 Try.f45 a0 a1 p9) (Fgeom_within_2 a0 a1 K p9)) := by
  intro K
  induction K with
  | zero =>
    exact fun p9 => (by rw [Fgeom_within_2]; exact L.no)
  | succ K ih =>
    have IH2 := ih
    refine fun p9 => ?_
    · rw [Fgeom_within_2]
      exact
        L.br mixed 5 _ (by kernel_rfl)
          (fun h1 =>
          L.idx mixed 5 _ (rows a1) 1 IntKind.i64 _ (by kernel_rfl) (fun h2a h2b =>
          L.ld mixed 0 3 (rows a1) (p9.toNat * 1 + 0) (.int .i64 (getR a1 p9.toNat)) (by kernel_rfl) (load1_rows (i := p9.toNat) (d := 0) rfl (toNat_lt h2a h2b) (by kernel_rfl) (Nat.le_of_ble_eq_true (by kernel_rfl)) (by kernel_rfl)) <|
          L.gu mixed 9 _ (by kernel_rfl)
            (fun h3 =>
            L.ret _ mixed Try.func45 _ (by kernel_rfl) rfl)
            (fun h3 =>
            L.br mixed 5 _ (by kernel_rfl)
              (fun h4 =>
              L.ret _ mixed Try.func45 _ (by kernel_rfl) rfl)
              (fun h4 =>
              L.jump mixed 7 [0, 7, 8, 9] (by kernel_rfl) (IH2 (IntKind.i64.wrap (p9 + 1)))))))
          (fun h1 =>
          L.ret _ mixed Try.func45 _ (by kernel_rfl) rfl)
theorem cgeom_within (K : Nat) (a0 : Int) (a1 : List Int) : ∀ r, Fgeom_within K a0 a1 = some r → Con Try.prog 45 [.int .i64 a0, lst a1] (Egeom_within r) := by
  have IH2 := lgeom_within a0 a1 K
  refine Con.lift Try.func45 (by kernel_rfl) rfl (fun _ => rfl) ?_
  unfold Fgeom_within
  exact
    L.jump mixed 13 [0, 7, 8, 9] (by kernel_rfl) (IH2 0)
/-! ### 23 -/
abbrev Egeom_check : Int → Value := fun r => .int .i64 r
def Fgeom_check (K : Nat) (a0 : A3TVertex) : Option Int :=
  (Fgeom_within K 1048576 [a0.e0.X, a0.e0.Y, a0.e0.Z]).bind fun u1 =>
  bif !u1 then
    some 11
  else
    (Fgeom_within K 65536 [a0.e0.U, a0.e0.V]).bind fun u3 =>
    bif !u3 then
      some 11
    else
      bif (!Ftint a0.e0.C) then
        some 3
      else
        (Fgeom_within K 1048576 [a0.e1.X, a0.e1.Y, a0.e1.Z]).bind fun u6 =>
        bif !u6 then
          some 11
        else
          (Fgeom_within K 65536 [a0.e1.U, a0.e1.V]).bind fun u8 =>
          bif !u8 then
            some 11
          else
            bif (!Ftint a0.e1.C) then
              some 3
            else
              (Fgeom_within K 1048576 [a0.e2.X, a0.e2.Y, a0.e2.Z]).bind fun u11 =>
              bif !u11 then
                some 11
              else
                (Fgeom_within K 65536 [a0.e2.U, a0.e2.V]).bind fun u13 =>
                bif !u13 then
                  some 11
                else
                  bif (!Ftint a0.e2.C) then
                    some 3
                  else
                    some 0
theorem cgeom_check (K : Nat) (a0 : A3TVertex) : ∀ r, Fgeom_check K a0 = some r → Con Try.prog 23 [.agg ⟨[.int .i64 a0.e0.X, .int .i64 a0.e0.Y, .int .i64 a0.e0.Z, .int .i64 a0.e0.C.R, .int .i64 a0.e0.C.G, .int .i64 a0.e0.C.B, .int .i64 a0.e0.C.A, .int .i64 a0.e0.U, .int .i64 a0.e0.V, .int .i64 a0.e1.X, .int .i64 a0.e1.Y, .int .i64 a0.e1.Z, .int .i64 a0.e1.C.R, .int .i64 a0.e1.C.G, .int .i64 a0.e1.C.B, .int .i64 a0.e1.C.A, .int .i64 a0.e1.U, .int .i64 a0.e1.V, .int .i64 a0.e2.X, .int .i64 a0.e2.Y, .int .i64 a0.e2.Z, .int .i64 a0.e2.C.R, .int .i64 a0.e2.C.G, .int .i64 a0.e2.C.B, .int .i64 a0.e2.C.A, .int .i64 a0.e2.U, .int .i64 a0.e2.V]⟩] (Egeom_check r) := by
  refine Con.lift Try.func23 (by kernel_rfl) rfl (fun _ => rfl) ?_
  unfold Fgeom_check
  exact
    L.litF mixed 38 (([a0.e0.X, a0.e0.Y, a0.e0.Z] : List Int)) [(0, (Value.int IntKind.i64 a0.e0.X)), (1, (Value.int IntKind.i64 a0.e0.Y)), (2, (Value.int IntKind.i64 a0.e0.Z))] (by kernel_rfl) rfl (by kernel_rfl) (by kernel_rfl) <|
    L.callO mixed (fun u1 : Bool => .bool u1) (cgeom_within K 1048576 [a0.e0.X, a0.e0.Y, a0.e0.Z]) (by kernel_rfl) (fun u1 hu1 =>
    L.br mixed 3 _ (by kernel_rfl)
      (fun h2 =>
      L.brIs mixed 1 _ true h2 (by kernel_rfl) <|
      L.ret _ mixed Try.func23 _ (by kernel_rfl) rfl)
      (fun h2 =>
      L.litF mixed 5 (([a0.e0.U, a0.e0.V] : List Int)) [(0, (Value.int IntKind.i64 a0.e0.U)), (1, (Value.int IntKind.i64 a0.e0.V))] (by kernel_rfl) rfl (by kernel_rfl) (by kernel_rfl) <|
      L.callO mixed (fun u3 : Bool => .bool u3) (cgeom_within K 65536 [a0.e0.U, a0.e0.V]) (by kernel_rfl) (fun u3 hu3 =>
      L.br mixed 3 _ (by kernel_rfl)
        (fun h4 =>
        L.ret _ mixed Try.func23 _ (by kernel_rfl) rfl)
        (fun h4 =>
        L.call mixed (ktint a0.e0.C) (by kernel_rfl) <|
        L.br mixed 3 _ (by kernel_rfl)
          (fun h5 =>
          L.ret _ mixed Try.func23 _ (by kernel_rfl) rfl)
          (fun h5 =>
          L.litF mixed 33 (([a0.e1.X, a0.e1.Y, a0.e1.Z] : List Int)) [(0, (Value.int IntKind.i64 a0.e1.X)), (1, (Value.int IntKind.i64 a0.e1.Y)), (2, (Value.int IntKind.i64 a0.e1.Z))] (by kernel_rfl) rfl (by kernel_rfl) (by kernel_rfl) <|
          L.callO mixed (fun u6 : Bool => .bool u6) (cgeom_within K 1048576 [a0.e1.X, a0.e1.Y, a0.e1.Z]) (by kernel_rfl) (fun u6 hu6 =>
          L.br mixed 3 _ (by kernel_rfl)
            (fun h7 =>
            L.brIs mixed 1 _ true h7 (by kernel_rfl) <|
            L.ret _ mixed Try.func23 _ (by kernel_rfl) rfl)
            (fun h7 =>
            L.litF mixed 5 (([a0.e1.U, a0.e1.V] : List Int)) [(0, (Value.int IntKind.i64 a0.e1.U)), (1, (Value.int IntKind.i64 a0.e1.V))] (by kernel_rfl) rfl (by kernel_rfl) (by kernel_rfl) <|
            L.callO mixed (fun u8 : Bool => .bool u8) (cgeom_within K 65536 [a0.e1.U, a0.e1.V]) (by kernel_rfl) (fun u8 hu8 =>
            L.br mixed 3 _ (by kernel_rfl)
              (fun h9 =>
              L.ret _ mixed Try.func23 _ (by kernel_rfl) rfl)
              (fun h9 =>
              L.call mixed (ktint a0.e1.C) (by kernel_rfl) <|
              L.br mixed 3 _ (by kernel_rfl)
                (fun h10 =>
                L.ret _ mixed Try.func23 _ (by kernel_rfl) rfl)
                (fun h10 =>
                L.litF mixed 33 (([a0.e2.X, a0.e2.Y, a0.e2.Z] : List Int)) [(0, (Value.int IntKind.i64 a0.e2.X)), (1, (Value.int IntKind.i64 a0.e2.Y)), (2, (Value.int IntKind.i64 a0.e2.Z))] (by kernel_rfl) rfl (by kernel_rfl) (by kernel_rfl) <|
                L.callO mixed (fun u11 : Bool => .bool u11) (cgeom_within K 1048576 [a0.e2.X, a0.e2.Y, a0.e2.Z]) (by kernel_rfl) (fun u11 hu11 =>
                L.br mixed 3 _ (by kernel_rfl)
                  (fun h12 =>
                  L.brIs mixed 1 _ true h12 (by kernel_rfl) <|
                  L.ret _ mixed Try.func23 _ (by kernel_rfl) rfl)
                  (fun h12 =>
                  L.litF mixed 5 (([a0.e2.U, a0.e2.V] : List Int)) [(0, (Value.int IntKind.i64 a0.e2.U)), (1, (Value.int IntKind.i64 a0.e2.V))] (by kernel_rfl) rfl (by kernel_rfl) (by kernel_rfl) <|
                  L.callO mixed (fun u13 : Bool => .bool u13) (cgeom_within K 65536 [a0.e2.U, a0.e2.V]) (by kernel_rfl) (fun u13 hu13 =>
                  L.br mixed 3 _ (by kernel_rfl)
                    (fun h14 =>
                    L.ret _ mixed Try.func23 _ (by kernel_rfl) rfl)
                    (fun h14 =>
                    L.call mixed (ktint a0.e2.C) (by kernel_rfl) <|
                    L.br mixed 3 _ (by kernel_rfl)
                      (fun h15 =>
                      L.ret _ mixed Try.func23 _ (by kernel_rfl) rfl)
                      (fun h15 =>
                      L.ret _ mixed Try.func23 _ (by kernel_rfl) rfl)))))))))))))))
/-! ### 24 -/
abbrev Egeom_spots : List TSpot × Int → Value := fun r => .tuple ⟨[lst r.1, .int .i64 r.2]⟩
def Fgeom_spots (K : Nat) (a0 : TState) (a1 : A3TVertex) : Option (List TSpot × Int) :=
  (Ffetch_Corners K a0.M a1).bind fun u1 =>
  bif (u1.snd != 0) then
    some ((([] : List TSpot), u1.snd))
  else
    (Fclip_All K [u1.fst.e0, u1.fst.e1, u1.fst.e2]).bind fun u3 =>
    bif (u3.snd != 0) then
      some ((([] : List TSpot), u3.snd))
    else
      (Fview_Poly K u3.fst a0.View).bind fun u5 =>
      some ((u5.fst, u5.snd))
theorem cgeom_spots (K : Nat) (a0 : TState) (a1 : A3TVertex) : ∀ r, Fgeom_spots K a0 a1 = some r → Con Try.prog 24 [.agg ⟨[.int .i64 a0.M.e0, .int .i64 a0.M.e1, .int .i64 a0.M.e2, .int .i64 a0.M.e3, .int .i64 a0.M.e4, .int .i64 a0.M.e5, .int .i64 a0.M.e6, .int .i64 a0.M.e7, .int .i64 a0.M.e8, .int .i64 a0.M.e9, .int .i64 a0.M.e10, .int .i64 a0.M.e11, .int .i64 a0.M.e12, .int .i64 a0.M.e13, .int .i64 a0.M.e14, .int .i64 a0.M.e15, .int .i64 a0.View.X0, .int .i64 a0.View.Y0, .int .i64 a0.View.X1, .int .i64 a0.View.Y1, .int .i64 a0.Sciss.X0, .int .i64 a0.Sciss.Y0, .int .i64 a0.Sciss.X1, .int .i64 a0.Sciss.Y1, .int .i64 a0.DFn, .bool a0.DPut, .int .i64 a0.St.Fn, .int .i64 a0.St.Ref, .int .i64 a0.St.Read, .int .i64 a0.St.Write, .int .i64 a0.St.Fail, .int .i64 a0.St.ZFail, .int .i64 a0.St.Pass, .int .i64 a0.Bl.Src, .int .i64 a0.Bl.Dst, .int .i64 a0.Bl.Eq, .int .i64 a0.Bl.Mask, .int .i64 a0.Cull, .int .i64 a0.Tex, .int .i64 a0.Wrap, .bool a0.Soft]⟩, .agg ⟨[.int .i64 a1.e0.X, .int .i64 a1.e0.Y, .int .i64 a1.e0.Z, .int .i64 a1.e0.C.R, .int .i64 a1.e0.C.G, .int .i64 a1.e0.C.B, .int .i64 a1.e0.C.A, .int .i64 a1.e0.U, .int .i64 a1.e0.V, .int .i64 a1.e1.X, .int .i64 a1.e1.Y, .int .i64 a1.e1.Z, .int .i64 a1.e1.C.R, .int .i64 a1.e1.C.G, .int .i64 a1.e1.C.B, .int .i64 a1.e1.C.A, .int .i64 a1.e1.U, .int .i64 a1.e1.V, .int .i64 a1.e2.X, .int .i64 a1.e2.Y, .int .i64 a1.e2.Z, .int .i64 a1.e2.C.R, .int .i64 a1.e2.C.G, .int .i64 a1.e2.C.B, .int .i64 a1.e2.C.A, .int .i64 a1.e2.U, .int .i64 a1.e2.V]⟩] (Egeom_spots r) := by
  refine Con.lift Try.func24 (by kernel_rfl) rfl (fun _ => rfl) ?_
  unfold Fgeom_spots
  exact
    L.callO mixed (fun u1 : A3TCorner × Int => .tuple ⟨[.agg ⟨[.int .i64 u1.1.e0.P.X, .int .i64 u1.1.e0.P.Y, .int .i64 u1.1.e0.P.Z, .int .i64 u1.1.e0.P.W, .int .i64 u1.1.e0.A.e0, .int .i64 u1.1.e0.A.e1, .int .i64 u1.1.e0.A.e2, .int .i64 u1.1.e0.A.e3, .int .i64 u1.1.e0.A.e4, .int .i64 u1.1.e0.A.e5, .int .i64 u1.1.e1.P.X, .int .i64 u1.1.e1.P.Y, .int .i64 u1.1.e1.P.Z, .int .i64 u1.1.e1.P.W, .int .i64 u1.1.e1.A.e0, .int .i64 u1.1.e1.A.e1, .int .i64 u1.1.e1.A.e2, .int .i64 u1.1.e1.A.e3, .int .i64 u1.1.e1.A.e4, .int .i64 u1.1.e1.A.e5, .int .i64 u1.1.e2.P.X, .int .i64 u1.1.e2.P.Y, .int .i64 u1.1.e2.P.Z, .int .i64 u1.1.e2.P.W, .int .i64 u1.1.e2.A.e0, .int .i64 u1.1.e2.A.e1, .int .i64 u1.1.e2.A.e2, .int .i64 u1.1.e2.A.e3, .int .i64 u1.1.e2.A.e4, .int .i64 u1.1.e2.A.e5]⟩, .int .i64 u1.2]⟩) (cfetch_Corners K a0.M a1) (by kernel_rfl) (fun u1 hu1 =>
    L.br mixed 13 _ (by kernel_rfl)
      (fun h2 =>
      L.frzNil mixed 6 4 (by kernel_rfl) <|
      L.ret _ mixed Try.func24 _ (by kernel_rfl) rfl)
      (fun h2 =>
      L.frzP mixed 2 6 2 0 0 [(Value.int IntKind.i64 u1.fst.e0.P.X), (Value.int IntKind.i64 u1.fst.e0.P.Y), (Value.int IntKind.i64 u1.fst.e0.P.Z), (Value.int IntKind.i64 u1.fst.e0.P.W), (Value.int IntKind.i64 u1.fst.e0.A.e0), (Value.int IntKind.i64 u1.fst.e0.A.e1), (Value.int IntKind.i64 u1.fst.e0.A.e2), (Value.int IntKind.i64 u1.fst.e0.A.e3), (Value.int IntKind.i64 u1.fst.e0.A.e4), (Value.int IntKind.i64 u1.fst.e0.A.e5), (Value.int IntKind.i64 u1.fst.e1.P.X), (Value.int IntKind.i64 u1.fst.e1.P.Y), (Value.int IntKind.i64 u1.fst.e1.P.Z), (Value.int IntKind.i64 u1.fst.e1.P.W), (Value.int IntKind.i64 u1.fst.e1.A.e0), (Value.int IntKind.i64 u1.fst.e1.A.e1), (Value.int IntKind.i64 u1.fst.e1.A.e2), (Value.int IntKind.i64 u1.fst.e1.A.e3), (Value.int IntKind.i64 u1.fst.e1.A.e4), (Value.int IntKind.i64 u1.fst.e1.A.e5), (Value.int IntKind.i64 u1.fst.e2.P.X), (Value.int IntKind.i64 u1.fst.e2.P.Y), (Value.int IntKind.i64 u1.fst.e2.P.Z), (Value.int IntKind.i64 u1.fst.e2.P.W), (Value.int IntKind.i64 u1.fst.e2.A.e0), (Value.int IntKind.i64 u1.fst.e2.A.e1), (Value.int IntKind.i64 u1.fst.e2.A.e2), (Value.int IntKind.i64 u1.fst.e2.A.e3), (Value.int IntKind.i64 u1.fst.e2.A.e4), (Value.int IntKind.i64 u1.fst.e2.A.e5)] (by kernel_rfl) (by kernel_rfl) (by kernel_rfl) (by kernel_rfl) <|
      L.slP mixed 1 (([u1.fst.e0, u1.fst.e1, u1.fst.e2] : List TCorner)) (by kernel_rfl) <|
      L.callO mixed (fun u3 : List TCorner × Int => .tuple ⟨[lst u3.1, .int .i64 u3.2]⟩) (cclip_All K [u1.fst.e0, u1.fst.e1, u1.fst.e2]) (by kernel_rfl) (fun u3 hu3 =>
      L.br mixed 12 _ (by kernel_rfl)
        (fun h4 =>
        L.frzNil mixed 6 4 (by kernel_rfl) <|
        L.ret _ mixed Try.func24 _ (by kernel_rfl) rfl)
        (fun h4 =>
        L.callO mixed (fun u5 : List TSpot × Int => .tuple ⟨[lst u5.1, .int .i64 u5.2]⟩) (cview_Poly K u3.fst a0.View) (by kernel_rfl) (fun u5 hu5 =>
        L.ret _ mixed Try.func24 _ (by kernel_rfl) rfl)))))
/-! ### 25 -/
abbrev Etri_Setup : TTri × Bool × Int → Value := fun r => .tuple ⟨[.agg ⟨[.int .i64 r.1.S.e0.P.X, .int .i64 r.1.S.e0.P.Y, .int .i64 r.1.S.e0.Z, .int .i64 r.1.S.e0.A.e0, .int .i64 r.1.S.e0.A.e1, .int .i64 r.1.S.e0.A.e2, .int .i64 r.1.S.e0.A.e3, .int .i64 r.1.S.e0.A.e4, .int .i64 r.1.S.e0.A.e5, .int .i64 r.1.S.e1.P.X, .int .i64 r.1.S.e1.P.Y, .int .i64 r.1.S.e1.Z, .int .i64 r.1.S.e1.A.e0, .int .i64 r.1.S.e1.A.e1, .int .i64 r.1.S.e1.A.e2, .int .i64 r.1.S.e1.A.e3, .int .i64 r.1.S.e1.A.e4, .int .i64 r.1.S.e1.A.e5, .int .i64 r.1.S.e2.P.X, .int .i64 r.1.S.e2.P.Y, .int .i64 r.1.S.e2.Z, .int .i64 r.1.S.e2.A.e0, .int .i64 r.1.S.e2.A.e1, .int .i64 r.1.S.e2.A.e2, .int .i64 r.1.S.e2.A.e3, .int .i64 r.1.S.e2.A.e4, .int .i64 r.1.S.e2.A.e5, .int .i64 r.1.Area, .int .i64 r.1.Box.X0, .int .i64 r.1.Box.Y0, .int .i64 r.1.Box.X1, .int .i64 r.1.Box.Y1]⟩, .bool r.2.1, .int .i64 r.2.2]⟩
def Ftri_Setup (K : Nat) (a0 : A3TSpot) (a1 : Int) : Option (TTri × Bool × Int) :=
  bif (decide (a1 < 0)) then
    some (((⟨(⟨(⟨(⟨0, 0⟩ : TPoint), 0, (⟨0, 0, 0, 0, 0, 0⟩ : A6I)⟩ : TSpot), (⟨(⟨0, 0⟩ : TPoint), 0, (⟨0, 0, 0, 0, 0, 0⟩ : A6I)⟩ : TSpot), (⟨(⟨0, 0⟩ : TPoint), 0, (⟨0, 0, 0, 0, 0, 0⟩ : A6I)⟩ : TSpot)⟩ : A3TSpot), 0, (⟨0, 0, 0, 0⟩ : TRect)⟩ : TTri), false, 9))
  else
    bif (bif false then true else decide (a1 > 2)) then
      some (((⟨(⟨(⟨(⟨0, 0⟩ : TPoint), 0, (⟨0, 0, 0, 0, 0, 0⟩ : A6I)⟩ : TSpot), (⟨(⟨0, 0⟩ : TPoint), 0, (⟨0, 0, 0, 0, 0, 0⟩ : A6I)⟩ : TSpot), (⟨(⟨0, 0⟩ : TPoint), 0, (⟨0, 0, 0, 0, 0, 0⟩ : A6I)⟩ : TSpot)⟩ : A3TSpot), 0, (⟨0, 0, 0, 0⟩ : TRect)⟩ : TTri), false, 9))
    else
      bif (!Fmays a0.e0) then
        some (((⟨(⟨(⟨(⟨0, 0⟩ : TPoint), 0, (⟨0, 0, 0, 0, 0, 0⟩ : A6I)⟩ : TSpot), (⟨(⟨0, 0⟩ : TPoint), 0, (⟨0, 0, 0, 0, 0, 0⟩ : A6I)⟩ : TSpot), (⟨(⟨0, 0⟩ : TPoint), 0, (⟨0, 0, 0, 0, 0, 0⟩ : A6I)⟩ : TSpot)⟩ : A3TSpot), 0, (⟨0, 0, 0, 0⟩ : TRect)⟩ : TTri), false, 3))
      else
        bif (!Fmays a0.e1) then
          some (((⟨(⟨(⟨(⟨0, 0⟩ : TPoint), 0, (⟨0, 0, 0, 0, 0, 0⟩ : A6I)⟩ : TSpot), (⟨(⟨0, 0⟩ : TPoint), 0, (⟨0, 0, 0, 0, 0, 0⟩ : A6I)⟩ : TSpot), (⟨(⟨0, 0⟩ : TPoint), 0, (⟨0, 0, 0, 0, 0, 0⟩ : A6I)⟩ : TSpot)⟩ : A3TSpot), 0, (⟨0, 0, 0, 0⟩ : TRect)⟩ : TTri), false, 3))
        else
          bif (!Fmays a0.e2) then
            some (((⟨(⟨(⟨(⟨0, 0⟩ : TPoint), 0, (⟨0, 0, 0, 0, 0, 0⟩ : A6I)⟩ : TSpot), (⟨(⟨0, 0⟩ : TPoint), 0, (⟨0, 0, 0, 0, 0, 0⟩ : A6I)⟩ : TSpot), (⟨(⟨0, 0⟩ : TPoint), 0, (⟨0, 0, 0, 0, 0, 0⟩ : A6I)⟩ : TSpot)⟩ : A3TSpot), 0, (⟨0, 0, 0, 0⟩ : TRect)⟩ : TTri), false, 3))
          else
            bif ((Fedge a0.e0.P a0.e1.P a0.e2.P).snd != 0) then
              some (((⟨(⟨(⟨(⟨0, 0⟩ : TPoint), 0, (⟨0, 0, 0, 0, 0, 0⟩ : A6I)⟩ : TSpot), (⟨(⟨0, 0⟩ : TPoint), 0, (⟨0, 0, 0, 0, 0, 0⟩ : A6I)⟩ : TSpot), (⟨(⟨0, 0⟩ : TPoint), 0, (⟨0, 0, 0, 0, 0, 0⟩ : A6I)⟩ : TSpot)⟩ : A3TSpot), 0, (⟨0, 0, 0, 0⟩ : TRect)⟩ : TTri), false, (Fedge a0.e0.P a0.e1.P a0.e2.P).snd))
            else
              bif (bif false then true else (Fedge a0.e0.P a0.e1.P a0.e2.P).fst == 0) then
                some (((⟨(⟨(⟨(⟨0, 0⟩ : TPoint), 0, (⟨0, 0, 0, 0, 0, 0⟩ : A6I)⟩ : TSpot), (⟨(⟨0, 0⟩ : TPoint), 0, (⟨0, 0, 0, 0, 0, 0⟩ : A6I)⟩ : TSpot), (⟨(⟨0, 0⟩ : TPoint), 0, (⟨0, 0, 0, 0, 0, 0⟩ : A6I)⟩ : TSpot)⟩ : A3TSpot), 0, (⟨0, 0, 0, 0⟩ : TRect)⟩ : TTri), false, (Fedge a0.e0.P a0.e1.P a0.e2.P).snd))
              else
                bif (decide ((Fedge a0.e0.P a0.e1.P a0.e2.P).fst < 0)) then
                  bif (bif false then true else bif true then a1 == 1 else false) then
                    some (((⟨(⟨(⟨(⟨0, 0⟩ : TPoint), 0, (⟨0, 0, 0, 0, 0, 0⟩ : A6I)⟩ : TSpot), (⟨(⟨0, 0⟩ : TPoint), 0, (⟨0, 0, 0, 0, 0, 0⟩ : A6I)⟩ : TSpot), (⟨(⟨0, 0⟩ : TPoint), 0, (⟨0, 0, 0, 0, 0, 0⟩ : A6I)⟩ : TSpot)⟩ : A3TSpot), 0, (⟨0, 0, 0, 0⟩ : TRect)⟩ : TTri), false, (Fedge a0.e0.P a0.e1.P a0.e2.P).snd))
                  else
                    bif (decide ((Fedge a0.e0.P a0.e1.P a0.e2.P).fst > 0)) then
                      bif (bif false then true else bif true then a1 == 2 else false) then
                        some (((⟨(⟨(⟨(⟨0, 0⟩ : TPoint), 0, (⟨0, 0, 0, 0, 0, 0⟩ : A6I)⟩ : TSpot), (⟨(⟨0, 0⟩ : TPoint), 0, (⟨0, 0, 0, 0, 0, 0⟩ : A6I)⟩ : TSpot), (⟨(⟨0, 0⟩ : TPoint), 0, (⟨0, 0, 0, 0, 0, 0⟩ : A6I)⟩ : TSpot)⟩ : A3TSpot), 0, (⟨0, 0, 0, 0⟩ : TRect)⟩ : TTri), false, (Fedge a0.e0.P a0.e1.P a0.e2.P).snd))
                      else
                        (Fbox K ((⟨a0.e0, a0.e2, a0.e1⟩ : A3TSpot))).bind fun u12 =>
                        some (((⟨(⟨a0.e0, a0.e2, a0.e1⟩ : A3TSpot), IntKind.i64.wrap (0 - (Fedge a0.e0.P a0.e1.P a0.e2.P).fst), u12⟩ : TTri), true, 0))
                    else
                      (Fbox K ((⟨a0.e0, a0.e2, a0.e1⟩ : A3TSpot))).bind fun u13 =>
                      some (((⟨(⟨a0.e0, a0.e2, a0.e1⟩ : A3TSpot), IntKind.i64.wrap (0 - (Fedge a0.e0.P a0.e1.P a0.e2.P).fst), u13⟩ : TTri), true, 0))
                else
                  bif (decide ((Fedge a0.e0.P a0.e1.P a0.e2.P).fst > 0)) then
                    bif (bif bif false then true else false then true else bif true then a1 == 2 else false) then
                      some (((⟨(⟨(⟨(⟨0, 0⟩ : TPoint), 0, (⟨0, 0, 0, 0, 0, 0⟩ : A6I)⟩ : TSpot), (⟨(⟨0, 0⟩ : TPoint), 0, (⟨0, 0, 0, 0, 0, 0⟩ : A6I)⟩ : TSpot), (⟨(⟨0, 0⟩ : TPoint), 0, (⟨0, 0, 0, 0, 0, 0⟩ : A6I)⟩ : TSpot)⟩ : A3TSpot), 0, (⟨0, 0, 0, 0⟩ : TRect)⟩ : TTri), false, (Fedge a0.e0.P a0.e1.P a0.e2.P).snd))
                    else
                      (Fbox K a0).bind fun u16 =>
                      some (((⟨a0, (Fedge a0.e0.P a0.e1.P a0.e2.P).fst, u16⟩ : TTri), true, 0))
                  else
                    (Fbox K a0).bind fun u17 =>
                    some (((⟨a0, (Fedge a0.e0.P a0.e1.P a0.e2.P).fst, u17⟩ : TTri), true, 0))
theorem ctri_Setup (K : Nat) (a0 : A3TSpot) (a1 : Int) : ∀ r, Ftri_Setup K a0 a1 = some r → Con Try.prog 25 [.agg ⟨[.int .i64 a0.e0.P.X, .int .i64 a0.e0.P.Y, .int .i64 a0.e0.Z, .int .i64 a0.e0.A.e0, .int .i64 a0.e0.A.e1, .int .i64 a0.e0.A.e2, .int .i64 a0.e0.A.e3, .int .i64 a0.e0.A.e4, .int .i64 a0.e0.A.e5, .int .i64 a0.e1.P.X, .int .i64 a0.e1.P.Y, .int .i64 a0.e1.Z, .int .i64 a0.e1.A.e0, .int .i64 a0.e1.A.e1, .int .i64 a0.e1.A.e2, .int .i64 a0.e1.A.e3, .int .i64 a0.e1.A.e4, .int .i64 a0.e1.A.e5, .int .i64 a0.e2.P.X, .int .i64 a0.e2.P.Y, .int .i64 a0.e2.Z, .int .i64 a0.e2.A.e0, .int .i64 a0.e2.A.e1, .int .i64 a0.e2.A.e2, .int .i64 a0.e2.A.e3, .int .i64 a0.e2.A.e4, .int .i64 a0.e2.A.e5]⟩, .int .i64 a1] (Etri_Setup r) := by
  refine Con.lift Try.func25 (by kernel_rfl) rfl (fun _ => rfl) ?_
  unfold Ftri_Setup
  exact
    L.gu mixed 13 _ (by kernel_rfl)
      (fun h1 =>
      L.ret _ mixed Try.func25 _ (by kernel_rfl) rfl)
      (fun h1 =>
      L.br mixed 4 _ (by kernel_rfl)
        (fun h2 =>
        L.ret _ mixed Try.func25 _ (by kernel_rfl) rfl)
        (fun h2 =>
        L.call mixed (kmays a0.e0) (by kernel_rfl) <|
        L.br mixed 2 _ (by kernel_rfl)
          (fun h3 =>
          L.ret _ mixed Try.func25 _ (by kernel_rfl) rfl)
          (fun h3 =>
          L.call mixed (kmays a0.e1) (by kernel_rfl) <|
          L.br mixed 2 _ (by kernel_rfl)
            (fun h4 =>
            L.ret _ mixed Try.func25 _ (by kernel_rfl) rfl)
            (fun h4 =>
            L.call mixed (kmays a0.e2) (by kernel_rfl) <|
            L.br mixed 2 _ (by kernel_rfl)
              (fun h5 =>
              L.ret _ mixed Try.func25 _ (by kernel_rfl) rfl)
              (fun h5 =>
              L.call mixed (kedge a0.e0.P a0.e1.P a0.e2.P) (by kernel_rfl) <|
              L.gu mixed 12 _ (by kernel_rfl)
                (fun h6 =>
                L.ret _ mixed Try.func25 _ (by kernel_rfl) rfl)
                (fun h6 =>
                L.gu mixed 4 _ (by kernel_rfl)
                  (fun h7 =>
                  L.ret _ mixed Try.func25 _ (by kernel_rfl) rfl)
                  (fun h7 =>
                  L.gu mixed 3 _ (by kernel_rfl)
                    (fun h8 =>
                    L.gu mixed 5 _ (by kernel_rfl)
                      (fun h9 =>
                      L.ret _ mixed Try.func25 _ (by kernel_rfl) rfl)
                      (fun h9 =>
                      L.gu mixed 3 _ (by kernel_rfl)
                        (fun h10 =>
                        L.br mixed 5 _ (by kernel_rfl)
                          (fun h11 =>
                          L.ret _ mixed Try.func25 _ (by kernel_rfl) rfl)
                          (fun h11 =>
                          L.brIs mixed 7 _ true h8 (by kernel_rfl) <|
                          L.callO mixed (fun u12 : TRect => .agg ⟨[.int .i64 u12.X0, .int .i64 u12.Y0, .int .i64 u12.X1, .int .i64 u12.Y1]⟩) (kbox K ((⟨a0.e0, a0.e2, a0.e1⟩ : A3TSpot))) (by kernel_rfl) (fun u12 hu12 =>
                          L.ret _ mixed Try.func25 _ (by kernel_rfl) rfl)))
                        (fun h10 =>
                        L.brIs mixed 13 _ true h8 (by kernel_rfl) <|
                        L.callO mixed (fun u13 : TRect => .agg ⟨[.int .i64 u13.X0, .int .i64 u13.Y0, .int .i64 u13.X1, .int .i64 u13.Y1]⟩) (kbox K ((⟨a0.e0, a0.e2, a0.e1⟩ : A3TSpot))) (by kernel_rfl) (fun u13 hu13 =>
                        L.ret _ mixed Try.func25 _ (by kernel_rfl) rfl))))
                    (fun h8 =>
                    L.gu mixed 8 _ (by kernel_rfl)
                      (fun h14 =>
                      L.br mixed 5 _ (by kernel_rfl)
                        (fun h15 =>
                        L.ret _ mixed Try.func25 _ (by kernel_rfl) rfl)
                        (fun h15 =>
                        L.brIs mixed 7 _ false h8 (by kernel_rfl) <|
                        L.callO mixed (fun u16 : TRect => .agg ⟨[.int .i64 u16.X0, .int .i64 u16.Y0, .int .i64 u16.X1, .int .i64 u16.Y1]⟩) (kbox K a0) (by kernel_rfl) (fun u16 hu16 =>
                        L.ret _ mixed Try.func25 _ (by kernel_rfl) rfl)))
                      (fun h14 =>
                      L.brIs mixed 13 _ false h8 (by kernel_rfl) <|
                      L.callO mixed (fun u17 : TRect => .agg ⟨[.int .i64 u17.X0, .int .i64 u17.Y0, .int .i64 u17.X1, .int .i64 u17.Y1]⟩) (kbox K a0) (by kernel_rfl) (fun u17 hu17 =>
                      L.ret _ mixed Try.func25 _ (by kernel_rfl) rfl))))))))))
/-! ### 8 -/
abbrev Egeom_Tris : List TTri × Int → Value := fun r => .tuple ⟨[lst r.1, .int .i64 r.2]⟩
def Fgeom_Tris_12 (a0 : TState) (a1 : A3TVertex) : Nat → (List TSpot) → (List TTri) → Int → Option (List TTri × Int)
  | 0, _, _, _ => none
  | K + 1, p8, p10, p11 =>
    bif (decide (p11 < (↑p8.length : Int))) then
      bif inR 0 p8.length then
        bif inR (IntKind.i64.wrap (p11 - 1)) p8.length then
          bif inR p11 p8.length then
            (Ftri_Setup K ((⟨(getR p8 0), (getR p8 (IntKind.i64.wrap (p11 - 1)).toNat), (getR p8 p11.toNat)⟩ : A3TSpot)) a0.Cull).bind fun u16 =>
            bif u16.snd.fst then
              bif room (p10.length + ([u16.fst] : List TTri).length) 256 then
                Fgeom_Tris_12 a0 a1 K p8 (p10 ++ [u16.fst]) (IntKind.i64.wrap (p11 + 1))
              else none
            else
              Fgeom_Tris_12 a0 a1 K p8 p10 (IntKind.i64.wrap (p11 + 1))
          else none
        else none
      else none
    else
      some ((p10, 0))
def Fgeom_Tris (K : Nat) (a0 : TState) (a1 : A3TVertex) : Option (List TTri × Int) :=
  bif (Fst a0 != 0) then
    some ((([] : List TTri), Fst a0))
  else
    (Fgeom_check K a1).bind fun u2 =>
    bif (u2 != 0) then
      some ((([] : List TTri), u2))
    else
      (Fgeom_spots K a0 a1).bind fun u4 =>
      bif (u4.snd != 0) then
        some ((([] : List TTri), u4.snd))
      else
        Fgeom_Tris_12 a0 a1 K u4.fst [] 2
def Hgeom_Tris_1210N (fn : Func) (a0 : TState) (a1 : A3TVertex) (p8 : List TSpot) (p11 : Int) : VS := headS fn 12 [(2, (frp [(Value.int IntKind.i64 a0.M.e0), (Value.int IntKind.i64 a0.M.e1), (Value.int IntKind.i64 a0.M.e2), (Value.int IntKind.i64 a0.M.e3), (Value.int IntKind.i64 a0.M.e4), (Value.int IntKind.i64 a0.M.e5), (Value.int IntKind.i64 a0.M.e6), (Value.int IntKind.i64 a0.M.e7), (Value.int IntKind.i64 a0.M.e8), (Value.int IntKind.i64 a0.M.e9), (Value.int IntKind.i64 a0.M.e10), (Value.int IntKind.i64 a0.M.e11), (Value.int IntKind.i64 a0.M.e12), (Value.int IntKind.i64 a0.M.e13), (Value.int IntKind.i64 a0.M.e14), (Value.int IntKind.i64 a0.M.e15), (Value.int IntKind.i64 a0.View.X0), (Value.int IntKind.i64 a0.View.Y0), (Value.int IntKind.i64 a0.View.X1), (Value.int IntKind.i64 a0.View.Y1), (Value.int IntKind.i64 a0.Sciss.X0), (Value.int IntKind.i64 a0.Sciss.Y0), (Value.int IntKind.i64 a0.Sciss.X1), (Value.int IntKind.i64 a0.Sciss.Y1), (Value.int IntKind.i64 a0.DFn), (Value.bool a0.DPut), (Value.int IntKind.i64 a0.St.Fn), (Value.int IntKind.i64 a0.St.Ref), (Value.int IntKind.i64 a0.St.Read), (Value.int IntKind.i64 a0.St.Write), (Value.int IntKind.i64 a0.St.Fail), (Value.int IntKind.i64 a0.St.ZFail), (Value.int IntKind.i64 a0.St.Pass), (Value.int IntKind.i64 a0.Bl.Src), (Value.int IntKind.i64 a0.Bl.Dst), (Value.int IntKind.i64 a0.Bl.Eq), (Value.int IntKind.i64 a0.Bl.Mask), (Value.int IntKind.i64 a0.Cull), (Value.int IntKind.i64 a0.Tex), (Value.int IntKind.i64 a0.Wrap), (Value.bool a0.Soft)] 0)), (8, lst p8), (10, .slice none 0 0), (11, .int .i64 p11)] []
def Hgeom_Tris_1210O (fn : Func) (a0 : TState) (a1 : A3TVertex) (p8 : List TSpot) (np10 : Nat) (p10 : List TTri) (p11 : Int) : VS := headS fn 12 [(2, (frp [(Value.int IntKind.i64 a0.M.e0), (Value.int IntKind.i64 a0.M.e1), (Value.int IntKind.i64 a0.M.e2), (Value.int IntKind.i64 a0.M.e3), (Value.int IntKind.i64 a0.M.e4), (Value.int IntKind.i64 a0.M.e5), (Value.int IntKind.i64 a0.M.e6), (Value.int IntKind.i64 a0.M.e7), (Value.int IntKind.i64 a0.M.e8), (Value.int IntKind.i64 a0.M.e9), (Value.int IntKind.i64 a0.M.e10), (Value.int IntKind.i64 a0.M.e11), (Value.int IntKind.i64 a0.M.e12), (Value.int IntKind.i64 a0.M.e13), (Value.int IntKind.i64 a0.M.e14), (Value.int IntKind.i64 a0.M.e15), (Value.int IntKind.i64 a0.View.X0), (Value.int IntKind.i64 a0.View.Y0), (Value.int IntKind.i64 a0.View.X1), (Value.int IntKind.i64 a0.View.Y1), (Value.int IntKind.i64 a0.Sciss.X0), (Value.int IntKind.i64 a0.Sciss.Y0), (Value.int IntKind.i64 a0.Sciss.X1), (Value.int IntKind.i64 a0.Sciss.Y1), (Value.int IntKind.i64 a0.DFn), (Value.bool a0.DPut), (Value.int IntKind.i64 a0.St.Fn), (Value.int IntKind.i64 a0.St.Ref), (Value.int IntKind.i64 a0.St.Read), (Value.int IntKind.i64 a0.St.Write), (Value.int IntKind.i64 a0.St.Fail), (Value.int IntKind.i64 a0.St.ZFail), (Value.int IntKind.i64 a0.St.Pass), (Value.int IntKind.i64 a0.Bl.Src), (Value.int IntKind.i64 a0.Bl.Dst), (Value.int IntKind.i64 a0.Bl.Eq), (Value.int IntKind.i64 a0.Bl.Mask), (Value.int IntKind.i64 a0.Cull), (Value.int IntKind.i64 a0.Tex), (Value.int IntKind.i64 a0.Wrap), (Value.bool a0.Soft)] 0)), (8, lst p8), (10, .slice (some ⟨0, 0, none⟩) np10 np10), (11, .int .i64 p11)] [ownB p10]
theorem lgeom_Tris (a0 : TState) (a1 : A3TVertex) : ∀ K : Nat, (∀ (p8 : List TSpot) (p11 : Int), Lifts Try.prog 8 0 Egeom_Tris (Hgeom_Tris_1210N Try.f8 a0 a1 p8 p11) (Fgeom_Tris_12 a0 a1 K p8 [] p11)) ∧ (∀ (p8 : List TSpot) (np10 : Nat) (p10 : List TTri) (_ : np10 = p10.length) (p11 : Int), Lifts Try.prog 8 0 Egeom_Tris (Hgeom_Tris_1210O Try.f8 a0 a1 p8 np10 p10 p11) (Fgeom_Tris_12 a0 a1 K p8 p10 p11)) := by
  intro K
  induction K with
  | zero =>
    exact ⟨fun p8 p11 => (by rw [Fgeom_Tris_12]; exact L.no), fun p8 np10 p10 ep10 p11 => (by rw [Fgeom_Tris_12]; exact L.no)⟩
  | succ K ih =>
    obtain ⟨IH1210N, IH1210O⟩ := ih
    refine ⟨fun p8 p11 => ?_, fun p8 np10 p10 ep10 p11 => ?_⟩
    · rw [Fgeom_Tris_12]
      exact
        L.br mixed 8 _ (by kernel_rfl)
          (fun h6 =>
          L.idx mixed 6 _ (rows p8) 9 IntKind.i64 _ (by kernel_rfl) (fun h7a h7b =>
          L.ld mixed 0 49 (rows p8) ((0 : Int).toNat * 9 + 0) (.agg ⟨[.int .i64 (getR p8 (0 : Int).toNat).P.X, .int .i64 (getR p8 (0 : Int).toNat).P.Y, .int .i64 (getR p8 (0 : Int).toNat).Z, .int .i64 (getR p8 (0 : Int).toNat).A.e0, .int .i64 (getR p8 (0 : Int).toNat).A.e1, .int .i64 (getR p8 (0 : Int).toNat).A.e2, .int .i64 (getR p8 (0 : Int).toNat).A.e3, .int .i64 (getR p8 (0 : Int).toNat).A.e4, .int .i64 (getR p8 (0 : Int).toNat).A.e5]⟩) (by kernel_rfl) (loadN_rows (i := (0 : Int).toNat) (d := 0) (k := 9) rfl (toNat_lt h7a h7b) (by kernel_rfl) (by kernel_rfl) (Nat.le_of_ble_eq_true (by kernel_rfl)) (by kernel_rfl)) <|
          L.idx mixed 3 _ (rows p8) 9 IntKind.i64 _ (by kernel_rfl) (fun h8a h8b =>
          L.ld mixed 0 49 (rows p8) ((IntKind.i64.wrap (p11 - 1)).toNat * 9 + 0) (.agg ⟨[.int .i64 (getR p8 (IntKind.i64.wrap (p11 - 1)).toNat).P.X, .int .i64 (getR p8 (IntKind.i64.wrap (p11 - 1)).toNat).P.Y, .int .i64 (getR p8 (IntKind.i64.wrap (p11 - 1)).toNat).Z, .int .i64 (getR p8 (IntKind.i64.wrap (p11 - 1)).toNat).A.e0, .int .i64 (getR p8 (IntKind.i64.wrap (p11 - 1)).toNat).A.e1, .int .i64 (getR p8 (IntKind.i64.wrap (p11 - 1)).toNat).A.e2, .int .i64 (getR p8 (IntKind.i64.wrap (p11 - 1)).toNat).A.e3, .int .i64 (getR p8 (IntKind.i64.wrap (p11 - 1)).toNat).A.e4, .int .i64 (getR p8 (IntKind.i64.wrap (p11 - 1)).toNat).A.e5]⟩) (by kernel_rfl) (loadN_rows (i := (IntKind.i64.wrap (p11 - 1)).toNat) (d := 0) (k := 9) rfl (toNat_lt h8a h8b) (by kernel_rfl) (by kernel_rfl) (Nat.le_of_ble_eq_true (by kernel_rfl)) (by kernel_rfl)) <|
          L.idx mixed 2 _ (rows p8) 9 IntKind.i64 _ (by kernel_rfl) (fun h9a h9b =>
          L.ld mixed 0 49 (rows p8) (p11.toNat * 9 + 0) (.agg ⟨[.int .i64 (getR p8 p11.toNat).P.X, .int .i64 (getR p8 p11.toNat).P.Y, .int .i64 (getR p8 p11.toNat).Z, .int .i64 (getR p8 p11.toNat).A.e0, .int .i64 (getR p8 p11.toNat).A.e1, .int .i64 (getR p8 p11.toNat).A.e2, .int .i64 (getR p8 p11.toNat).A.e3, .int .i64 (getR p8 p11.toNat).A.e4, .int .i64 (getR p8 p11.toNat).A.e5]⟩) (by kernel_rfl) (loadN_rows (i := p11.toNat) (d := 0) (k := 9) rfl (toNat_lt h9a h9b) (by kernel_rfl) (by kernel_rfl) (Nat.le_of_ble_eq_true (by kernel_rfl)) (by kernel_rfl)) <|
          L.ld mixed 2 3 [(Value.int IntKind.i64 a0.M.e0), (Value.int IntKind.i64 a0.M.e1), (Value.int IntKind.i64 a0.M.e2), (Value.int IntKind.i64 a0.M.e3), (Value.int IntKind.i64 a0.M.e4), (Value.int IntKind.i64 a0.M.e5), (Value.int IntKind.i64 a0.M.e6), (Value.int IntKind.i64 a0.M.e7), (Value.int IntKind.i64 a0.M.e8), (Value.int IntKind.i64 a0.M.e9), (Value.int IntKind.i64 a0.M.e10), (Value.int IntKind.i64 a0.M.e11), (Value.int IntKind.i64 a0.M.e12), (Value.int IntKind.i64 a0.M.e13), (Value.int IntKind.i64 a0.M.e14), (Value.int IntKind.i64 a0.M.e15), (Value.int IntKind.i64 a0.View.X0), (Value.int IntKind.i64 a0.View.Y0), (Value.int IntKind.i64 a0.View.X1), (Value.int IntKind.i64 a0.View.Y1), (Value.int IntKind.i64 a0.Sciss.X0), (Value.int IntKind.i64 a0.Sciss.Y0), (Value.int IntKind.i64 a0.Sciss.X1), (Value.int IntKind.i64 a0.Sciss.Y1), (Value.int IntKind.i64 a0.DFn), (Value.bool a0.DPut), (Value.int IntKind.i64 a0.St.Fn), (Value.int IntKind.i64 a0.St.Ref), (Value.int IntKind.i64 a0.St.Read), (Value.int IntKind.i64 a0.St.Write), (Value.int IntKind.i64 a0.St.Fail), (Value.int IntKind.i64 a0.St.ZFail), (Value.int IntKind.i64 a0.St.Pass), (Value.int IntKind.i64 a0.Bl.Src), (Value.int IntKind.i64 a0.Bl.Dst), (Value.int IntKind.i64 a0.Bl.Eq), (Value.int IntKind.i64 a0.Bl.Mask), (Value.int IntKind.i64 a0.Cull), (Value.int IntKind.i64 a0.Tex), (Value.int IntKind.i64 a0.Wrap), (Value.bool a0.Soft)] 37 ((Value.int IntKind.i64 a0.Cull)) (by kernel_rfl) (by kernel_rfl) <|
          L.callO mixed (fun u10 : TTri × Bool × Int => .tuple ⟨[.agg ⟨[.int .i64 u10.1.S.e0.P.X, .int .i64 u10.1.S.e0.P.Y, .int .i64 u10.1.S.e0.Z, .int .i64 u10.1.S.e0.A.e0, .int .i64 u10.1.S.e0.A.e1, .int .i64 u10.1.S.e0.A.e2, .int .i64 u10.1.S.e0.A.e3, .int .i64 u10.1.S.e0.A.e4, .int .i64 u10.1.S.e0.A.e5, .int .i64 u10.1.S.e1.P.X, .int .i64 u10.1.S.e1.P.Y, .int .i64 u10.1.S.e1.Z, .int .i64 u10.1.S.e1.A.e0, .int .i64 u10.1.S.e1.A.e1, .int .i64 u10.1.S.e1.A.e2, .int .i64 u10.1.S.e1.A.e3, .int .i64 u10.1.S.e1.A.e4, .int .i64 u10.1.S.e1.A.e5, .int .i64 u10.1.S.e2.P.X, .int .i64 u10.1.S.e2.P.Y, .int .i64 u10.1.S.e2.Z, .int .i64 u10.1.S.e2.A.e0, .int .i64 u10.1.S.e2.A.e1, .int .i64 u10.1.S.e2.A.e2, .int .i64 u10.1.S.e2.A.e3, .int .i64 u10.1.S.e2.A.e4, .int .i64 u10.1.S.e2.A.e5, .int .i64 u10.1.Area, .int .i64 u10.1.Box.X0, .int .i64 u10.1.Box.Y0, .int .i64 u10.1.Box.X1, .int .i64 u10.1.Box.Y1]⟩, .bool u10.2.1, .int .i64 u10.2.2]⟩) (ctri_Setup K ((⟨(getR p8 0), (getR p8 (IntKind.i64.wrap (p11 - 1)).toNat), (getR p8 p11.toNat)⟩ : A3TSpot)) a0.Cull) (by kernel_rfl) (fun u10 hu10 =>
          L.br mixed 13 _ (by kernel_rfl)
            (fun h11 =>
            L.push0 mixed 4 256 1 0 [(Value.int IntKind.i64 u10.fst.S.e0.P.X), (Value.int IntKind.i64 u10.fst.S.e0.P.Y), (Value.int IntKind.i64 u10.fst.S.e0.Z), (Value.int IntKind.i64 u10.fst.S.e0.A.e0), (Value.int IntKind.i64 u10.fst.S.e0.A.e1), (Value.int IntKind.i64 u10.fst.S.e0.A.e2), (Value.int IntKind.i64 u10.fst.S.e0.A.e3), (Value.int IntKind.i64 u10.fst.S.e0.A.e4), (Value.int IntKind.i64 u10.fst.S.e0.A.e5), (Value.int IntKind.i64 u10.fst.S.e1.P.X), (Value.int IntKind.i64 u10.fst.S.e1.P.Y), (Value.int IntKind.i64 u10.fst.S.e1.Z), (Value.int IntKind.i64 u10.fst.S.e1.A.e0), (Value.int IntKind.i64 u10.fst.S.e1.A.e1), (Value.int IntKind.i64 u10.fst.S.e1.A.e2), (Value.int IntKind.i64 u10.fst.S.e1.A.e3), (Value.int IntKind.i64 u10.fst.S.e1.A.e4), (Value.int IntKind.i64 u10.fst.S.e1.A.e5), (Value.int IntKind.i64 u10.fst.S.e2.P.X), (Value.int IntKind.i64 u10.fst.S.e2.P.Y), (Value.int IntKind.i64 u10.fst.S.e2.Z), (Value.int IntKind.i64 u10.fst.S.e2.A.e0), (Value.int IntKind.i64 u10.fst.S.e2.A.e1), (Value.int IntKind.i64 u10.fst.S.e2.A.e2), (Value.int IntKind.i64 u10.fst.S.e2.A.e3), (Value.int IntKind.i64 u10.fst.S.e2.A.e4), (Value.int IntKind.i64 u10.fst.S.e2.A.e5), (Value.int IntKind.i64 u10.fst.Area), (Value.int IntKind.i64 u10.fst.Box.X0), (Value.int IntKind.i64 u10.fst.Box.Y0), (Value.int IntKind.i64 u10.fst.Box.X1), (Value.int IntKind.i64 u10.fst.Box.Y1)] ([u10.fst] : List TTri) (by kernel_rfl) (Nat.le_of_ble_eq_true (by kernel_rfl)) (Nat.le_of_ble_eq_true (by kernel_rfl)) (by kernel_rfl) <|
            L.jumpG mixed 9 [2, 8, 10, 11] [.ownp 2] [rows [u10.fst]] (by kernel_rfl) (by kernel_rfl) (by kernel_rfl) ⟨rows_pure _, trivial⟩ (by kernel_rfl) (by kernel_rfl) (IH1210O p8 [u10.fst].length [u10.fst] (by first | rfl | exact Eq.symm (by assumption) | (simp; done) | (simp [*]; done)) (IntKind.i64.wrap (p11 + 1))))
            (fun h11 =>
            L.jumpG mixed 8 [2, 8, 10, 11] [] [] (by kernel_rfl) (by kernel_rfl) (by kernel_rfl) trivial (by kernel_rfl) (by kernel_rfl) (IH1210N p8 (IntKind.i64.wrap (p11 + 1)))))))))
          (fun h6 =>
          L.frzNil mixed 7 4 (by kernel_rfl) <|
          L.ret _ mixed Try.func8 _ (by kernel_rfl) rfl)
    · subst ep10; rw [Fgeom_Tris_12]
      exact
        L.br mixed 8 _ (by kernel_rfl)
          (fun h12 =>
          L.idx mixed 6 _ (rows p8) 9 IntKind.i64 _ (by kernel_rfl) (fun h13a h13b =>
          L.ld mixed 0 49 (rows p8) ((0 : Int).toNat * 9 + 0) (.agg ⟨[.int .i64 (getR p8 (0 : Int).toNat).P.X, .int .i64 (getR p8 (0 : Int).toNat).P.Y, .int .i64 (getR p8 (0 : Int).toNat).Z, .int .i64 (getR p8 (0 : Int).toNat).A.e0, .int .i64 (getR p8 (0 : Int).toNat).A.e1, .int .i64 (getR p8 (0 : Int).toNat).A.e2, .int .i64 (getR p8 (0 : Int).toNat).A.e3, .int .i64 (getR p8 (0 : Int).toNat).A.e4, .int .i64 (getR p8 (0 : Int).toNat).A.e5]⟩) (by kernel_rfl) (loadN_rows (i := (0 : Int).toNat) (d := 0) (k := 9) rfl (toNat_lt h13a h13b) (by kernel_rfl) (by kernel_rfl) (Nat.le_of_ble_eq_true (by kernel_rfl)) (by kernel_rfl)) <|
          L.idx mixed 3 _ (rows p8) 9 IntKind.i64 _ (by kernel_rfl) (fun h14a h14b =>
          L.ld mixed 0 49 (rows p8) ((IntKind.i64.wrap (p11 - 1)).toNat * 9 + 0) (.agg ⟨[.int .i64 (getR p8 (IntKind.i64.wrap (p11 - 1)).toNat).P.X, .int .i64 (getR p8 (IntKind.i64.wrap (p11 - 1)).toNat).P.Y, .int .i64 (getR p8 (IntKind.i64.wrap (p11 - 1)).toNat).Z, .int .i64 (getR p8 (IntKind.i64.wrap (p11 - 1)).toNat).A.e0, .int .i64 (getR p8 (IntKind.i64.wrap (p11 - 1)).toNat).A.e1, .int .i64 (getR p8 (IntKind.i64.wrap (p11 - 1)).toNat).A.e2, .int .i64 (getR p8 (IntKind.i64.wrap (p11 - 1)).toNat).A.e3, .int .i64 (getR p8 (IntKind.i64.wrap (p11 - 1)).toNat).A.e4, .int .i64 (getR p8 (IntKind.i64.wrap (p11 - 1)).toNat).A.e5]⟩) (by kernel_rfl) (loadN_rows (i := (IntKind.i64.wrap (p11 - 1)).toNat) (d := 0) (k := 9) rfl (toNat_lt h14a h14b) (by kernel_rfl) (by kernel_rfl) (Nat.le_of_ble_eq_true (by kernel_rfl)) (by kernel_rfl)) <|
          L.idx mixed 2 _ (rows p8) 9 IntKind.i64 _ (by kernel_rfl) (fun h15a h15b =>
          L.ld mixed 0 49 (rows p8) (p11.toNat * 9 + 0) (.agg ⟨[.int .i64 (getR p8 p11.toNat).P.X, .int .i64 (getR p8 p11.toNat).P.Y, .int .i64 (getR p8 p11.toNat).Z, .int .i64 (getR p8 p11.toNat).A.e0, .int .i64 (getR p8 p11.toNat).A.e1, .int .i64 (getR p8 p11.toNat).A.e2, .int .i64 (getR p8 p11.toNat).A.e3, .int .i64 (getR p8 p11.toNat).A.e4, .int .i64 (getR p8 p11.toNat).A.e5]⟩) (by kernel_rfl) (loadN_rows (i := p11.toNat) (d := 0) (k := 9) rfl (toNat_lt h15a h15b) (by kernel_rfl) (by kernel_rfl) (Nat.le_of_ble_eq_true (by kernel_rfl)) (by kernel_rfl)) <|
          L.ld mixed 2 3 [(Value.int IntKind.i64 a0.M.e0), (Value.int IntKind.i64 a0.M.e1), (Value.int IntKind.i64 a0.M.e2), (Value.int IntKind.i64 a0.M.e3), (Value.int IntKind.i64 a0.M.e4), (Value.int IntKind.i64 a0.M.e5), (Value.int IntKind.i64 a0.M.e6), (Value.int IntKind.i64 a0.M.e7), (Value.int IntKind.i64 a0.M.e8), (Value.int IntKind.i64 a0.M.e9), (Value.int IntKind.i64 a0.M.e10), (Value.int IntKind.i64 a0.M.e11), (Value.int IntKind.i64 a0.M.e12), (Value.int IntKind.i64 a0.M.e13), (Value.int IntKind.i64 a0.M.e14), (Value.int IntKind.i64 a0.M.e15), (Value.int IntKind.i64 a0.View.X0), (Value.int IntKind.i64 a0.View.Y0), (Value.int IntKind.i64 a0.View.X1), (Value.int IntKind.i64 a0.View.Y1), (Value.int IntKind.i64 a0.Sciss.X0), (Value.int IntKind.i64 a0.Sciss.Y0), (Value.int IntKind.i64 a0.Sciss.X1), (Value.int IntKind.i64 a0.Sciss.Y1), (Value.int IntKind.i64 a0.DFn), (Value.bool a0.DPut), (Value.int IntKind.i64 a0.St.Fn), (Value.int IntKind.i64 a0.St.Ref), (Value.int IntKind.i64 a0.St.Read), (Value.int IntKind.i64 a0.St.Write), (Value.int IntKind.i64 a0.St.Fail), (Value.int IntKind.i64 a0.St.ZFail), (Value.int IntKind.i64 a0.St.Pass), (Value.int IntKind.i64 a0.Bl.Src), (Value.int IntKind.i64 a0.Bl.Dst), (Value.int IntKind.i64 a0.Bl.Eq), (Value.int IntKind.i64 a0.Bl.Mask), (Value.int IntKind.i64 a0.Cull), (Value.int IntKind.i64 a0.Tex), (Value.int IntKind.i64 a0.Wrap), (Value.bool a0.Soft)] 37 ((Value.int IntKind.i64 a0.Cull)) (by kernel_rfl) (by kernel_rfl) <|
          L.callO mixed (fun u16 : TTri × Bool × Int => .tuple ⟨[.agg ⟨[.int .i64 u16.1.S.e0.P.X, .int .i64 u16.1.S.e0.P.Y, .int .i64 u16.1.S.e0.Z, .int .i64 u16.1.S.e0.A.e0, .int .i64 u16.1.S.e0.A.e1, .int .i64 u16.1.S.e0.A.e2, .int .i64 u16.1.S.e0.A.e3, .int .i64 u16.1.S.e0.A.e4, .int .i64 u16.1.S.e0.A.e5, .int .i64 u16.1.S.e1.P.X, .int .i64 u16.1.S.e1.P.Y, .int .i64 u16.1.S.e1.Z, .int .i64 u16.1.S.e1.A.e0, .int .i64 u16.1.S.e1.A.e1, .int .i64 u16.1.S.e1.A.e2, .int .i64 u16.1.S.e1.A.e3, .int .i64 u16.1.S.e1.A.e4, .int .i64 u16.1.S.e1.A.e5, .int .i64 u16.1.S.e2.P.X, .int .i64 u16.1.S.e2.P.Y, .int .i64 u16.1.S.e2.Z, .int .i64 u16.1.S.e2.A.e0, .int .i64 u16.1.S.e2.A.e1, .int .i64 u16.1.S.e2.A.e2, .int .i64 u16.1.S.e2.A.e3, .int .i64 u16.1.S.e2.A.e4, .int .i64 u16.1.S.e2.A.e5, .int .i64 u16.1.Area, .int .i64 u16.1.Box.X0, .int .i64 u16.1.Box.Y0, .int .i64 u16.1.Box.X1, .int .i64 u16.1.Box.Y1]⟩, .bool u16.2.1, .int .i64 u16.2.2]⟩) (ctri_Setup K ((⟨(getR p8 0), (getR p8 (IntKind.i64.wrap (p11 - 1)).toNat), (getR p8 p11.toNat)⟩ : A3TSpot)) a0.Cull) (by kernel_rfl) (fun u16 hu16 =>
          L.br mixed 13 _ (by kernel_rfl)
            (fun h17 =>
            L.app mixed 4 0 256 2 0 p10.length [(Value.int IntKind.i64 u16.fst.S.e0.P.X), (Value.int IntKind.i64 u16.fst.S.e0.P.Y), (Value.int IntKind.i64 u16.fst.S.e0.Z), (Value.int IntKind.i64 u16.fst.S.e0.A.e0), (Value.int IntKind.i64 u16.fst.S.e0.A.e1), (Value.int IntKind.i64 u16.fst.S.e0.A.e2), (Value.int IntKind.i64 u16.fst.S.e0.A.e3), (Value.int IntKind.i64 u16.fst.S.e0.A.e4), (Value.int IntKind.i64 u16.fst.S.e0.A.e5), (Value.int IntKind.i64 u16.fst.S.e1.P.X), (Value.int IntKind.i64 u16.fst.S.e1.P.Y), (Value.int IntKind.i64 u16.fst.S.e1.Z), (Value.int IntKind.i64 u16.fst.S.e1.A.e0), (Value.int IntKind.i64 u16.fst.S.e1.A.e1), (Value.int IntKind.i64 u16.fst.S.e1.A.e2), (Value.int IntKind.i64 u16.fst.S.e1.A.e3), (Value.int IntKind.i64 u16.fst.S.e1.A.e4), (Value.int IntKind.i64 u16.fst.S.e1.A.e5), (Value.int IntKind.i64 u16.fst.S.e2.P.X), (Value.int IntKind.i64 u16.fst.S.e2.P.Y), (Value.int IntKind.i64 u16.fst.S.e2.Z), (Value.int IntKind.i64 u16.fst.S.e2.A.e0), (Value.int IntKind.i64 u16.fst.S.e2.A.e1), (Value.int IntKind.i64 u16.fst.S.e2.A.e2), (Value.int IntKind.i64 u16.fst.S.e2.A.e3), (Value.int IntKind.i64 u16.fst.S.e2.A.e4), (Value.int IntKind.i64 u16.fst.S.e2.A.e5), (Value.int IntKind.i64 u16.fst.Area), (Value.int IntKind.i64 u16.fst.Box.X0), (Value.int IntKind.i64 u16.fst.Box.Y0), (Value.int IntKind.i64 u16.fst.Box.X1), (Value.int IntKind.i64 u16.fst.Box.Y1)] p10 ([u16.fst] : List TTri) (by first | rfl | exact Eq.symm (by assumption) | (simp; done) | (simp [*]; done)) (by kernel_rfl) (by kernel_rfl) (Nat.le_of_ble_eq_true (by kernel_rfl)) (Nat.le_of_ble_eq_true (by kernel_rfl)) (by kernel_rfl) <|
            L.jumpG mixed 9 [2, 8, 10, 11] [.ownp 3] [rows (p10 ++ [u16.fst])] (by kernel_rfl) (by kernel_rfl) (by kernel_rfl) ⟨rows_pure _, trivial⟩ (by kernel_rfl) (by kernel_rfl) (IH1210O p8 ((p10 ++ [u16.fst]).length) (p10 ++ [u16.fst]) (by first | rfl | exact Eq.symm (by assumption) | (simp; done) | (simp [*]; done)) (IntKind.i64.wrap (p11 + 1))))
            (fun h17 =>
            L.jumpG mixed 8 [2, 8, 10, 11] [.ownp 0] [rows p10] (by kernel_rfl) (by kernel_rfl) (by kernel_rfl) ⟨rows_pure _, trivial⟩ (by kernel_rfl) (by kernel_rfl) (IH1210O p8 p10.length p10 (by first | rfl | exact Eq.symm (by assumption) | (simp; done) | (simp [*]; done)) (IntKind.i64.wrap (p11 + 1)))))))))
          (fun h12 =>
          L.frzO mixed 7 4 0 p10.length p10 (by first | rfl | exact Eq.symm (by assumption) | (simp; done) | (simp [*]; done)) (by kernel_rfl) (by kernel_rfl) (by kernel_rfl) <|
          L.ret _ mixed Try.func8 _ (by kernel_rfl) rfl)
theorem cgeom_Tris (K : Nat) (a0 : TState) (a1 : A3TVertex) : ∀ r, Fgeom_Tris K a0 a1 = some r → Con Try.prog 8 [.agg ⟨[.int .i64 a0.M.e0, .int .i64 a0.M.e1, .int .i64 a0.M.e2, .int .i64 a0.M.e3, .int .i64 a0.M.e4, .int .i64 a0.M.e5, .int .i64 a0.M.e6, .int .i64 a0.M.e7, .int .i64 a0.M.e8, .int .i64 a0.M.e9, .int .i64 a0.M.e10, .int .i64 a0.M.e11, .int .i64 a0.M.e12, .int .i64 a0.M.e13, .int .i64 a0.M.e14, .int .i64 a0.M.e15, .int .i64 a0.View.X0, .int .i64 a0.View.Y0, .int .i64 a0.View.X1, .int .i64 a0.View.Y1, .int .i64 a0.Sciss.X0, .int .i64 a0.Sciss.Y0, .int .i64 a0.Sciss.X1, .int .i64 a0.Sciss.Y1, .int .i64 a0.DFn, .bool a0.DPut, .int .i64 a0.St.Fn, .int .i64 a0.St.Ref, .int .i64 a0.St.Read, .int .i64 a0.St.Write, .int .i64 a0.St.Fail, .int .i64 a0.St.ZFail, .int .i64 a0.St.Pass, .int .i64 a0.Bl.Src, .int .i64 a0.Bl.Dst, .int .i64 a0.Bl.Eq, .int .i64 a0.Bl.Mask, .int .i64 a0.Cull, .int .i64 a0.Tex, .int .i64 a0.Wrap, .bool a0.Soft]⟩, .agg ⟨[.int .i64 a1.e0.X, .int .i64 a1.e0.Y, .int .i64 a1.e0.Z, .int .i64 a1.e0.C.R, .int .i64 a1.e0.C.G, .int .i64 a1.e0.C.B, .int .i64 a1.e0.C.A, .int .i64 a1.e0.U, .int .i64 a1.e0.V, .int .i64 a1.e1.X, .int .i64 a1.e1.Y, .int .i64 a1.e1.Z, .int .i64 a1.e1.C.R, .int .i64 a1.e1.C.G, .int .i64 a1.e1.C.B, .int .i64 a1.e1.C.A, .int .i64 a1.e1.U, .int .i64 a1.e1.V, .int .i64 a1.e2.X, .int .i64 a1.e2.Y, .int .i64 a1.e2.Z, .int .i64 a1.e2.C.R, .int .i64 a1.e2.C.G, .int .i64 a1.e2.C.B, .int .i64 a1.e2.C.A, .int .i64 a1.e2.U, .int .i64 a1.e2.V]⟩] (Egeom_Tris r) := by
  obtain ⟨IH1210N, IH1210O⟩ := lgeom_Tris a0 a1 K
  refine Con.lift Try.func8 (by kernel_rfl) rfl (fun _ => rfl) ?_
  unfold Fgeom_Tris
  exact
    L.call mixed (kst a0) (by kernel_rfl) <|
    L.br mixed 7 _ (by kernel_rfl)
      (fun h1 =>
      L.frzNil mixed 6 4 (by kernel_rfl) <|
      L.ret _ mixed Try.func8 _ (by kernel_rfl) rfl)
      (fun h1 =>
      L.callO mixed (fun u2 : Int => .int .i64 u2) (cgeom_check K a1) (by kernel_rfl) (fun u2 hu2 =>
      L.br mixed 7 _ (by kernel_rfl)
        (fun h3 =>
        L.frzNil mixed 6 4 (by kernel_rfl) <|
        L.ret _ mixed Try.func8 _ (by kernel_rfl) rfl)
        (fun h3 =>
        L.callO mixed (fun u4 : List TSpot × Int => .tuple ⟨[lst u4.1, .int .i64 u4.2]⟩) (cgeom_spots K a0 a1) (by kernel_rfl) (fun u4 hu4 =>
        L.br mixed 12 _ (by kernel_rfl)
          (fun h5 =>
          L.frzNil mixed 6 4 (by kernel_rfl) <|
          L.ret _ mixed Try.func8 _ (by kernel_rfl) rfl)
          (fun h5 =>
          L.frzP mixed 11 2 0 0 0 [(Value.int IntKind.i64 a0.M.e0), (Value.int IntKind.i64 a0.M.e1), (Value.int IntKind.i64 a0.M.e2), (Value.int IntKind.i64 a0.M.e3), (Value.int IntKind.i64 a0.M.e4), (Value.int IntKind.i64 a0.M.e5), (Value.int IntKind.i64 a0.M.e6), (Value.int IntKind.i64 a0.M.e7), (Value.int IntKind.i64 a0.M.e8), (Value.int IntKind.i64 a0.M.e9), (Value.int IntKind.i64 a0.M.e10), (Value.int IntKind.i64 a0.M.e11), (Value.int IntKind.i64 a0.M.e12), (Value.int IntKind.i64 a0.M.e13), (Value.int IntKind.i64 a0.M.e14), (Value.int IntKind.i64 a0.M.e15), (Value.int IntKind.i64 a0.View.X0), (Value.int IntKind.i64 a0.View.Y0), (Value.int IntKind.i64 a0.View.X1), (Value.int IntKind.i64 a0.View.Y1), (Value.int IntKind.i64 a0.Sciss.X0), (Value.int IntKind.i64 a0.Sciss.Y0), (Value.int IntKind.i64 a0.Sciss.X1), (Value.int IntKind.i64 a0.Sciss.Y1), (Value.int IntKind.i64 a0.DFn), (Value.bool a0.DPut), (Value.int IntKind.i64 a0.St.Fn), (Value.int IntKind.i64 a0.St.Ref), (Value.int IntKind.i64 a0.St.Read), (Value.int IntKind.i64 a0.St.Write), (Value.int IntKind.i64 a0.St.Fail), (Value.int IntKind.i64 a0.St.ZFail), (Value.int IntKind.i64 a0.St.Pass), (Value.int IntKind.i64 a0.Bl.Src), (Value.int IntKind.i64 a0.Bl.Dst), (Value.int IntKind.i64 a0.Bl.Eq), (Value.int IntKind.i64 a0.Bl.Mask), (Value.int IntKind.i64 a0.Cull), (Value.int IntKind.i64 a0.Tex), (Value.int IntKind.i64 a0.Wrap), (Value.bool a0.Soft)] (by kernel_rfl) (by kernel_rfl) (by kernel_rfl) (by kernel_rfl) <|
          L.jumpG mixed 1 [2, 8, 10, 11] [] [] (by kernel_rfl) (by kernel_rfl) (by kernel_rfl) trivial (by kernel_rfl) (by kernel_rfl) (IH1210N u4.fst 2))))))
/-! ### 29 -/
abbrev ER01_Floor : Int → Value := fun r => .int .i64 r
def FR01_Floor (K : Nat) (a0 : Int) (a1 : Int) : Option Int :=
  bif (a0 == -9223372036854775808) then
    bif (bif true then a1 == -1 else false) then
      some 9223372036854775807
    else
      bif a1 != 0 then
        bif (decide (IntKind.i64.wrap (a0 - IntKind.i64.wrap (IntKind.i64.wrap (a0.tdiv a1) * a1)) < 0)) then
          bif (bif true then decide (a1 > 0) else false) then
            some (IntKind.i64.wrap (IntKind.i64.wrap (a0.tdiv a1) - 1))
          else
            bif (decide (IntKind.i64.wrap (a0 - IntKind.i64.wrap (IntKind.i64.wrap (a0.tdiv a1) * a1)) > 0)) then
              bif (bif false then true else bif true then decide (a1 < 0) else false) then
                some (IntKind.i64.wrap (IntKind.i64.wrap (a0.tdiv a1) - 1))
              else
                some (IntKind.i64.wrap (a0.tdiv a1))
            else
              some (IntKind.i64.wrap (a0.tdiv a1))
        else
          bif (decide (IntKind.i64.wrap (a0 - IntKind.i64.wrap (IntKind.i64.wrap (a0.tdiv a1) * a1)) > 0)) then
            bif (bif false then true else bif true then decide (a1 < 0) else false) then
              some (IntKind.i64.wrap (IntKind.i64.wrap (a0.tdiv a1) - 1))
            else
              some (IntKind.i64.wrap (a0.tdiv a1))
          else
            some (IntKind.i64.wrap (a0.tdiv a1))
      else none
  else
    bif a1 != 0 then
      bif (decide (IntKind.i64.wrap (a0 - IntKind.i64.wrap (IntKind.i64.wrap (a0.tdiv a1) * a1)) < 0)) then
        bif (bif true then decide (a1 > 0) else false) then
          some (IntKind.i64.wrap (IntKind.i64.wrap (a0.tdiv a1) - 1))
        else
          bif (decide (IntKind.i64.wrap (a0 - IntKind.i64.wrap (IntKind.i64.wrap (a0.tdiv a1) * a1)) > 0)) then
            bif (bif false then true else bif true then decide (a1 < 0) else false) then
              some (IntKind.i64.wrap (IntKind.i64.wrap (a0.tdiv a1) - 1))
            else
              some (IntKind.i64.wrap (a0.tdiv a1))
          else
            some (IntKind.i64.wrap (a0.tdiv a1))
      else
        bif (decide (IntKind.i64.wrap (a0 - IntKind.i64.wrap (IntKind.i64.wrap (a0.tdiv a1) * a1)) > 0)) then
          bif (bif false then true else bif true then decide (a1 < 0) else false) then
            some (IntKind.i64.wrap (IntKind.i64.wrap (a0.tdiv a1) - 1))
          else
            some (IntKind.i64.wrap (a0.tdiv a1))
        else
          some (IntKind.i64.wrap (a0.tdiv a1))
    else none
theorem cR01_Floor (K : Nat) (a0 : Int) (a1 : Int) : ∀ r, FR01_Floor K a0 a1 = some r → Con Try.prog 29 [.int .i64 a0, .int .i64 a1] (ER01_Floor r) := by
  refine Con.lift Try.func29 (by kernel_rfl) rfl (fun _ => rfl) ?_
  unfold FR01_Floor
  exact
    L.gu mixed 10 _ (by kernel_rfl)
      (fun h1 =>
      L.br mixed 4 _ (by kernel_rfl)
        (fun h2 =>
        L.ret _ mixed Try.func29 _ (by kernel_rfl) rfl)
        (fun h2 =>
        L.div mixed 5 false IntKind.i64 a0 _ (by kernel_rfl) (fun hd9 =>
        L.gu mixed 17 _ (by kernel_rfl)
          (fun h3 =>
          L.gu mixed 4 _ (by kernel_rfl)
            (fun h4 =>
            L.ret _ mixed Try.func29 _ (by kernel_rfl) rfl)
            (fun h4 =>
            L.gu mixed 3 _ (by kernel_rfl)
              (fun h5 =>
              L.br mixed 5 _ (by kernel_rfl)
                (fun h6 =>
                L.ret _ mixed Try.func29 _ (by kernel_rfl) rfl)
                (fun h6 =>
                L.ret _ mixed Try.func29 _ (by kernel_rfl) rfl))
              (fun h5 =>
              L.ret _ mixed Try.func29 _ (by kernel_rfl) rfl)))
          (fun h3 =>
          L.gu mixed 7 _ (by kernel_rfl)
            (fun h7 =>
            L.br mixed 5 _ (by kernel_rfl)
              (fun h8 =>
              L.ret _ mixed Try.func29 _ (by kernel_rfl) rfl)
              (fun h8 =>
              L.ret _ mixed Try.func29 _ (by kernel_rfl) rfl))
            (fun h7 =>
            L.ret _ mixed Try.func29 _ (by kernel_rfl) rfl)))))
      (fun h1 =>
      L.div mixed 10 false IntKind.i64 a0 _ (by kernel_rfl) (fun hd16 =>
      L.gu mixed 17 _ (by kernel_rfl)
        (fun h10 =>
        L.gu mixed 4 _ (by kernel_rfl)
          (fun h11 =>
          L.ret _ mixed Try.func29 _ (by kernel_rfl) rfl)
          (fun h11 =>
          L.gu mixed 3 _ (by kernel_rfl)
            (fun h12 =>
            L.br mixed 5 _ (by kernel_rfl)
              (fun h13 =>
              L.ret _ mixed Try.func29 _ (by kernel_rfl) rfl)
              (fun h13 =>
              L.ret _ mixed Try.func29 _ (by kernel_rfl) rfl))
            (fun h12 =>
            L.ret _ mixed Try.func29 _ (by kernel_rfl) rfl)))
        (fun h10 =>
        L.gu mixed 7 _ (by kernel_rfl)
          (fun h14 =>
          L.br mixed 5 _ (by kernel_rfl)
            (fun h15 =>
            L.ret _ mixed Try.func29 _ (by kernel_rfl) rfl)
            (fun h15 =>
            L.ret _ mixed Try.func29 _ (by kernel_rfl) rfl))
          (fun h14 =>
          L.ret _ mixed Try.func29 _ (by kernel_rfl) rfl))))
/-! ### 53 -/
abbrev ER05_row : Int → Value := fun r => .int .i64 r
def FR05_row (K : Nat) (a0 : TMat) (a1 : Int) (a2 : TVec) : Option Int :=
  bif inR (IntKind.i64.wrap (4 * a1)) 16 then
    bif inR (IntKind.i64.wrap (IntKind.i64.wrap (4 * a1) + 1)) 16 then
      bif inR (IntKind.i64.wrap (IntKind.i64.wrap (4 * a1) + 2)) 16 then
        bif inR (IntKind.i64.wrap (IntKind.i64.wrap (4 * a1) + 3)) 16 then
          (FR01_Floor K (IntKind.i64.wrap (IntKind.i64.wrap (IntKind.i64.wrap (IntKind.i64.wrap (getR [a0.e0, a0.e1, a0.e2, a0.e3, a0.e4, a0.e5, a0.e6, a0.e7, a0.e8, a0.e9, a0.e10, a0.e11, a0.e12, a0.e13, a0.e14, a0.e15] (IntKind.i64.wrap (4 * a1)).toNat * a2.X) + IntKind.i64.wrap (getR [a0.e0, a0.e1, a0.e2, a0.e3, a0.e4, a0.e5, a0.e6, a0.e7, a0.e8, a0.e9, a0.e10, a0.e11, a0.e12, a0.e13, a0.e14, a0.e15] (IntKind.i64.wrap (IntKind.i64.wrap (4 * a1) + 1)).toNat * a2.Y)) + IntKind.i64.wrap (getR [a0.e0, a0.e1, a0.e2, a0.e3, a0.e4, a0.e5, a0.e6, a0.e7, a0.e8, a0.e9, a0.e10, a0.e11, a0.e12, a0.e13, a0.e14, a0.e15] (IntKind.i64.wrap (IntKind.i64.wrap (4 * a1) + 2)).toNat * a2.Z)) + IntKind.i64.wrap (getR [a0.e0, a0.e1, a0.e2, a0.e3, a0.e4, a0.e5, a0.e6, a0.e7, a0.e8, a0.e9, a0.e10, a0.e11, a0.e12, a0.e13, a0.e14, a0.e15] (IntKind.i64.wrap (IntKind.i64.wrap (4 * a1) + 3)).toNat * a2.W))) 65536).bind fun u5 =>
          some u5
        else none
      else none
    else none
  else none
theorem cR05_row (K : Nat) (a0 : TMat) (a1 : Int) (a2 : TVec) : ∀ r, FR05_row K a0 a1 a2 = some r → Con Try.prog 53 [.agg ⟨[.int .i64 a0.e0, .int .i64 a0.e1, .int .i64 a0.e2, .int .i64 a0.e3, .int .i64 a0.e4, .int .i64 a0.e5, .int .i64 a0.e6, .int .i64 a0.e7, .int .i64 a0.e8, .int .i64 a0.e9, .int .i64 a0.e10, .int .i64 a0.e11, .int .i64 a0.e12, .int .i64 a0.e13, .int .i64 a0.e14, .int .i64 a0.e15]⟩, .int .i64 a1, .agg ⟨[.int .i64 a2.X, .int .i64 a2.Y, .int .i64 a2.Z, .int .i64 a2.W]⟩] (ER05_row r) := by
  refine Con.lift Try.func53 (by kernel_rfl) rfl (fun _ => rfl) ?_
  unfold FR05_row
  exact
    L.oidx mixed 10 0 0 _ 1 IntKind.i64 _ (by kernel_rfl) (fun h1a h1b =>
    L.old1 mixed 0 1 0 (0 + (IntKind.i64.wrap (4 * a1)).toNat * 1) (rows ([a0.e0, a0.e1, a0.e2, a0.e3, a0.e4, a0.e5, a0.e6, a0.e7, a0.e8, a0.e9, a0.e10, a0.e11, a0.e12, a0.e13, a0.e14, a0.e15] : List Int)) (.int .i64 (getR (([a0.e0, a0.e1, a0.e2, a0.e3, a0.e4, a0.e5, a0.e6, a0.e7, a0.e8, a0.e9, a0.e10, a0.e11, a0.e12, a0.e13, a0.e14, a0.e15] : List Int)) (IntKind.i64.wrap (4 * a1)).toNat)) (by kernel_rfl) (rows_sub1 (i := (IntKind.i64.wrap (4 * a1)).toNat) (d := 0) (by show 0 + (IntKind.i64.wrap (4 * a1)).toNat * 1 = (IntKind.i64.wrap (4 * a1)).toNat * 1 + 0; omega) (by have := (toNat_lt h1a h1b); simpa using this) (Nat.le_of_ble_eq_true (by kernel_rfl)) (by kernel_rfl)) <|
    L.oidx mixed 6 0 0 _ 1 IntKind.i64 _ (by kernel_rfl) (fun h2a h2b =>
    L.old1 mixed 0 1 0 (0 + (IntKind.i64.wrap (IntKind.i64.wrap (4 * a1) + 1)).toNat * 1) (rows ([a0.e0, a0.e1, a0.e2, a0.e3, a0.e4, a0.e5, a0.e6, a0.e7, a0.e8, a0.e9, a0.e10, a0.e11, a0.e12, a0.e13, a0.e14, a0.e15] : List Int)) (.int .i64 (getR (([a0.e0, a0.e1, a0.e2, a0.e3, a0.e4, a0.e5, a0.e6, a0.e7, a0.e8, a0.e9, a0.e10, a0.e11, a0.e12, a0.e13, a0.e14, a0.e15] : List Int)) (IntKind.i64.wrap (IntKind.i64.wrap (4 * a1) + 1)).toNat)) (by kernel_rfl) (rows_sub1 (i := (IntKind.i64.wrap (IntKind.i64.wrap (4 * a1) + 1)).toNat) (d := 0) (by show 0 + (IntKind.i64.wrap (IntKind.i64.wrap (4 * a1) + 1)).toNat * 1 = (IntKind.i64.wrap (IntKind.i64.wrap (4 * a1) + 1)).toNat * 1 + 0; omega) (by have := (toNat_lt h2a h2b); simpa using this) (Nat.le_of_ble_eq_true (by kernel_rfl)) (by kernel_rfl)) <|
    L.oidx mixed 7 0 0 _ 1 IntKind.i64 _ (by kernel_rfl) (fun h3a h3b =>
    L.old1 mixed 0 1 0 (0 + (IntKind.i64.wrap (IntKind.i64.wrap (4 * a1) + 2)).toNat * 1) (rows ([a0.e0, a0.e1, a0.e2, a0.e3, a0.e4, a0.e5, a0.e6, a0.e7, a0.e8, a0.e9, a0.e10, a0.e11, a0.e12, a0.e13, a0.e14, a0.e15] : List Int)) (.int .i64 (getR (([a0.e0, a0.e1, a0.e2, a0.e3, a0.e4, a0.e5, a0.e6, a0.e7, a0.e8, a0.e9, a0.e10, a0.e11, a0.e12, a0.e13, a0.e14, a0.e15] : List Int)) (IntKind.i64.wrap (IntKind.i64.wrap (4 * a1) + 2)).toNat)) (by kernel_rfl) (rows_sub1 (i := (IntKind.i64.wrap (IntKind.i64.wrap (4 * a1) + 2)).toNat) (d := 0) (by show 0 + (IntKind.i64.wrap (IntKind.i64.wrap (4 * a1) + 2)).toNat * 1 = (IntKind.i64.wrap (IntKind.i64.wrap (4 * a1) + 2)).toNat * 1 + 0; omega) (by have := (toNat_lt h3a h3b); simpa using this) (Nat.le_of_ble_eq_true (by kernel_rfl)) (by kernel_rfl)) <|
    L.oidx mixed 7 0 0 _ 1 IntKind.i64 _ (by kernel_rfl) (fun h4a h4b =>
    L.old1 mixed 0 1 0 (0 + (IntKind.i64.wrap (IntKind.i64.wrap (4 * a1) + 3)).toNat * 1) (rows ([a0.e0, a0.e1, a0.e2, a0.e3, a0.e4, a0.e5, a0.e6, a0.e7, a0.e8, a0.e9, a0.e10, a0.e11, a0.e12, a0.e13, a0.e14, a0.e15] : List Int)) (.int .i64 (getR (([a0.e0, a0.e1, a0.e2, a0.e3, a0.e4, a0.e5, a0.e6, a0.e7, a0.e8, a0.e9, a0.e10, a0.e11, a0.e12, a0.e13, a0.e14, a0.e15] : List Int)) (IntKind.i64.wrap (IntKind.i64.wrap (4 * a1) + 3)).toNat)) (by kernel_rfl) (rows_sub1 (i := (IntKind.i64.wrap (IntKind.i64.wrap (4 * a1) + 3)).toNat) (d := 0) (by show 0 + (IntKind.i64.wrap (IntKind.i64.wrap (4 * a1) + 3)).toNat * 1 = (IntKind.i64.wrap (IntKind.i64.wrap (4 * a1) + 3)).toNat * 1 + 0; omega) (by have := (toNat_lt h4a h4b); simpa using this) (Nat.le_of_ble_eq_true (by kernel_rfl)) (by kernel_rfl)) <|
    L.callO mixed (fun u5 : Int => .int .i64 u5) (cR01_Floor K (IntKind.i64.wrap (IntKind.i64.wrap (IntKind.i64.wrap (IntKind.i64.wrap (getR [a0.e0, a0.e1, a0.e2, a0.e3, a0.e4, a0.e5, a0.e6, a0.e7, a0.e8, a0.e9, a0.e10, a0.e11, a0.e12, a0.e13, a0.e14, a0.e15] (IntKind.i64.wrap (4 * a1)).toNat * a2.X) + IntKind.i64.wrap (getR [a0.e0, a0.e1, a0.e2, a0.e3, a0.e4, a0.e5, a0.e6, a0.e7, a0.e8, a0.e9, a0.e10, a0.e11, a0.e12, a0.e13, a0.e14, a0.e15] (IntKind.i64.wrap (IntKind.i64.wrap (4 * a1) + 1)).toNat * a2.Y)) + IntKind.i64.wrap (getR [a0.e0, a0.e1, a0.e2, a0.e3, a0.e4, a0.e5, a0.e6, a0.e7, a0.e8, a0.e9, a0.e10, a0.e11, a0.e12, a0.e13, a0.e14, a0.e15] (IntKind.i64.wrap (IntKind.i64.wrap (4 * a1) + 2)).toNat * a2.Z)) + IntKind.i64.wrap (getR [a0.e0, a0.e1, a0.e2, a0.e3, a0.e4, a0.e5, a0.e6, a0.e7, a0.e8, a0.e9, a0.e10, a0.e11, a0.e12, a0.e13, a0.e14, a0.e15] (IntKind.i64.wrap (IntKind.i64.wrap (4 * a1) + 3)).toNat * a2.W))) 65536) (by kernel_rfl) (fun u5 hu5 =>
    L.ret _ mixed Try.func53 _ (by kernel_rfl) rfl)))))
/-! ### 26 -/
abbrev ER05_Apply : TVec → Value := fun r => .agg ⟨[.int .i64 r.X, .int .i64 r.Y, .int .i64 r.Z, .int .i64 r.W]⟩
def FR05_Apply (K : Nat) (a0 : TMat) (a1 : TVec) : Option TVec :=
  (FR05_row K a0 0 a1).bind fun u1 =>
  (FR05_row K a0 1 a1).bind fun u2 =>
  (FR05_row K a0 2 a1).bind fun u3 =>
  (FR05_row K a0 3 a1).bind fun u4 =>
  some ((⟨u1, u2, u3, u4⟩ : TVec))
theorem cR05_Apply (K : Nat) (a0 : TMat) (a1 : TVec) : ∀ r, FR05_Apply K a0 a1 = some r → Con Try.prog 26 [.agg ⟨[.int .i64 a0.e0, .int .i64 a0.e1, .int .i64 a0.e2, .int .i64 a0.e3, .int .i64 a0.e4, .int .i64 a0.e5, .int .i64 a0.e6, .int .i64 a0.e7, .int .i64 a0.e8, .int .i64 a0.e9, .int .i64 a0.e10, .int .i64 a0.e11, .int .i64 a0.e12, .int .i64 a0.e13, .int .i64 a0.e14, .int .i64 a0.e15]⟩, .agg ⟨[.int .i64 a1.X, .int .i64 a1.Y, .int .i64 a1.Z, .int .i64 a1.W]⟩] (ER05_Apply r) := by
  refine Con.lift Try.func26 (by kernel_rfl) rfl (fun _ => rfl) ?_
  unfold FR05_Apply
  exact
    L.callO mixed (fun u1 : Int => .int .i64 u1) (cR05_row K a0 0 a1) (by kernel_rfl) (fun u1 hu1 =>
    L.callO mixed (fun u2 : Int => .int .i64 u2) (cR05_row K a0 1 a1) (by kernel_rfl) (fun u2 hu2 =>
    L.callO mixed (fun u3 : Int => .int .i64 u3) (cR05_row K a0 2 a1) (by kernel_rfl) (fun u3 hu3 =>
    L.callO mixed (fun u4 : Int => .int .i64 u4) (cR05_row K a0 3 a1) (by kernel_rfl) (fun u4 hu4 =>
    L.ret _ mixed Try.func26 _ (by kernel_rfl) rfl))))
/-! ### 27 -/
abbrev ER24_Place : TVec → Value := fun r => .agg ⟨[.int .i64 r.X, .int .i64 r.Y, .int .i64 r.Z, .int .i64 r.W]⟩
def FR24_Place (K : Nat) (a0 : TVertex) : Option TVec :=
  some ((⟨a0.X, a0.Y, a0.Z, 256⟩ : TVec))
theorem cR24_Place (K : Nat) (a0 : TVertex) : ∀ r, FR24_Place K a0 = some r → Con Try.prog 27 [.agg ⟨[.int .i64 a0.X, .int .i64 a0.Y, .int .i64 a0.Z, .int .i64 a0.C.R, .int .i64 a0.C.G, .int .i64 a0.C.B, .int .i64 a0.C.A, .int .i64 a0.U, .int .i64 a0.V]⟩] (ER24_Place r) := by
  refine Con.lift Try.func27 (by kernel_rfl) rfl (fun _ => rfl) ?_
  unfold FR24_Place
  exact
    L.ret _ mixed Try.func27 _ (by kernel_rfl) rfl
/-! ### 10 -/
abbrev ER24_Corner : TCorner → Value := fun r => .agg ⟨[.int .i64 r.P.X, .int .i64 r.P.Y, .int .i64 r.P.Z, .int .i64 r.P.W, .int .i64 r.A.e0, .int .i64 r.A.e1, .int .i64 r.A.e2, .int .i64 r.A.e3, .int .i64 r.A.e4, .int .i64 r.A.e5]⟩
def FR24_Corner (K : Nat) (a0 : TMat) (a1 : TVertex) : Option TCorner :=
  (FR24_Place K a1).bind fun u1 =>
  (FR05_Apply K a0 u1).bind fun u2 =>
  some ((⟨u2, (⟨a1.C.R, a1.C.G, a1.C.B, a1.C.A, a1.U, a1.V⟩ : A6I)⟩ : TCorner))
theorem cR24_Corner (K : Nat) (a0 : TMat) (a1 : TVertex) : ∀ r, FR24_Corner K a0 a1 = some r → Con Try.prog 10 [.agg ⟨[.int .i64 a0.e0, .int .i64 a0.e1, .int .i64 a0.e2, .int .i64 a0.e3, .int .i64 a0.e4, .int .i64 a0.e5, .int .i64 a0.e6, .int .i64 a0.e7, .int .i64 a0.e8, .int .i64 a0.e9, .int .i64 a0.e10, .int .i64 a0.e11, .int .i64 a0.e12, .int .i64 a0.e13, .int .i64 a0.e14, .int .i64 a0.e15]⟩, .agg ⟨[.int .i64 a1.X, .int .i64 a1.Y, .int .i64 a1.Z, .int .i64 a1.C.R, .int .i64 a1.C.G, .int .i64 a1.C.B, .int .i64 a1.C.A, .int .i64 a1.U, .int .i64 a1.V]⟩] (ER24_Corner r) := by
  refine Con.lift Try.func10 (by kernel_rfl) rfl (fun _ => rfl) ?_
  unfold FR24_Corner
  exact
    L.callO mixed (fun u1 : TVec => .agg ⟨[.int .i64 u1.X, .int .i64 u1.Y, .int .i64 u1.Z, .int .i64 u1.W]⟩) (cR24_Place K a1) (by kernel_rfl) (fun u1 hu1 =>
    L.callO mixed (fun u2 : TVec => .agg ⟨[.int .i64 u2.X, .int .i64 u2.Y, .int .i64 u2.Z, .int .i64 u2.W]⟩) (cR05_Apply K a0 u1) (by kernel_rfl) (fun u2 hu2 =>
    L.ret _ mixed Try.func10 _ (by kernel_rfl) rfl))
/-! ### 12 -/
abbrev ER16_Snap : TSpot → Value := fun r => .agg ⟨[.int .i64 r.P.X, .int .i64 r.P.Y, .int .i64 r.Z, .int .i64 r.A.e0, .int .i64 r.A.e1, .int .i64 r.A.e2, .int .i64 r.A.e3, .int .i64 r.A.e4, .int .i64 r.A.e5]⟩
def FR16_Snap (K : Nat) (a0 : TCorner) (a1 : TRect) : Option TSpot :=
  (FR01_Floor K (IntKind.i64.wrap (IntKind.i64.wrap (IntKind.i64.wrap (a0.P.X + a0.P.W) * 8) * IntKind.i64.wrap (a1.X1 - a1.X0))) a0.P.W).bind fun u1 =>
  (FR01_Floor K (IntKind.i64.wrap (IntKind.i64.wrap (IntKind.i64.wrap (a0.P.W - a0.P.Y) * 8) * IntKind.i64.wrap (a1.Y1 - a1.Y0))) a0.P.W).bind fun u2 =>
  (FR01_Floor K (IntKind.i64.wrap (IntKind.i64.wrap (a0.P.Z + a0.P.W) * 65535)) (IntKind.i64.wrap (2 * a0.P.W))).bind fun u3 =>
  some ((⟨(⟨Fsat (IntKind.i64.wrap (IntKind.i64.wrap (16 * a1.X0) + u1)) (-524288) 524288, Fsat (IntKind.i64.wrap (IntKind.i64.wrap (16 * a1.Y0) + u2)) (-524288) 524288⟩ : TPoint), Fsat u3 0 65535, a0.A⟩ : TSpot))
theorem cR16_Snap (K : Nat) (a0 : TCorner) (a1 : TRect) : ∀ r, FR16_Snap K a0 a1 = some r → Con Try.prog 12 [.agg ⟨[.int .i64 a0.P.X, .int .i64 a0.P.Y, .int .i64 a0.P.Z, .int .i64 a0.P.W, .int .i64 a0.A.e0, .int .i64 a0.A.e1, .int .i64 a0.A.e2, .int .i64 a0.A.e3, .int .i64 a0.A.e4, .int .i64 a0.A.e5]⟩, .agg ⟨[.int .i64 a1.X0, .int .i64 a1.Y0, .int .i64 a1.X1, .int .i64 a1.Y1]⟩] (ER16_Snap r) := by
  refine Con.lift Try.func12 (by kernel_rfl) rfl (fun _ => rfl) ?_
  unfold FR16_Snap
  exact
    L.callO mixed (fun u1 : Int => .int .i64 u1) (cR01_Floor K (IntKind.i64.wrap (IntKind.i64.wrap (IntKind.i64.wrap (a0.P.X + a0.P.W) * 8) * IntKind.i64.wrap (a1.X1 - a1.X0))) a0.P.W) (by kernel_rfl) (fun u1 hu1 =>
    L.call mixed (kRsat (IntKind.i64.wrap (IntKind.i64.wrap (16 * a1.X0) + u1)) (-524288) 524288) (by kernel_rfl) <|
    L.callO mixed (fun u2 : Int => .int .i64 u2) (cR01_Floor K (IntKind.i64.wrap (IntKind.i64.wrap (IntKind.i64.wrap (a0.P.W - a0.P.Y) * 8) * IntKind.i64.wrap (a1.Y1 - a1.Y0))) a0.P.W) (by kernel_rfl) (fun u2 hu2 =>
    L.call mixed (kRsat (IntKind.i64.wrap (IntKind.i64.wrap (16 * a1.Y0) + u2)) (-524288) 524288) (by kernel_rfl) <|
    L.callO mixed (fun u3 : Int => .int .i64 u3) (cR01_Floor K (IntKind.i64.wrap (IntKind.i64.wrap (a0.P.Z + a0.P.W) * 65535)) (IntKind.i64.wrap (2 * a0.P.W))) (by kernel_rfl) (fun u3 hu3 =>
    L.call mixed (kRsat u3 0 65535) (by kernel_rfl) <|
    L.ret _ mixed Try.func12 _ (by kernel_rfl) rfl)))
/-! ### 13 -/
abbrev ER17_Setup : TTri × Bool → Value := fun r => .tuple ⟨[.agg ⟨[.int .i64 r.1.S.e0.P.X, .int .i64 r.1.S.e0.P.Y, .int .i64 r.1.S.e0.Z, .int .i64 r.1.S.e0.A.e0, .int .i64 r.1.S.e0.A.e1, .int .i64 r.1.S.e0.A.e2, .int .i64 r.1.S.e0.A.e3, .int .i64 r.1.S.e0.A.e4, .int .i64 r.1.S.e0.A.e5, .int .i64 r.1.S.e1.P.X, .int .i64 r.1.S.e1.P.Y, .int .i64 r.1.S.e1.Z, .int .i64 r.1.S.e1.A.e0, .int .i64 r.1.S.e1.A.e1, .int .i64 r.1.S.e1.A.e2, .int .i64 r.1.S.e1.A.e3, .int .i64 r.1.S.e1.A.e4, .int .i64 r.1.S.e1.A.e5, .int .i64 r.1.S.e2.P.X, .int .i64 r.1.S.e2.P.Y, .int .i64 r.1.S.e2.Z, .int .i64 r.1.S.e2.A.e0, .int .i64 r.1.S.e2.A.e1, .int .i64 r.1.S.e2.A.e2, .int .i64 r.1.S.e2.A.e3, .int .i64 r.1.S.e2.A.e4, .int .i64 r.1.S.e2.A.e5, .int .i64 r.1.Area, .int .i64 r.1.Box.X0, .int .i64 r.1.Box.Y0, .int .i64 r.1.Box.X1, .int .i64 r.1.Box.Y1]⟩, .bool r.2]⟩
def FR17_Setup (K : Nat) (a0 : A3TSpot) (a1 : Int) : Option (TTri × Bool) :=
  bif (Fside a0.e0.P a0.e1.P a0.e2.P == 0) then
    some (((⟨(⟨(⟨(⟨0, 0⟩ : TPoint), 0, (⟨0, 0, 0, 0, 0, 0⟩ : A6I)⟩ : TSpot), (⟨(⟨0, 0⟩ : TPoint), 0, (⟨0, 0, 0, 0, 0, 0⟩ : A6I)⟩ : TSpot), (⟨(⟨0, 0⟩ : TPoint), 0, (⟨0, 0, 0, 0, 0, 0⟩ : A6I)⟩ : TSpot)⟩ : A3TSpot), 0, (⟨0, 0, 0, 0⟩ : TRect)⟩ : TTri), false))
  else
    bif (decide (Fside a0.e0.P a0.e1.P a0.e2.P < 0)) then
      bif (bif false then true else bif true then a1 == 1 else false) then
        some (((⟨(⟨(⟨(⟨0, 0⟩ : TPoint), 0, (⟨0, 0, 0, 0, 0, 0⟩ : A6I)⟩ : TSpot), (⟨(⟨0, 0⟩ : TPoint), 0, (⟨0, 0, 0, 0, 0, 0⟩ : A6I)⟩ : TSpot), (⟨(⟨0, 0⟩ : TPoint), 0, (⟨0, 0, 0, 0, 0, 0⟩ : A6I)⟩ : TSpot)⟩ : A3TSpot), 0, (⟨0, 0, 0, 0⟩ : TRect)⟩ : TTri), false))
      else
        bif (decide (Fside a0.e0.P a0.e1.P a0.e2.P > 0)) then
          bif (bif false then true else bif true then a1 == 2 else false) then
            some (((⟨(⟨(⟨(⟨0, 0⟩ : TPoint), 0, (⟨0, 0, 0, 0, 0, 0⟩ : A6I)⟩ : TSpot), (⟨(⟨0, 0⟩ : TPoint), 0, (⟨0, 0, 0, 0, 0, 0⟩ : A6I)⟩ : TSpot), (⟨(⟨0, 0⟩ : TPoint), 0, (⟨0, 0, 0, 0, 0, 0⟩ : A6I)⟩ : TSpot)⟩ : A3TSpot), 0, (⟨0, 0, 0, 0⟩ : TRect)⟩ : TTri), false))
          else
            (Fbox K ((⟨a0.e0, a0.e2, a0.e1⟩ : A3TSpot))).bind fun u6 =>
            some (((⟨(⟨a0.e0, a0.e2, a0.e1⟩ : A3TSpot), IntKind.i64.wrap (0 - Fside a0.e0.P a0.e1.P a0.e2.P), u6⟩ : TTri), true))
        else
          (Fbox K ((⟨a0.e0, a0.e2, a0.e1⟩ : A3TSpot))).bind fun u7 =>
          some (((⟨(⟨a0.e0, a0.e2, a0.e1⟩ : A3TSpot), IntKind.i64.wrap (0 - Fside a0.e0.P a0.e1.P a0.e2.P), u7⟩ : TTri), true))
    else
      bif (decide (Fside a0.e0.P a0.e1.P a0.e2.P > 0)) then
        bif (bif bif false then true else false then true else bif true then a1 == 2 else false) then
          some (((⟨(⟨(⟨(⟨0, 0⟩ : TPoint), 0, (⟨0, 0, 0, 0, 0, 0⟩ : A6I)⟩ : TSpot), (⟨(⟨0, 0⟩ : TPoint), 0, (⟨0, 0, 0, 0, 0, 0⟩ : A6I)⟩ : TSpot), (⟨(⟨0, 0⟩ : TPoint), 0, (⟨0, 0, 0, 0, 0, 0⟩ : A6I)⟩ : TSpot)⟩ : A3TSpot), 0, (⟨0, 0, 0, 0⟩ : TRect)⟩ : TTri), false))
        else
          (Fbox K a0).bind fun u10 =>
          some (((⟨a0, Fside a0.e0.P a0.e1.P a0.e2.P, u10⟩ : TTri), true))
      else
        (Fbox K a0).bind fun u11 =>
        some (((⟨a0, Fside a0.e0.P a0.e1.P a0.e2.P, u11⟩ : TTri), true))
theorem cR17_Setup (K : Nat) (a0 : A3TSpot) (a1 : Int) : ∀ r, FR17_Setup K a0 a1 = some r → Con Try.prog 13 [.agg ⟨[.int .i64 a0.e0.P.X, .int .i64 a0.e0.P.Y, .int .i64 a0.e0.Z, .int .i64 a0.e0.A.e0, .int .i64 a0.e0.A.e1, .int .i64 a0.e0.A.e2, .int .i64 a0.e0.A.e3, .int .i64 a0.e0.A.e4, .int .i64 a0.e0.A.e5, .int .i64 a0.e1.P.X, .int .i64 a0.e1.P.Y, .int .i64 a0.e1.Z, .int .i64 a0.e1.A.e0, .int .i64 a0.e1.A.e1, .int .i64 a0.e1.A.e2, .int .i64 a0.e1.A.e3, .int .i64 a0.e1.A.e4, .int .i64 a0.e1.A.e5, .int .i64 a0.e2.P.X, .int .i64 a0.e2.P.Y, .int .i64 a0.e2.Z, .int .i64 a0.e2.A.e0, .int .i64 a0.e2.A.e1, .int .i64 a0.e2.A.e2, .int .i64 a0.e2.A.e3, .int .i64 a0.e2.A.e4, .int .i64 a0.e2.A.e5]⟩, .int .i64 a1] (ER17_Setup r) := by
  refine Con.lift Try.func13 (by kernel_rfl) rfl (fun _ => rfl) ?_
  unfold FR17_Setup
  exact
    L.call mixed (kRside a0.e0.P a0.e1.P a0.e2.P) (by kernel_rfl) <|
    L.gu mixed 8 _ (by kernel_rfl)
      (fun h1 =>
      L.ret _ mixed Try.func13 _ (by kernel_rfl) rfl)
      (fun h1 =>
      L.gu mixed 3 _ (by kernel_rfl)
        (fun h2 =>
        L.gu mixed 5 _ (by kernel_rfl)
          (fun h3 =>
          L.ret _ mixed Try.func13 _ (by kernel_rfl) rfl)
          (fun h3 =>
          L.gu mixed 3 _ (by kernel_rfl)
            (fun h4 =>
            L.br mixed 5 _ (by kernel_rfl)
              (fun h5 =>
              L.ret _ mixed Try.func13 _ (by kernel_rfl) rfl)
              (fun h5 =>
              L.brIs mixed 7 _ true h2 (by kernel_rfl) <|
              L.callO mixed (fun u6 : TRect => .agg ⟨[.int .i64 u6.X0, .int .i64 u6.Y0, .int .i64 u6.X1, .int .i64 u6.Y1]⟩) (kRbox K ((⟨a0.e0, a0.e2, a0.e1⟩ : A3TSpot))) (by kernel_rfl) (fun u6 hu6 =>
              L.ret _ mixed Try.func13 _ (by kernel_rfl) rfl)))
            (fun h4 =>
            L.brIs mixed 13 _ true h2 (by kernel_rfl) <|
            L.callO mixed (fun u7 : TRect => .agg ⟨[.int .i64 u7.X0, .int .i64 u7.Y0, .int .i64 u7.X1, .int .i64 u7.Y1]⟩) (kRbox K ((⟨a0.e0, a0.e2, a0.e1⟩ : A3TSpot))) (by kernel_rfl) (fun u7 hu7 =>
            L.ret _ mixed Try.func13 _ (by kernel_rfl) rfl))))
        (fun h2 =>
        L.gu mixed 8 _ (by kernel_rfl)
          (fun h8 =>
          L.br mixed 5 _ (by kernel_rfl)
            (fun h9 =>
            L.ret _ mixed Try.func13 _ (by kernel_rfl) rfl)
            (fun h9 =>
            L.brIs mixed 7 _ false h2 (by kernel_rfl) <|
            L.callO mixed (fun u10 : TRect => .agg ⟨[.int .i64 u10.X0, .int .i64 u10.Y0, .int .i64 u10.X1, .int .i64 u10.Y1]⟩) (kRbox K a0) (by kernel_rfl) (fun u10 hu10 =>
            L.ret _ mixed Try.func13 _ (by kernel_rfl) rfl)))
          (fun h8 =>
          L.brIs mixed 13 _ false h2 (by kernel_rfl) <|
          L.callO mixed (fun u11 : TRect => .agg ⟨[.int .i64 u11.X0, .int .i64 u11.Y0, .int .i64 u11.X1, .int .i64 u11.Y1]⟩) (kRbox K a0) (by kernel_rfl) (fun u11 hu11 =>
          L.ret _ mixed Try.func13 _ (by kernel_rfl) rfl))))
/-! ### 19 -/
abbrev ER05_Within : Bool → Value := fun r => .bool r
def FR05_Within (K : Nat) (a0 : Int) (a1 : Int) : Option Bool :=
  bif (decide (a0 ≥ IntKind.i64.wrap (0 - a1))) then
    some (bif true then decide (a0 ≤ a1) else false)
  else
    some false
theorem cR05_Within (K : Nat) (a0 : Int) (a1 : Int) : ∀ r, FR05_Within K a0 a1 = some r → Con Try.prog 19 [.int .i64 a0, .int .i64 a1] (ER05_Within r) := by
  refine Con.lift Try.func19 (by kernel_rfl) rfl (fun _ => rfl) ?_
  unfold FR05_Within
  exact
    L.gu mixed 11 _ (by kernel_rfl)
      (fun h1 =>
      L.ret _ mixed Try.func19 _ (by kernel_rfl) rfl)
      (fun h1 =>
      L.ret _ mixed Try.func19 _ (by kernel_rfl) rfl)
/-! ### 6 -/
abbrev ER25_Check : Int → Value := fun r => .int .i64 r
def FR25_Check (K : Nat) (a0 : A3TVertex) : Option Int :=
  (FR05_Within K a0.e0.X 1048576).bind fun u1 =>
  bif !u1 then
    some 11
  else
    (FR05_Within K a0.e0.Y 1048576).bind fun u3 =>
    bif (bif false then true else !u3) then
      some 11
    else
      (FR05_Within K a0.e0.Z 1048576).bind fun u5 =>
      bif (bif false then true else !u5) then
        some 11
      else
        (FR05_Within K a0.e0.U 65536).bind fun u7 =>
        bif (bif false then true else !u7) then
          some 11
        else
          (FR05_Within K a0.e0.V 65536).bind fun u9 =>
          bif (bif false then true else !u9) then
            some 11
          else
            bif (!Ftint a0.e0.C) then
              some 3
            else
              (FR05_Within K a0.e1.X 1048576).bind fun u12 =>
              bif !u12 then
                some 11
              else
                (FR05_Within K a0.e1.Y 1048576).bind fun u14 =>
                bif (bif false then true else !u14) then
                  some 11
                else
                  (FR05_Within K a0.e1.Z 1048576).bind fun u16 =>
                  bif (bif false then true else !u16) then
                    some 11
                  else
                    (FR05_Within K a0.e1.U 65536).bind fun u18 =>
                    bif (bif false then true else !u18) then
                      some 11
                    else
                      (FR05_Within K a0.e1.V 65536).bind fun u20 =>
                      bif (bif false then true else !u20) then
                        some 11
                      else
                        bif (!Ftint a0.e1.C) then
                          some 3
                        else
                          (FR05_Within K a0.e2.X 1048576).bind fun u23 =>
                          bif !u23 then
                            some 11
                          else
                            (FR05_Within K a0.e2.Y 1048576).bind fun u25 =>
                            bif (bif false then true else !u25) then
                              some 11
                            else
                              (FR05_Within K a0.e2.Z 1048576).bind fun u27 =>
                              bif (bif false then true else !u27) then
                                some 11
                              else
                                (FR05_Within K a0.e2.U 65536).bind fun u29 =>
                                bif (bif false then true else !u29) then
                                  some 11
                                else
                                  (FR05_Within K a0.e2.V 65536).bind fun u31 =>
                                  bif (bif false then true else !u31) then
                                    some 11
                                  else
                                    bif (!Ftint a0.e2.C) then
                                      some 3
                                    else
                                      some 0
theorem cR25_Check (K : Nat) (a0 : A3TVertex) : ∀ r, FR25_Check K a0 = some r → Con Try.prog 6 [.agg ⟨[.int .i64 a0.e0.X, .int .i64 a0.e0.Y, .int .i64 a0.e0.Z, .int .i64 a0.e0.C.R, .int .i64 a0.e0.C.G, .int .i64 a0.e0.C.B, .int .i64 a0.e0.C.A, .int .i64 a0.e0.U, .int .i64 a0.e0.V, .int .i64 a0.e1.X, .int .i64 a0.e1.Y, .int .i64 a0.e1.Z, .int .i64 a0.e1.C.R, .int .i64 a0.e1.C.G, .int .i64 a0.e1.C.B, .int .i64 a0.e1.C.A, .int .i64 a0.e1.U, .int .i64 a0.e1.V, .int .i64 a0.e2.X, .int .i64 a0.e2.Y, .int .i64 a0.e2.Z, .int .i64 a0.e2.C.R, .int .i64 a0.e2.C.G, .int .i64 a0.e2.C.B, .int .i64 a0.e2.C.A, .int .i64 a0.e2.U, .int .i64 a0.e2.V]⟩] (ER25_Check r) := by
  refine Con.lift Try.func6 (by kernel_rfl) rfl (fun _ => rfl) ?_
  unfold FR25_Check
  exact
    L.callO mixed (fun u1 : Bool => .bool u1) (cR05_Within K a0.e0.X 1048576) (by kernel_rfl) (fun u1 hu1 =>
    L.gu mixed 2 _ (by kernel_rfl)
      (fun h2 =>
      L.ret _ mixed Try.func6 _ (by kernel_rfl) rfl)
      (fun h2 =>
      L.callO mixed (fun u3 : Bool => .bool u3) (cR05_Within K a0.e0.Y 1048576) (by kernel_rfl) (fun u3 hu3 =>
      L.gu mixed 3 _ (by kernel_rfl)
        (fun h4 =>
        L.ret _ mixed Try.func6 _ (by kernel_rfl) rfl)
        (fun h4 =>
        L.callO mixed (fun u5 : Bool => .bool u5) (cR05_Within K a0.e0.Z 1048576) (by kernel_rfl) (fun u5 hu5 =>
        L.gu mixed 3 _ (by kernel_rfl)
          (fun h6 =>
          L.ret _ mixed Try.func6 _ (by kernel_rfl) rfl)
          (fun h6 =>
          L.callO mixed (fun u7 : Bool => .bool u7) (cR05_Within K a0.e0.U 65536) (by kernel_rfl) (fun u7 hu7 =>
          L.gu mixed 3 _ (by kernel_rfl)
            (fun h8 =>
            L.ret _ mixed Try.func6 _ (by kernel_rfl) rfl)
            (fun h8 =>
            L.callO mixed (fun u9 : Bool => .bool u9) (cR05_Within K a0.e0.V 65536) (by kernel_rfl) (fun u9 hu9 =>
            L.br mixed 3 _ (by kernel_rfl)
              (fun h10 =>
              L.ret _ mixed Try.func6 _ (by kernel_rfl) rfl)
              (fun h10 =>
              L.call mixed (kRtint a0.e0.C) (by kernel_rfl) <|
              L.br mixed 2 _ (by kernel_rfl)
                (fun h11 =>
                L.ret _ mixed Try.func6 _ (by kernel_rfl) rfl)
                (fun h11 =>
                L.callO mixed (fun u12 : Bool => .bool u12) (cR05_Within K a0.e1.X 1048576) (by kernel_rfl) (fun u12 hu12 =>
                L.gu mixed 2 _ (by kernel_rfl)
                  (fun h13 =>
                  L.ret _ mixed Try.func6 _ (by kernel_rfl) rfl)
                  (fun h13 =>
                  L.callO mixed (fun u14 : Bool => .bool u14) (cR05_Within K a0.e1.Y 1048576) (by kernel_rfl) (fun u14 hu14 =>
                  L.gu mixed 3 _ (by kernel_rfl)
                    (fun h15 =>
                    L.ret _ mixed Try.func6 _ (by kernel_rfl) rfl)
                    (fun h15 =>
                    L.callO mixed (fun u16 : Bool => .bool u16) (cR05_Within K a0.e1.Z 1048576) (by kernel_rfl) (fun u16 hu16 =>
                    L.gu mixed 3 _ (by kernel_rfl)
                      (fun h17 =>
                      L.ret _ mixed Try.func6 _ (by kernel_rfl) rfl)
                      (fun h17 =>
                      L.callO mixed (fun u18 : Bool => .bool u18) (cR05_Within K a0.e1.U 65536) (by kernel_rfl) (fun u18 hu18 =>
                      L.gu mixed 3 _ (by kernel_rfl)
                        (fun h19 =>
                        L.ret _ mixed Try.func6 _ (by kernel_rfl) rfl)
                        (fun h19 =>
                        L.callO mixed (fun u20 : Bool => .bool u20) (cR05_Within K a0.e1.V 65536) (by kernel_rfl) (fun u20 hu20 =>
                        L.br mixed 3 _ (by kernel_rfl)
                          (fun h21 =>
                          L.ret _ mixed Try.func6 _ (by kernel_rfl) rfl)
                          (fun h21 =>
                          L.call mixed (kRtint a0.e1.C) (by kernel_rfl) <|
                          L.br mixed 2 _ (by kernel_rfl)
                            (fun h22 =>
                            L.ret _ mixed Try.func6 _ (by kernel_rfl) rfl)
                            (fun h22 =>
                            L.callO mixed (fun u23 : Bool => .bool u23) (cR05_Within K a0.e2.X 1048576) (by kernel_rfl) (fun u23 hu23 =>
                            L.gu mixed 2 _ (by kernel_rfl)
                              (fun h24 =>
                              L.ret _ mixed Try.func6 _ (by kernel_rfl) rfl)
                              (fun h24 =>
                              L.callO mixed (fun u25 : Bool => .bool u25) (cR05_Within K a0.e2.Y 1048576) (by kernel_rfl) (fun u25 hu25 =>
                              L.gu mixed 3 _ (by kernel_rfl)
                                (fun h26 =>
                                L.ret _ mixed Try.func6 _ (by kernel_rfl) rfl)
                                (fun h26 =>
                                L.callO mixed (fun u27 : Bool => .bool u27) (cR05_Within K a0.e2.Z 1048576) (by kernel_rfl) (fun u27 hu27 =>
                                L.gu mixed 3 _ (by kernel_rfl)
                                  (fun h28 =>
                                  L.ret _ mixed Try.func6 _ (by kernel_rfl) rfl)
                                  (fun h28 =>
                                  L.callO mixed (fun u29 : Bool => .bool u29) (cR05_Within K a0.e2.U 65536) (by kernel_rfl) (fun u29 hu29 =>
                                  L.gu mixed 3 _ (by kernel_rfl)
                                    (fun h30 =>
                                    L.ret _ mixed Try.func6 _ (by kernel_rfl) rfl)
                                    (fun h30 =>
                                    L.callO mixed (fun u31 : Bool => .bool u31) (cR05_Within K a0.e2.V 65536) (by kernel_rfl) (fun u31 hu31 =>
                                    L.br mixed 3 _ (by kernel_rfl)
                                      (fun h32 =>
                                      L.ret _ mixed Try.func6 _ (by kernel_rfl) rfl)
                                      (fun h32 =>
                                      L.call mixed (kRtint a0.e2.C) (by kernel_rfl) <|
                                      L.br mixed 2 _ (by kernel_rfl)
                                        (fun h33 =>
                                        L.ret _ mixed Try.func6 _ (by kernel_rfl) rfl)
                                        (fun h33 =>
                                        L.ret _ mixed Try.func6 _ (by kernel_rfl) rfl)))))))))))))))))))))))))))))))))
/-! ### 34 -/
abbrev Evec_Identity : TMat → Value := fun r => .agg ⟨[.int .i64 r.e0, .int .i64 r.e1, .int .i64 r.e2, .int .i64 r.e3, .int .i64 r.e4, .int .i64 r.e5, .int .i64 r.e6, .int .i64 r.e7, .int .i64 r.e8, .int .i64 r.e9, .int .i64 r.e10, .int .i64 r.e11, .int .i64 r.e12, .int .i64 r.e13, .int .i64 r.e14, .int .i64 r.e15]⟩
def Fvec_Identity (K : Nat) : Option TMat :=
  some ((⟨65536, 0, 0, 0, 0, 65536, 0, 0, 0, 0, 65536, 0, 0, 0, 0, 65536⟩ : TMat))
theorem cvec_Identity (K : Nat) : ∀ r, Fvec_Identity K = some r → Con Try.prog 34 [] (Evec_Identity r) := by
  refine Con.lift Try.func34 (by kernel_rfl) rfl (fun _ => rfl) ?_
  unfold Fvec_Identity
  exact
    L.ret _ mixed Try.func34 _ (by kernel_rfl) rfl
/-! ### 35 -/
abbrev Esten_Plain : TSten → Value := fun r => .agg ⟨[.int .i64 r.Fn, .int .i64 r.Ref, .int .i64 r.Read, .int .i64 r.Write, .int .i64 r.Fail, .int .i64 r.ZFail, .int .i64 r.Pass]⟩
def Fsten_Plain (K : Nat) : Option TSten :=
  some ((⟨7, 0, 255, 255, 0, 0, 0⟩ : TSten))
theorem csten_Plain (K : Nat) : ∀ r, Fsten_Plain K = some r → Con Try.prog 35 [] (Esten_Plain r) := by
  refine Con.lift Try.func35 (by kernel_rfl) rfl (fun _ => rfl) ?_
  unfold Fsten_Plain
  exact
    L.ret _ mixed Try.func35 _ (by kernel_rfl) rfl
/-! ### 36 -/
abbrev Eblend_Plain : TBlend → Value := fun r => .agg ⟨[.int .i64 r.Src, .int .i64 r.Dst, .int .i64 r.Eq, .int .i64 r.Mask]⟩
def Fblend_Plain (K : Nat) : Option TBlend :=
  some ((⟨1, 0, 0, 15⟩ : TBlend))
theorem cblend_Plain (K : Nat) : ∀ r, Fblend_Plain K = some r → Con Try.prog 36 [] (Eblend_Plain r) := by
  refine Con.lift Try.func36 (by kernel_rfl) rfl (fun _ => rfl) ?_
  unfold Fblend_Plain
  exact
    L.ret _ mixed Try.func36 _ (by kernel_rfl) rfl
/-! ### 21 -/
abbrev Estate_Begin : TState × Int → Value := fun r => .tuple ⟨[.agg ⟨[.int .i64 r.1.M.e0, .int .i64 r.1.M.e1, .int .i64 r.1.M.e2, .int .i64 r.1.M.e3, .int .i64 r.1.M.e4, .int .i64 r.1.M.e5, .int .i64 r.1.M.e6, .int .i64 r.1.M.e7, .int .i64 r.1.M.e8, .int .i64 r.1.M.e9, .int .i64 r.1.M.e10, .int .i64 r.1.M.e11, .int .i64 r.1.M.e12, .int .i64 r.1.M.e13, .int .i64 r.1.M.e14, .int .i64 r.1.M.e15, .int .i64 r.1.View.X0, .int .i64 r.1.View.Y0, .int .i64 r.1.View.X1, .int .i64 r.1.View.Y1, .int .i64 r.1.Sciss.X0, .int .i64 r.1.Sciss.Y0, .int .i64 r.1.Sciss.X1, .int .i64 r.1.Sciss.Y1, .int .i64 r.1.DFn, .bool r.1.DPut, .int .i64 r.1.St.Fn, .int .i64 r.1.St.Ref, .int .i64 r.1.St.Read, .int .i64 r.1.St.Write, .int .i64 r.1.St.Fail, .int .i64 r.1.St.ZFail, .int .i64 r.1.St.Pass, .int .i64 r.1.Bl.Src, .int .i64 r.1.Bl.Dst, .int .i64 r.1.Bl.Eq, .int .i64 r.1.Bl.Mask, .int .i64 r.1.Cull, .int .i64 r.1.Tex, .int .i64 r.1.Wrap, .bool r.1.Soft]⟩, .int .i64 r.2]⟩
def Fstate_Begin (K : Nat) (a0 : Int) (a1 : Int) : Option (TState × Int) :=
  bif (decide (a0 < 1)) then
    some (((⟨(⟨0, 0, 0, 0, 0, 0, 0, 0, 0, 0, 0, 0, 0, 0, 0, 0⟩ : TMat), (⟨0, 0, 0, 0⟩ : TRect), (⟨0, 0, 0, 0⟩ : TRect), 0, false, (⟨0, 0, 0, 0, 0, 0, 0⟩ : TSten), (⟨0, 0, 0, 0⟩ : TBlend), 0, 0, 0, false⟩ : TState), 3))
  else
    bif (bif false then true else decide (a0 > 256)) then
      some (((⟨(⟨0, 0, 0, 0, 0, 0, 0, 0, 0, 0, 0, 0, 0, 0, 0, 0⟩ : TMat), (⟨0, 0, 0, 0⟩ : TRect), (⟨0, 0, 0, 0⟩ : TRect), 0, false, (⟨0, 0, 0, 0, 0, 0, 0⟩ : TSten), (⟨0, 0, 0, 0⟩ : TBlend), 0, 0, 0, false⟩ : TState), 3))
    else
      bif (bif false then true else decide (a1 < 1)) then
        some (((⟨(⟨0, 0, 0, 0, 0, 0, 0, 0, 0, 0, 0, 0, 0, 0, 0, 0⟩ : TMat), (⟨0, 0, 0, 0⟩ : TRect), (⟨0, 0, 0, 0⟩ : TRect), 0, false, (⟨0, 0, 0, 0, 0, 0, 0⟩ : TSten), (⟨0, 0, 0, 0⟩ : TBlend), 0, 0, 0, false⟩ : TState), 3))
      else
        bif (bif false then true else decide (a1 > 256)) then
          some (((⟨(⟨0, 0, 0, 0, 0, 0, 0, 0, 0, 0, 0, 0, 0, 0, 0, 0⟩ : TMat), (⟨0, 0, 0, 0⟩ : TRect), (⟨0, 0, 0, 0⟩ : TRect), 0, false, (⟨0, 0, 0, 0, 0, 0, 0⟩ : TSten), (⟨0, 0, 0, 0⟩ : TBlend), 0, 0, 0, false⟩ : TState), 3))
        else
          (Fvec_Identity K).bind fun u5 =>
          (Fsten_Plain K).bind fun u6 =>
          (Fblend_Plain K).bind fun u7 =>
          some (((⟨u5, (⟨0, 0, a0, a1⟩ : TRect), (⟨0, 0, a0, a1⟩ : TRect), 7, true, u6, u7, 0, 0, 0, false⟩ : TState), 0))
theorem cstate_Begin (K : Nat) (a0 : Int) (a1 : Int) : ∀ r, Fstate_Begin K a0 a1 = some r → Con Try.prog 21 [.int .i64 a0, .int .i64 a1] (Estate_Begin r) := by
  refine Con.lift Try.func21 (by kernel_rfl) rfl (fun _ => rfl) ?_
  unfold Fstate_Begin
  exact
    L.gu mixed 11 _ (by kernel_rfl)
      (fun h1 =>
      L.ret _ mixed Try.func21 _ (by kernel_rfl) rfl)
      (fun h1 =>
      L.gu mixed 4 _ (by kernel_rfl)
        (fun h2 =>
        L.ret _ mixed Try.func21 _ (by kernel_rfl) rfl)
        (fun h2 =>
        L.gu mixed 4 _ (by kernel_rfl)
          (fun h3 =>
          L.ret _ mixed Try.func21 _ (by kernel_rfl) rfl)
          (fun h3 =>
          L.br mixed 4 _ (by kernel_rfl)
            (fun h4 =>
            L.ret _ mixed Try.func21 _ (by kernel_rfl) rfl)
            (fun h4 =>
            L.callO mixed (fun u5 : TMat => .agg ⟨[.int .i64 u5.e0, .int .i64 u5.e1, .int .i64 u5.e2, .int .i64 u5.e3, .int .i64 u5.e4, .int .i64 u5.e5, .int .i64 u5.e6, .int .i64 u5.e7, .int .i64 u5.e8, .int .i64 u5.e9, .int .i64 u5.e10, .int .i64 u5.e11, .int .i64 u5.e12, .int .i64 u5.e13, .int .i64 u5.e14, .int .i64 u5.e15]⟩) (cvec_Identity K) (by kernel_rfl) (fun u5 hu5 =>
            L.callO mixed (fun u6 : TSten => .agg ⟨[.int .i64 u6.Fn, .int .i64 u6.Ref, .int .i64 u6.Read, .int .i64 u6.Write, .int .i64 u6.Fail, .int .i64 u6.ZFail, .int .i64 u6.Pass]⟩) (csten_Plain K) (by kernel_rfl) (fun u6 hu6 =>
            L.callO mixed (fun u7 : TBlend => .agg ⟨[.int .i64 u7.Src, .int .i64 u7.Dst, .int .i64 u7.Eq, .int .i64 u7.Mask]⟩) (cblend_Plain K) (by kernel_rfl) (fun u7 hu7 =>
            L.ret _ mixed Try.func21 _ (by kernel_rfl) rfl)))))))
/-! ### 7 -/
abbrev EL25_awake : Bool → Value := fun r => .bool r
def FL25_awake (K : Nat) : Option Bool :=
  (Fstate_Begin K 16 16).bind fun u1 =>
  (Fgeom_Tris K u1.fst ((⟨(⟨-256, 256, 0, (⟨0, 0, 0, 0⟩ : TColor), 0, 0⟩ : TVertex), (⟨256, 256, 0, (⟨0, 0, 0, 0⟩ : TColor), 0, 0⟩ : TVertex), (⟨-256, -256, 0, (⟨0, 0, 0, 0⟩ : TColor), 0, 0⟩ : TVertex)⟩ : A3TVertex))).bind fun u2 =>
  bif (u1.snd == 0) then
    bif (bif true then u2.snd == 0 else false) then
      bif (bif true then (↑u2.fst.length : Int) == 1 else false) then
        bif inR 0 u2.fst.length then
          bif (bif true then (getR u2.fst 0).Area == 65536 else false) then
            bif inR 0 u2.fst.length then
              some (bif true then bif false then !((getR u2.fst 0).Box.X0 == 0 && ((getR u2.fst 0).Box.Y0 == 0 && ((getR u2.fst 0).Box.X1 == 16 && ((getR u2.fst 0).Box.Y1 == 16 && true)))) else (getR u2.fst 0).Box.X0 == 0 && ((getR u2.fst 0).Box.Y0 == 0 && ((getR u2.fst 0).Box.X1 == 16 && ((getR u2.fst 0).Box.Y1 == 16 && true))) else false)
            else none
          else
            some false
        else none
      else
        some false
    else
      some false
  else
    some false
theorem cL25_awake (K : Nat) : ∀ r, FL25_awake K = some r → Con Try.prog 7 [] (EL25_awake r) := by
  refine Con.lift Try.func7 (by kernel_rfl) rfl (fun _ => rfl) ?_
  unfold FL25_awake
  exact
    L.callO mixed (fun u1 : TState × Int => .tuple ⟨[.agg ⟨[.int .i64 u1.1.M.e0, .int .i64 u1.1.M.e1, .int .i64 u1.1.M.e2, .int .i64 u1.1.M.e3, .int .i64 u1.1.M.e4, .int .i64 u1.1.M.e5, .int .i64 u1.1.M.e6, .int .i64 u1.1.M.e7, .int .i64 u1.1.M.e8, .int .i64 u1.1.M.e9, .int .i64 u1.1.M.e10, .int .i64 u1.1.M.e11, .int .i64 u1.1.M.e12, .int .i64 u1.1.M.e13, .int .i64 u1.1.M.e14, .int .i64 u1.1.M.e15, .int .i64 u1.1.View.X0, .int .i64 u1.1.View.Y0, .int .i64 u1.1.View.X1, .int .i64 u1.1.View.Y1, .int .i64 u1.1.Sciss.X0, .int .i64 u1.1.Sciss.Y0, .int .i64 u1.1.Sciss.X1, .int .i64 u1.1.Sciss.Y1, .int .i64 u1.1.DFn, .bool u1.1.DPut, .int .i64 u1.1.St.Fn, .int .i64 u1.1.St.Ref, .int .i64 u1.1.St.Read, .int .i64 u1.1.St.Write, .int .i64 u1.1.St.Fail, .int .i64 u1.1.St.ZFail, .int .i64 u1.1.St.Pass, .int .i64 u1.1.Bl.Src, .int .i64 u1.1.Bl.Dst, .int .i64 u1.1.Bl.Eq, .int .i64 u1.1.Bl.Mask, .int .i64 u1.1.Cull, .int .i64 u1.1.Tex, .int .i64 u1.1.Wrap, .bool u1.1.Soft]⟩, .int .i64 u1.2]⟩) (cstate_Begin K 16 16) (by kernel_rfl) (fun u1 hu1 =>
    L.callO mixed (fun u2 : List TTri × Int => .tuple ⟨[lst u2.1, .int .i64 u2.2]⟩) (cgeom_Tris K u1.fst ((⟨(⟨-256, 256, 0, (⟨0, 0, 0, 0⟩ : TColor), 0, 0⟩ : TVertex), (⟨256, 256, 0, (⟨0, 0, 0, 0⟩ : TColor), 0, 0⟩ : TVertex), (⟨-256, -256, 0, (⟨0, 0, 0, 0⟩ : TColor), 0, 0⟩ : TVertex)⟩ : A3TVertex))) (by kernel_rfl) (fun u2 hu2 =>
    L.gu mixed 11 _ (by kernel_rfl)
      (fun h3 =>
      L.gu mixed 4 _ (by kernel_rfl)
        (fun h4 =>
        L.gu mixed 5 _ (by kernel_rfl)
          (fun h5 =>
          L.idx mixed 1 _ (rows u2.fst) 32 IntKind.i64 _ (by kernel_rfl) (fun h6a h6b =>
          L.ld mixed 1 3 (rows u2.fst) ((0 : Int).toNat * 32 + 27) (.int .i64 (getR u2.fst (0 : Int).toNat).Area) (by kernel_rfl) (load1_rows (i := (0 : Int).toNat) (d := 27) rfl (toNat_lt h6a h6b) (by kernel_rfl) (Nat.le_of_ble_eq_true (by kernel_rfl)) (by kernel_rfl)) <|
          L.gu mixed 3 _ (by kernel_rfl)
            (fun h7 =>
            L.idx mixed 1 _ (rows u2.fst) 32 IntKind.i64 _ (by kernel_rfl) (fun h8a h8b =>
            L.ld mixed 1 25 (rows u2.fst) ((0 : Int).toNat * 32 + 28) (.agg ⟨[.int .i64 (getR u2.fst (0 : Int).toNat).Box.X0, .int .i64 (getR u2.fst (0 : Int).toNat).Box.Y0, .int .i64 (getR u2.fst (0 : Int).toNat).Box.X1, .int .i64 (getR u2.fst (0 : Int).toNat).Box.Y1]⟩) (by kernel_rfl) (loadN_rows (i := (0 : Int).toNat) (d := 28) (k := 4) rfl (toNat_lt h8a h8b) (by kernel_rfl) (by kernel_rfl) (Nat.le_of_ble_eq_true (by kernel_rfl)) (by kernel_rfl)) <|
            L.ret _ mixed Try.func7 _ (by kernel_rfl) rfl))
            (fun h7 =>
            L.ret _ mixed Try.func7 _ (by kernel_rfl) rfl)))
          (fun h5 =>
          L.ret _ mixed Try.func7 _ (by kernel_rfl) rfl))
        (fun h4 =>
        L.ret _ mixed Try.func7 _ (by kernel_rfl) rfl))
      (fun h3 =>
      L.ret _ mixed Try.func7 _ (by kernel_rfl) rfl)))
/-! ### 9 -/
abbrev EL25_many : Int → Value := fun r => .int .i64 r
def FL25_many_3 (a0 : List TTri) (a1 : TTri) : Nat → Int → Int → Option Int
  | 0, _, _ => none
  | K + 1, p5, p6 =>
    bif (decide (p6 < (↑a0.length : Int))) then
      bif inR p6 a0.length then
        bif (bif false then !((getR a0 p6.toNat).S.e0.P.X == a1.S.e0.P.X && ((getR a0 p6.toNat).S.e0.P.Y == a1.S.e0.P.Y && true) && ((getR a0 p6.toNat).S.e0.Z == a1.S.e0.Z && ((getR a0 p6.toNat).S.e0.A.e0 == a1.S.e0.A.e0 && ((getR a0 p6.toNat).S.e0.A.e1 == a1.S.e0.A.e1 && ((getR a0 p6.toNat).S.e0.A.e2 == a1.S.e0.A.e2 && ((getR a0 p6.toNat).S.e0.A.e3 == a1.S.e0.A.e3 && ((getR a0 p6.toNat).S.e0.A.e4 == a1.S.e0.A.e4 && ((getR a0 p6.toNat).S.e0.A.e5 == a1.S.e0.A.e5 && true))))) && true)) && ((getR a0 p6.toNat).S.e1.P.X == a1.S.e1.P.X && ((getR a0 p6.toNat).S.e1.P.Y == a1.S.e1.P.Y && true) && ((getR a0 p6.toNat).S.e1.Z == a1.S.e1.Z && ((getR a0 p6.toNat).S.e1.A.e0 == a1.S.e1.A.e0 && ((getR a0 p6.toNat).S.e1.A.e1 == a1.S.e1.A.e1 && ((getR a0 p6.toNat).S.e1.A.e2 == a1.S.e1.A.e2 && ((getR a0 p6.toNat).S.e1.A.e3 == a1.S.e1.A.e3 && ((getR a0 p6.toNat).S.e1.A.e4 == a1.S.e1.A.e4 && ((getR a0 p6.toNat).S.e1.A.e5 == a1.S.e1.A.e5 && true))))) && true)) && ((getR a0 p6.toNat).S.e2.P.X == a1.S.e2.P.X && ((getR a0 p6.toNat).S.e2.P.Y == a1.S.e2.P.Y && true) && ((getR a0 p6.toNat).S.e2.Z == a1.S.e2.Z && ((getR a0 p6.toNat).S.e2.A.e0 == a1.S.e2.A.e0 && ((getR a0 p6.toNat).S.e2.A.e1 == a1.S.e2.A.e1 && ((getR a0 p6.toNat).S.e2.A.e2 == a1.S.e2.A.e2 && ((getR a0 p6.toNat).S.e2.A.e3 == a1.S.e2.A.e3 && ((getR a0 p6.toNat).S.e2.A.e4 == a1.S.e2.A.e4 && ((getR a0 p6.toNat).S.e2.A.e5 == a1.S.e2.A.e5 && true))))) && true)) && true)) && ((getR a0 p6.toNat).Area == a1.Area && ((getR a0 p6.toNat).Box.X0 == a1.Box.X0 && ((getR a0 p6.toNat).Box.Y0 == a1.Box.Y0 && ((getR a0 p6.toNat).Box.X1 == a1.Box.X1 && ((getR a0 p6.toNat).Box.Y1 == a1.Box.Y1 && true))) && true))) else (getR a0 p6.toNat).S.e0.P.X == a1.S.e0.P.X && ((getR a0 p6.toNat).S.e0.P.Y == a1.S.e0.P.Y && true) && ((getR a0 p6.toNat).S.e0.Z == a1.S.e0.Z && ((getR a0 p6.toNat).S.e0.A.e0 == a1.S.e0.A.e0 && ((getR a0 p6.toNat).S.e0.A.e1 == a1.S.e0.A.e1 && ((getR a0 p6.toNat).S.e0.A.e2 == a1.S.e0.A.e2 && ((getR a0 p6.toNat).S.e0.A.e3 == a1.S.e0.A.e3 && ((getR a0 p6.toNat).S.e0.A.e4 == a1.S.e0.A.e4 && ((getR a0 p6.toNat).S.e0.A.e5 == a1.S.e0.A.e5 && true))))) && true)) && ((getR a0 p6.toNat).S.e1.P.X == a1.S.e1.P.X && ((getR a0 p6.toNat).S.e1.P.Y == a1.S.e1.P.Y && true) && ((getR a0 p6.toNat).S.e1.Z == a1.S.e1.Z && ((getR a0 p6.toNat).S.e1.A.e0 == a1.S.e1.A.e0 && ((getR a0 p6.toNat).S.e1.A.e1 == a1.S.e1.A.e1 && ((getR a0 p6.toNat).S.e1.A.e2 == a1.S.e1.A.e2 && ((getR a0 p6.toNat).S.e1.A.e3 == a1.S.e1.A.e3 && ((getR a0 p6.toNat).S.e1.A.e4 == a1.S.e1.A.e4 && ((getR a0 p6.toNat).S.e1.A.e5 == a1.S.e1.A.e5 && true))))) && true)) && ((getR a0 p6.toNat).S.e2.P.X == a1.S.e2.P.X && ((getR a0 p6.toNat).S.e2.P.Y == a1.S.e2.P.Y && true) && ((getR a0 p6.toNat).S.e2.Z == a1.S.e2.Z && ((getR a0 p6.toNat).S.e2.A.e0 == a1.S.e2.A.e0 && ((getR a0 p6.toNat).S.e2.A.e1 == a1.S.e2.A.e1 && ((getR a0 p6.toNat).S.e2.A.e2 == a1.S.e2.A.e2 && ((getR a0 p6.toNat).S.e2.A.e3 == a1.S.e2.A.e3 && ((getR a0 p6.toNat).S.e2.A.e4 == a1.S.e2.A.e4 && ((getR a0 p6.toNat).S.e2.A.e5 == a1.S.e2.A.e5 && true))))) && true)) && true)) && ((getR a0 p6.toNat).Area == a1.Area && ((getR a0 p6.toNat).Box.X0 == a1.Box.X0 && ((getR a0 p6.toNat).Box.Y0 == a1.Box.Y0 && ((getR a0 p6.toNat).Box.X1 == a1.Box.X1 && ((getR a0 p6.toNat).Box.Y1 == a1.Box.Y1 && true))) && true))) then
          FL25_many_3 a0 a1 K (IntKind.i64.wrap (p5 + 1)) (IntKind.i64.wrap (p6 + 1))
        else
          FL25_many_3 a0 a1 K p5 (IntKind.i64.wrap (p6 + 1))
      else none
    else
      some p5
def FL25_many (K : Nat) (a0 : List TTri) (a1 : TTri) : Option Int :=
  FL25_many_3 a0 a1 K 0 0
def HL25_many_3 (fn : Func) (a0 : List TTri) (a1 : TTri) (p5 : Int) (p6 : Int) : VS := headS fn 3 [(0, (lst a0)), (3, (frp [(Value.int IntKind.i64 a1.S.e0.P.X), (Value.int IntKind.i64 a1.S.e0.P.Y), (Value.int IntKind.i64 a1.S.e0.Z), (Value.int IntKind.i64 a1.S.e0.A.e0), (Value.int IntKind.i64 a1.S.e0.A.e1), (Value.int IntKind.i64 a1.S.e0.A.e2), (Value.int IntKind.i64 a1.S.e0.A.e3), (Value.int IntKind.i64 a1.S.e0.A.e4), (Value.int IntKind.i64 a1.S.e0.A.e5), (Value.int IntKind.i64 a1.S.e1.P.X), (Value.int IntKind.i64 a1.S.e1.P.Y), (Value.int IntKind.i64 a1.S.e1.Z), (Value.int IntKind.i64 a1.S.e1.A.e0), (Value.int IntKind.i64 a1.S.e1.A.e1), (Value.int IntKind.i64 a1.S.e1.A.e2), (Value.int IntKind.i64 a1.S.e1.A.e3), (Value.int IntKind.i64 a1.S.e1.A.e4), (Value.int IntKind.i64 a1.S.e1.A.e5), (Value.int IntKind.i64 a1.S.e2.P.X), (Value.int IntKind.i64 a1.S.e2.P.Y), (Value.int IntKind.i64 a1.S.e2.Z), (Value.int IntKind.i64 a1.S.e2.A.e0), (Value.int IntKind.i64 a1.S.e2.A.e1), (Value.int IntKind.i64 a1.S.e2.A.e2), (Value.int IntKind.i64 a1.S.e2.A.e3), (Value.int IntKind.i64 a1.S.e2.A.e4), (Value.int IntKind.i64 a1.S.e2.A.e5), (Value.int IntKind.i64 a1.Area), (Value.int IntKind.i64 a1.Box.X0), (Value.int IntKind.i64 a1.Box.Y0), (Value.int IntKind.i64 a1.Box.X1), (Value.int IntKind.i64 a1.Box.Y1)] 0)), (5, .int .i64 p5), (6, .int .i64 p6)] []
theorem lL25_many (a0 : List TTri) (a1 : TTri) : ∀ K : Nat, (∀ (p5 : Int) (p6 : Int), Lifts Try.prog 9 0 EL25_many (HL25_many_3 Try.f9 a0 a1 p5 p6) (FL25_many_3 a0 a1 K p5 p6)) := by
  intro K
  induction K with
  | zero =>
    exact fun p5 p6 => (by rw [FL25_many_3]; exact L.no)
  | succ K ih =>
    have IH3 := ih
    refine fun p5 p6 => ?_
    · rw [FL25_many_3]
      exact
        L.br mixed 8 _ (by kernel_rfl)
          (fun h1 =>
          L.idx mixed 7 _ (rows a0) 32 IntKind.i64 _ (by kernel_rfl) (fun h2a h2b =>
          L.ld mixed 0 52 (rows a0) (p6.toNat * 32 + 0) (.agg ⟨[.int .i64 (getR a0 p6.toNat).S.e0.P.X, .int .i64 (getR a0 p6.toNat).S.e0.P.Y, .int .i64 (getR a0 p6.toNat).S.e0.Z, .int .i64 (getR a0 p6.toNat).S.e0.A.e0, .int .i64 (getR a0 p6.toNat).S.e0.A.e1, .int .i64 (getR a0 p6.toNat).S.e0.A.e2, .int .i64 (getR a0 p6.toNat).S.e0.A.e3, .int .i64 (getR a0 p6.toNat).S.e0.A.e4, .int .i64 (getR a0 p6.toNat).S.e0.A.e5, .int .i64 (getR a0 p6.toNat).S.e1.P.X, .int .i64 (getR a0 p6.toNat).S.e1.P.Y, .int .i64 (getR a0 p6.toNat).S.e1.Z, .int .i64 (getR a0 p6.toNat).S.e1.A.e0, .int .i64 (getR a0 p6.toNat).S.e1.A.e1, .int .i64 (getR a0 p6.toNat).S.e1.A.e2, .int .i64 (getR a0 p6.toNat).S.e1.A.e3, .int .i64 (getR a0 p6.toNat).S.e1.A.e4, .int .i64 (getR a0 p6.toNat).S.e1.A.e5, .int .i64 (getR a0 p6.toNat).S.e2.P.X, .int .i64 (getR a0 p6.toNat).S.e2.P.Y, .int .i64 (getR a0 p6.toNat).S.e2.Z, .int .i64 (getR a0 p6.toNat).S.e2.A.e0, .int .i64 (getR a0 p6.toNat).S.e2.A.e1, .int .i64 (getR a0 p6.toNat).S.e2.A.e2, .int .i64 (getR a0 p6.toNat).S.e2.A.e3, .int .i64 (getR a0 p6.toNat).S.e2.A.e4, .int .i64 (getR a0 p6.toNat).S.e2.A.e5, .int .i64 (getR a0 p6.toNat).Area, .int .i64 (getR a0 p6.toNat).Box.X0, .int .i64 (getR a0 p6.toNat).Box.Y0, .int .i64 (getR a0 p6.toNat).Box.X1, .int .i64 (getR a0 p6.toNat).Box.Y1]⟩) (by kernel_rfl) (loadN_rows (i := p6.toNat) (d := 0) (k := 32) rfl (toNat_lt h2a h2b) (by kernel_rfl) (by kernel_rfl) (Nat.le_of_ble_eq_true (by kernel_rfl)) (by kernel_rfl)) <|
          L.ld mixed 0 52 [(Value.int IntKind.i64 a1.S.e0.P.X), (Value.int IntKind.i64 a1.S.e0.P.Y), (Value.int IntKind.i64 a1.S.e0.Z), (Value.int IntKind.i64 a1.S.e0.A.e0), (Value.int IntKind.i64 a1.S.e0.A.e1), (Value.int IntKind.i64 a1.S.e0.A.e2), (Value.int IntKind.i64 a1.S.e0.A.e3), (Value.int IntKind.i64 a1.S.e0.A.e4), (Value.int IntKind.i64 a1.S.e0.A.e5), (Value.int IntKind.i64 a1.S.e1.P.X), (Value.int IntKind.i64 a1.S.e1.P.Y), (Value.int IntKind.i64 a1.S.e1.Z), (Value.int IntKind.i64 a1.S.e1.A.e0), (Value.int IntKind.i64 a1.S.e1.A.e1), (Value.int IntKind.i64 a1.S.e1.A.e2), (Value.int IntKind.i64 a1.S.e1.A.e3), (Value.int IntKind.i64 a1.S.e1.A.e4), (Value.int IntKind.i64 a1.S.e1.A.e5), (Value.int IntKind.i64 a1.S.e2.P.X), (Value.int IntKind.i64 a1.S.e2.P.Y), (Value.int IntKind.i64 a1.S.e2.Z), (Value.int IntKind.i64 a1.S.e2.A.e0), (Value.int IntKind.i64 a1.S.e2.A.e1), (Value.int IntKind.i64 a1.S.e2.A.e2), (Value.int IntKind.i64 a1.S.e2.A.e3), (Value.int IntKind.i64 a1.S.e2.A.e4), (Value.int IntKind.i64 a1.S.e2.A.e5), (Value.int IntKind.i64 a1.Area), (Value.int IntKind.i64 a1.Box.X0), (Value.int IntKind.i64 a1.Box.Y0), (Value.int IntKind.i64 a1.Box.X1), (Value.int IntKind.i64 a1.Box.Y1)] 0 ((Value.agg ⟨[(Value.int IntKind.i64 a1.S.e0.P.X), (Value.int IntKind.i64 a1.S.e0.P.Y), (Value.int IntKind.i64 a1.S.e0.Z), (Value.int IntKind.i64 a1.S.e0.A.e0), (Value.int IntKind.i64 a1.S.e0.A.e1), (Value.int IntKind.i64 a1.S.e0.A.e2), (Value.int IntKind.i64 a1.S.e0.A.e3), (Value.int IntKind.i64 a1.S.e0.A.e4), (Value.int IntKind.i64 a1.S.e0.A.e5), (Value.int IntKind.i64 a1.S.e1.P.X), (Value.int IntKind.i64 a1.S.e1.P.Y), (Value.int IntKind.i64 a1.S.e1.Z), (Value.int IntKind.i64 a1.S.e1.A.e0), (Value.int IntKind.i64 a1.S.e1.A.e1), (Value.int IntKind.i64 a1.S.e1.A.e2), (Value.int IntKind.i64 a1.S.e1.A.e3), (Value.int IntKind.i64 a1.S.e1.A.e4), (Value.int IntKind.i64 a1.S.e1.A.e5), (Value.int IntKind.i64 a1.S.e2.P.X), (Value.int IntKind.i64 a1.S.e2.P.Y), (Value.int IntKind.i64 a1.S.e2.Z), (Value.int IntKind.i64 a1.S.e2.A.e0), (Value.int IntKind.i64 a1.S.e2.A.e1), (Value.int IntKind.i64 a1.S.e2.A.e2), (Value.int IntKind.i64 a1.S.e2.A.e3), (Value.int IntKind.i64 a1.S.e2.A.e4), (Value.int IntKind.i64 a1.S.e2.A.e5), (Value.int IntKind.i64 a1.Area), (Value.int IntKind.i64 a1.Box.X0), (Value.int IntKind.i64 a1.Box.Y0), (Value.int IntKind.i64 a1.Box.X1), (Value.int IntKind.i64 a1.Box.Y1)]⟩)) (by kernel_rfl) (by kernel_rfl) <|
          L.br mixed 2 _ (by kernel_rfl)
            (fun h3 =>
            L.jump mixed 12 [0, 3, 5, 6] (by kernel_rfl) (IH3 (IntKind.i64.wrap (p5 + 1)) (IntKind.i64.wrap (p6 + 1))))
            (fun h3 =>
            L.jump mixed 8 [0, 3, 5, 6] (by kernel_rfl) (IH3 p5 (IntKind.i64.wrap (p6 + 1))))))
          (fun h1 =>
          L.ret _ mixed Try.func9 _ (by kernel_rfl) rfl)
theorem cL25_many (K : Nat) (a0 : List TTri) (a1 : TTri) : ∀ r, FL25_many K a0 a1 = some r → Con Try.prog 9 [lst a0, .agg ⟨[.int .i64 a1.S.e0.P.X, .int .i64 a1.S.e0.P.Y, .int .i64 a1.S.e0.Z, .int .i64 a1.S.e0.A.e0, .int .i64 a1.S.e0.A.e1, .int .i64 a1.S.e0.A.e2, .int .i64 a1.S.e0.A.e3, .int .i64 a1.S.e0.A.e4, .int .i64 a1.S.e0.A.e5, .int .i64 a1.S.e1.P.X, .int .i64 a1.S.e1.P.Y, .int .i64 a1.S.e1.Z, .int .i64 a1.S.e1.A.e0, .int .i64 a1.S.e1.A.e1, .int .i64 a1.S.e1.A.e2, .int .i64 a1.S.e1.A.e3, .int .i64 a1.S.e1.A.e4, .int .i64 a1.S.e1.A.e5, .int .i64 a1.S.e2.P.X, .int .i64 a1.S.e2.P.Y, .int .i64 a1.S.e2.Z, .int .i64 a1.S.e2.A.e0, .int .i64 a1.S.e2.A.e1, .int .i64 a1.S.e2.A.e2, .int .i64 a1.S.e2.A.e3, .int .i64 a1.S.e2.A.e4, .int .i64 a1.S.e2.A.e5, .int .i64 a1.Area, .int .i64 a1.Box.X0, .int .i64 a1.Box.Y0, .int .i64 a1.Box.X1, .int .i64 a1.Box.Y1]⟩] (EL25_many r) := by
  have IH3 := lL25_many a0 a1 K
  refine Con.lift Try.func9 (by kernel_rfl) rfl (fun _ => rfl) ?_
  unfold FL25_many
  exact
    L.frzP mixed 15 3 0 0 0 [(Value.int IntKind.i64 a1.S.e0.P.X), (Value.int IntKind.i64 a1.S.e0.P.Y), (Value.int IntKind.i64 a1.S.e0.Z), (Value.int IntKind.i64 a1.S.e0.A.e0), (Value.int IntKind.i64 a1.S.e0.A.e1), (Value.int IntKind.i64 a1.S.e0.A.e2), (Value.int IntKind.i64 a1.S.e0.A.e3), (Value.int IntKind.i64 a1.S.e0.A.e4), (Value.int IntKind.i64 a1.S.e0.A.e5), (Value.int IntKind.i64 a1.S.e1.P.X), (Value.int IntKind.i64 a1.S.e1.P.Y), (Value.int IntKind.i64 a1.S.e1.Z), (Value.int IntKind.i64 a1.S.e1.A.e0), (Value.int IntKind.i64 a1.S.e1.A.e1), (Value.int IntKind.i64 a1.S.e1.A.e2), (Value.int IntKind.i64 a1.S.e1.A.e3), (Value.int IntKind.i64 a1.S.e1.A.e4), (Value.int IntKind.i64 a1.S.e1.A.e5), (Value.int IntKind.i64 a1.S.e2.P.X), (Value.int IntKind.i64 a1.S.e2.P.Y), (Value.int IntKind.i64 a1.S.e2.Z), (Value.int IntKind.i64 a1.S.e2.A.e0), (Value.int IntKind.i64 a1.S.e2.A.e1), (Value.int IntKind.i64 a1.S.e2.A.e2), (Value.int IntKind.i64 a1.S.e2.A.e3), (Value.int IntKind.i64 a1.S.e2.A.e4), (Value.int IntKind.i64 a1.S.e2.A.e5), (Value.int IntKind.i64 a1.Area), (Value.int IntKind.i64 a1.Box.X0), (Value.int IntKind.i64 a1.Box.Y0), (Value.int IntKind.i64 a1.Box.X1), (Value.int IntKind.i64 a1.Box.Y1)] (by kernel_rfl) (by kernel_rfl) (by kernel_rfl) (by kernel_rfl) <|
    L.jumpG mixed 1 [0, 3, 5, 6] [] [] (by kernel_rfl) (by kernel_rfl) (by kernel_rfl) trivial (by kernel_rfl) (by kernel_rfl) (IH3 0 0)
/-! ### 4 -/
abbrev EL25_GeomInside : Bool → Value := fun r => .bool r
def FL25_GeomInside (K : Nat) (a0 : TState) (a1 : A3TVertex) : Option Bool :=
  bif (Fst a0 != 0) then
    (FL25_awake K).bind fun u2 =>
    some u2
  else
    (FR25_Check K a1).bind fun u3 =>
    bif (bif false then true else u3 != 0) then
      (FL25_awake K).bind fun u5 =>
      some u5
    else
      (FR24_Corner K a0.M a1.e0).bind fun u6 =>
      (Ffar K 0 u6.P).bind fun u7 =>
      bif (decide (u7 < 0)) then
        (FL25_awake K).bind fun u9 =>
        some u9
      else
        (Ffar K 1 u6.P).bind fun u10 =>
        bif (decide (u10 < 0)) then
          (FL25_awake K).bind fun u12 =>
          some u12
        else
          (Ffar K 2 u6.P).bind fun u13 =>
          bif (decide (u13 < 0)) then
            (FL25_awake K).bind fun u15 =>
            some u15
          else
            (Ffar K 3 u6.P).bind fun u16 =>
            bif (decide (u16 < 0)) then
              (FL25_awake K).bind fun u18 =>
              some u18
            else
              (Ffar K 4 u6.P).bind fun u19 =>
              bif (decide (u19 < 0)) then
                (FL25_awake K).bind fun u21 =>
                some u21
              else
                (Ffar K 5 u6.P).bind fun u22 =>
                bif (decide (u22 < 0)) then
                  (FL25_awake K).bind fun u24 =>
                  some u24
                else
                  (Ffar K 6 u6.P).bind fun u25 =>
                  bif (decide (u25 < 0)) then
                    (FL25_awake K).bind fun u27 =>
                    some u27
                  else
                    (FR16_Snap K u6 a0.View).bind fun u28 =>
                    (FR24_Corner K a0.M a1.e1).bind fun u29 =>
                    (Ffar K 0 u29.P).bind fun u30 =>
                    bif (decide (u30 < 0)) then
                      (FL25_awake K).bind fun u32 =>
                      some u32
                    else
                      (Ffar K 1 u29.P).bind fun u33 =>
                      bif (decide (u33 < 0)) then
                        (FL25_awake K).bind fun u35 =>
                        some u35
                      else
                        (Ffar K 2 u29.P).bind fun u36 =>
                        bif (decide (u36 < 0)) then
                          (FL25_awake K).bind fun u38 =>
                          some u38
                        else
                          (Ffar K 3 u29.P).bind fun u39 =>
                          bif (decide (u39 < 0)) then
                            (FL25_awake K).bind fun u41 =>
                            some u41
                          else
                            (Ffar K 4 u29.P).bind fun u42 =>
                            bif (decide (u42 < 0)) then
                              (FL25_awake K).bind fun u44 =>
                              some u44
                            else
                              (Ffar K 5 u29.P).bind fun u45 =>
                              bif (decide (u45 < 0)) then
                                (FL25_awake K).bind fun u47 =>
                                some u47
                              else
                                (Ffar K 6 u29.P).bind fun u48 =>
                                bif (decide (u48 < 0)) then
                                  (FL25_awake K).bind fun u50 =>
                                  some u50
                                else
                                  (FR16_Snap K u29 a0.View).bind fun u51 =>
                                  (FR24_Corner K a0.M a1.e2).bind fun u52 =>
                                  (Ffar K 0 u52.P).bind fun u53 =>
                                  bif (decide (u53 < 0)) then
                                    (FL25_awake K).bind fun u55 =>
                                    some u55
                                  else
                                    (Ffar K 1 u52.P).bind fun u56 =>
                                    bif (decide (u56 < 0)) then
                                      (FL25_awake K).bind fun u58 =>
                                      some u58
                                    else
                                      (Ffar K 2 u52.P).bind fun u59 =>
                                      bif (decide (u59 < 0)) then
                                        (FL25_awake K).bind fun u61 =>
                                        some u61
                                      else
                                        (Ffar K 3 u52.P).bind fun u62 =>
                                        bif (decide (u62 < 0)) then
                                          (FL25_awake K).bind fun u64 =>
                                          some u64
                                        else
                                          (Ffar K 4 u52.P).bind fun u65 =>
                                          bif (decide (u65 < 0)) then
                                            (FL25_awake K).bind fun u67 =>
                                            some u67
                                          else
                                            (Ffar K 5 u52.P).bind fun u68 =>
                                            bif (decide (u68 < 0)) then
                                              (FL25_awake K).bind fun u70 =>
                                              some u70
                                            else
                                              (Ffar K 6 u52.P).bind fun u71 =>
                                              bif (decide (u71 < 0)) then
                                                (FL25_awake K).bind fun u73 =>
                                                some u73
                                              else
                                                (FR16_Snap K u52 a0.View).bind fun u74 =>
                                                (Fgeom_Tris K ((⟨a0.M, a0.View, a0.Sciss, a0.DFn, a0.DPut, a0.St, a0.Bl, 0, a0.Tex, a0.Wrap, a0.Soft⟩ : TState)) a1).bind fun u75 =>
                                                (FR17_Setup K ((⟨u28, u51, u74⟩ : A3TSpot)) 0).bind fun u76 =>
                                                bif !u76.snd then
                                                  bif ((↑u75.fst.length : Int) == 0) then
                                                    bif (bif true then u75.snd == 0 else false) then
                                                      (FL25_awake K).bind fun u80 =>
                                                      some (bif true then u80 else false)
                                                    else
                                                      some false
                                                  else
                                                    some false
                                                else
                                                  bif ((↑u75.fst.length : Int) == 1) then
                                                    bif (bif true then u75.snd == 0 else false) then
                                                      bif inR 0 u75.fst.length then
                                                        bif (bif true then bif false then !((getR u75.fst 0).S.e0.P.X == u76.fst.S.e0.P.X && ((getR u75.fst 0).S.e0.P.Y == u76.fst.S.e0.P.Y && true) && ((getR u75.fst 0).S.e0.Z == u76.fst.S.e0.Z && ((getR u75.fst 0).S.e0.A.e0 == u76.fst.S.e0.A.e0 && ((getR u75.fst 0).S.e0.A.e1 == u76.fst.S.e0.A.e1 && ((getR u75.fst 0).S.e0.A.e2 == u76.fst.S.e0.A.e2 && ((getR u75.fst 0).S.e0.A.e3 == u76.fst.S.e0.A.e3 && ((getR u75.fst 0).S.e0.A.e4 == u76.fst.S.e0.A.e4 && ((getR u75.fst 0).S.e0.A.e5 == u76.fst.S.e0.A.e5 && true))))) && true)) && ((getR u75.fst 0).S.e1.P.X == u76.fst.S.e1.P.X && ((getR u75.fst 0).S.e1.P.Y == u76.fst.S.e1.P.Y && true) && ((getR u75.fst 0).S.e1.Z == u76.fst.S.e1.Z && ((getR u75.fst 0).S.e1.A.e0 == u76.fst.S.e1.A.e0 && ((getR u75.fst 0).S.e1.A.e1 == u76.fst.S.e1.A.e1 && ((getR u75.fst 0).S.e1.A.e2 == u76.fst.S.e1.A.e2 && ((getR u75.fst 0).S.e1.A.e3 == u76.fst.S.e1.A.e3 && ((getR u75.fst 0).S.e1.A.e4 == u76.fst.S.e1.A.e4 && ((getR u75.fst 0).S.e1.A.e5 == u76.fst.S.e1.A.e5 && true))))) && true)) && ((getR u75.fst 0).S.e2.P.X == u76.fst.S.e2.P.X && ((getR u75.fst 0).S.e2.P.Y == u76.fst.S.e2.P.Y && true) && ((getR u75.fst 0).S.e2.Z == u76.fst.S.e2.Z && ((getR u75.fst 0).S.e2.A.e0 == u76.fst.S.e2.A.e0 && ((getR u75.fst 0).S.e2.A.e1 == u76.fst.S.e2.A.e1 && ((getR u75.fst 0).S.e2.A.e2 == u76.fst.S.e2.A.e2 && ((getR u75.fst 0).S.e2.A.e3 == u76.fst.S.e2.A.e3 && ((getR u75.fst 0).S.e2.A.e4 == u76.fst.S.e2.A.e4 && ((getR u75.fst 0).S.e2.A.e5 == u76.fst.S.e2.A.e5 && true))))) && true)) && true)) && ((getR u75.fst 0).Area == u76.fst.Area && ((getR u75.fst 0).Box.X0 == u76.fst.Box.X0 && ((getR u75.fst 0).Box.Y0 == u76.fst.Box.Y0 && ((getR u75.fst 0).Box.X1 == u76.fst.Box.X1 && ((getR u75.fst 0).Box.Y1 == u76.fst.Box.Y1 && true))) && true))) else (getR u75.fst 0).S.e0.P.X == u76.fst.S.e0.P.X && ((getR u75.fst 0).S.e0.P.Y == u76.fst.S.e0.P.Y && true) && ((getR u75.fst 0).S.e0.Z == u76.fst.S.e0.Z && ((getR u75.fst 0).S.e0.A.e0 == u76.fst.S.e0.A.e0 && ((getR u75.fst 0).S.e0.A.e1 == u76.fst.S.e0.A.e1 && ((getR u75.fst 0).S.e0.A.e2 == u76.fst.S.e0.A.e2 && ((getR u75.fst 0).S.e0.A.e3 == u76.fst.S.e0.A.e3 && ((getR u75.fst 0).S.e0.A.e4 == u76.fst.S.e0.A.e4 && ((getR u75.fst 0).S.e0.A.e5 == u76.fst.S.e0.A.e5 && true))))) && true)) && ((getR u75.fst 0).S.e1.P.X == u76.fst.S.e1.P.X && ((getR u75.fst 0).S.e1.P.Y == u76.fst.S.e1.P.Y && true) && ((getR u75.fst 0).S.e1.Z == u76.fst.S.e1.Z && ((getR u75.fst 0).S.e1.A.e0 == u76.fst.S.e1.A.e0 && ((getR u75.fst 0).S.e1.A.e1 == u76.fst.S.e1.A.e1 && ((getR u75.fst 0).S.e1.A.e2 == u76.fst.S.e1.A.e2 && ((getR u75.fst 0).S.e1.A.e3 == u76.fst.S.e1.A.e3 && ((getR u75.fst 0).S.e1.A.e4 == u76.fst.S.e1.A.e4 && ((getR u75.fst 0).S.e1.A.e5 == u76.fst.S.e1.A.e5 && true))))) && true)) && ((getR u75.fst 0).S.e2.P.X == u76.fst.S.e2.P.X && ((getR u75.fst 0).S.e2.P.Y == u76.fst.S.e2.P.Y && true) && ((getR u75.fst 0).S.e2.Z == u76.fst.S.e2.Z && ((getR u75.fst 0).S.e2.A.e0 == u76.fst.S.e2.A.e0 && ((getR u75.fst 0).S.e2.A.e1 == u76.fst.S.e2.A.e1 && ((getR u75.fst 0).S.e2.A.e2 == u76.fst.S.e2.A.e2 && ((getR u75.fst 0).S.e2.A.e3 == u76.fst.S.e2.A.e3 && ((getR u75.fst 0).S.e2.A.e4 == u76.fst.S.e2.A.e4 && ((getR u75.fst 0).S.e2.A.e5 == u76.fst.S.e2.A.e5 && true))))) && true)) && true)) && ((getR u75.fst 0).Area == u76.fst.Area && ((getR u75.fst 0).Box.X0 == u76.fst.Box.X0 && ((getR u75.fst 0).Box.Y0 == u76.fst.Box.Y0 && ((getR u75.fst 0).Box.X1 == u76.fst.Box.X1 && ((getR u75.fst 0).Box.Y1 == u76.fst.Box.Y1 && true))) && true)) else false) then
                                                          (FL25_awake K).bind fun u85 =>
                                                          some (bif true then u85 else false)
                                                        else
                                                          some false
                                                      else none
                                                    else
                                                      some false
                                                  else
                                                    some false
theorem cL25_GeomInside (K : Nat) (a0 : TState) (a1 : A3TVertex) : ∀ r, FL25_GeomInside K a0 a1 = some r → Con Try.prog 4 [.agg ⟨[.int .i64 a0.M.e0, .int .i64 a0.M.e1, .int .i64 a0.M.e2, .int .i64 a0.M.e3, .int .i64 a0.M.e4, .int .i64 a0.M.e5, .int .i64 a0.M.e6, .int .i64 a0.M.e7, .int .i64 a0.M.e8, .int .i64 a0.M.e9, .int .i64 a0.M.e10, .int .i64 a0.M.e11, .int .i64 a0.M.e12, .int .i64 a0.M.e13, .int .i64 a0.M.e14, .int .i64 a0.M.e15, .int .i64 a0.View.X0, .int .i64 a0.View.Y0, .int .i64 a0.View.X1, .int .i64 a0.View.Y1, .int .i64 a0.Sciss.X0, .int .i64 a0.Sciss.Y0, .int .i64 a0.Sciss.X1, .int .i64 a0.Sciss.Y1, .int .i64 a0.DFn, .bool a0.DPut, .int .i64 a0.St.Fn, .int .i64 a0.St.Ref, .int .i64 a0.St.Read, .int .i64 a0.St.Write, .int .i64 a0.St.Fail, .int .i64 a0.St.ZFail, .int .i64 a0.St.Pass, .int .i64 a0.Bl.Src, .int .i64 a0.Bl.Dst, .int .i64 a0.Bl.Eq, .int .i64 a0.Bl.Mask, .int .i64 a0.Cull, .int .i64 a0.Tex, .int .i64 a0.Wrap, .bool a0.Soft]⟩, .agg ⟨[.int .i64 a1.e0.X, .int .i64 a1.e0.Y, .int .i64 a1.e0.Z, .int .i64 a1.e0.C.R, .int .i64 a1.e0.C.G, .int .i64 a1.e0.C.B, .int .i64 a1.e0.C.A, .int .i64 a1.e0.U, .int .i64 a1.e0.V, .int .i64 a1.e1.X, .int .i64 a1.e1.Y, .int .i64 a1.e1.Z, .int .i64 a1.e1.C.R, .int .i64 a1.e1.C.G, .int .i64 a1.e1.C.B, .int .i64 a1.e1.C.A, .int .i64 a1.e1.U, .int .i64 a1.e1.V, .int .i64 a1.e2.X, .int .i64 a1.e2.Y, .int .i64 a1.e2.Z, .int .i64 a1.e2.C.R, .int .i64 a1.e2.C.G, .int .i64 a1.e2.C.B, .int .i64 a1.e2.C.A, .int .i64 a1.e2.U, .int .i64 a1.e2.V]⟩] (EL25_GeomInside r) := by
  refine Con.lift Try.func4 (by kernel_rfl) rfl (fun _ => rfl) ?_
  unfold FL25_GeomInside
  exact
    L.call mixed (kRst a0) (by kernel_rfl) <|
    L.gu mixed 2 _ (by kernel_rfl)
      (fun h1 =>
      L.callO mixed (fun u2 : Bool => .bool u2) (cL25_awake K) (by kernel_rfl) (fun u2 hu2 =>
      L.ret _ mixed Try.func4 _ (by kernel_rfl) rfl))
      (fun h1 =>
      L.callO mixed (fun u3 : Int => .int .i64 u3) (cR25_Check K a1) (by kernel_rfl) (fun u3 hu3 =>
      L.br mixed 3 _ (by kernel_rfl)
        (fun h4 =>
        L.callO mixed (fun u5 : Bool => .bool u5) (cL25_awake K) (by kernel_rfl) (fun u5 hu5 =>
        L.ret _ mixed Try.func4 _ (by kernel_rfl) rfl))
        (fun h4 =>
        L.callO mixed (fun u6 : TCorner => .agg ⟨[.int .i64 u6.P.X, .int .i64 u6.P.Y, .int .i64 u6.P.Z, .int .i64 u6.P.W, .int .i64 u6.A.e0, .int .i64 u6.A.e1, .int .i64 u6.A.e2, .int .i64 u6.A.e3, .int .i64 u6.A.e4, .int .i64 u6.A.e5]⟩) (cR24_Corner K a0.M a1.e0) (by kernel_rfl) (fun u6 hu6 =>
        L.callO mixed (fun u7 : Int => .int .i64 u7) (kRfar K 0 u6.P) (by kernel_rfl) (fun u7 hu7 =>
        L.br mixed 2 _ (by kernel_rfl)
          (fun h8 =>
          L.callO mixed (fun u9 : Bool => .bool u9) (cL25_awake K) (by kernel_rfl) (fun u9 hu9 =>
          L.ret _ mixed Try.func4 _ (by kernel_rfl) rfl))
          (fun h8 =>
          L.callO mixed (fun u10 : Int => .int .i64 u10) (kRfar K 1 u6.P) (by kernel_rfl) (fun u10 hu10 =>
          L.br mixed 2 _ (by kernel_rfl)
            (fun h11 =>
            L.callO mixed (fun u12 : Bool => .bool u12) (cL25_awake K) (by kernel_rfl) (fun u12 hu12 =>
            L.ret _ mixed Try.func4 _ (by kernel_rfl) rfl))
            (fun h11 =>
            L.callO mixed (fun u13 : Int => .int .i64 u13) (kRfar K 2 u6.P) (by kernel_rfl) (fun u13 hu13 =>
            L.br mixed 2 _ (by kernel_rfl)
              (fun h14 =>
              L.callO mixed (fun u15 : Bool => .bool u15) (cL25_awake K) (by kernel_rfl) (fun u15 hu15 =>
              L.ret _ mixed Try.func4 _ (by kernel_rfl) rfl))
              (fun h14 =>
              L.callO mixed (fun u16 : Int => .int .i64 u16) (kRfar K 3 u6.P) (by kernel_rfl) (fun u16 hu16 =>
              L.br mixed 2 _ (by kernel_rfl)
                (fun h17 =>
                L.callO mixed (fun u18 : Bool => .bool u18) (cL25_awake K) (by kernel_rfl) (fun u18 hu18 =>
                L.ret _ mixed Try.func4 _ (by kernel_rfl) rfl))
                (fun h17 =>
                L.callO mixed (fun u19 : Int => .int .i64 u19) (kRfar K 4 u6.P) (by kernel_rfl) (fun u19 hu19 =>
                L.br mixed 2 _ (by kernel_rfl)
                  (fun h20 =>
                  L.callO mixed (fun u21 : Bool => .bool u21) (cL25_awake K) (by kernel_rfl) (fun u21 hu21 =>
                  L.ret _ mixed Try.func4 _ (by kernel_rfl) rfl))
                  (fun h20 =>
                  L.callO mixed (fun u22 : Int => .int .i64 u22) (kRfar K 5 u6.P) (by kernel_rfl) (fun u22 hu22 =>
                  L.br mixed 2 _ (by kernel_rfl)
                    (fun h23 =>
                    L.callO mixed (fun u24 : Bool => .bool u24) (cL25_awake K) (by kernel_rfl) (fun u24 hu24 =>
                    L.ret _ mixed Try.func4 _ (by kernel_rfl) rfl))
                    (fun h23 =>
                    L.callO mixed (fun u25 : Int => .int .i64 u25) (kRfar K 6 u6.P) (by kernel_rfl) (fun u25 hu25 =>
                    L.br mixed 2 _ (by kernel_rfl)
                      (fun h26 =>
                      L.callO mixed (fun u27 : Bool => .bool u27) (cL25_awake K) (by kernel_rfl) (fun u27 hu27 =>
                      L.ret _ mixed Try.func4 _ (by kernel_rfl) rfl))
                      (fun h26 =>
                      L.callO mixed (fun u28 : TSpot => .agg ⟨[.int .i64 u28.P.X, .int .i64 u28.P.Y, .int .i64 u28.Z, .int .i64 u28.A.e0, .int .i64 u28.A.e1, .int .i64 u28.A.e2, .int .i64 u28.A.e3, .int .i64 u28.A.e4, .int .i64 u28.A.e5]⟩) (cR16_Snap K u6 a0.View) (by kernel_rfl) (fun u28 hu28 =>
                      L.callO mixed (fun u29 : TCorner => .agg ⟨[.int .i64 u29.P.X, .int .i64 u29.P.Y, .int .i64 u29.P.Z, .int .i64 u29.P.W, .int .i64 u29.A.e0, .int .i64 u29.A.e1, .int .i64 u29.A.e2, .int .i64 u29.A.e3, .int .i64 u29.A.e4, .int .i64 u29.A.e5]⟩) (cR24_Corner K a0.M a1.e1) (by kernel_rfl) (fun u29 hu29 =>
                      L.callO mixed (fun u30 : Int => .int .i64 u30) (kRfar K 0 u29.P) (by kernel_rfl) (fun u30 hu30 =>
                      L.br mixed 2 _ (by kernel_rfl)
                        (fun h31 =>
                        L.callO mixed (fun u32 : Bool => .bool u32) (cL25_awake K) (by kernel_rfl) (fun u32 hu32 =>
                        L.ret _ mixed Try.func4 _ (by kernel_rfl) rfl))
                        (fun h31 =>
                        L.callO mixed (fun u33 : Int => .int .i64 u33) (kRfar K 1 u29.P) (by kernel_rfl) (fun u33 hu33 =>
                        L.br mixed 2 _ (by kernel_rfl)
                          (fun h34 =>
                          L.callO mixed (fun u35 : Bool => .bool u35) (cL25_awake K) (by kernel_rfl) (fun u35 hu35 =>
                          L.ret _ mixed Try.func4 _ (by kernel_rfl) rfl))
                          (fun h34 =>
                          L.callO mixed (fun u36 : Int => .int .i64 u36) (kRfar K 2 u29.P) (by kernel_rfl) (fun u36 hu36 =>
                          L.br mixed 2 _ (by kernel_rfl)
                            (fun h37 =>
                            L.callO mixed (fun u38 : Bool => .bool u38) (cL25_awake K) (by kernel_rfl) (fun u38 hu38 =>
                            L.ret _ mixed Try.func4 _ (by kernel_rfl) rfl))
                            (fun h37 =>
                            L.callO mixed (fun u39 : Int => .int .i64 u39) (kRfar K 3 u29.P) (by kernel_rfl) (fun u39 hu39 =>
                            L.br mixed 2 _ (by kernel_rfl)
                              (fun h40 =>
                              L.callO mixed (fun u41 : Bool => .bool u41) (cL25_awake K) (by kernel_rfl) (fun u41 hu41 =>
                              L.ret _ mixed Try.func4 _ (by kernel_rfl) rfl))
                              (fun h40 =>
                              L.callO mixed (fun u42 : Int => .int .i64 u42) (kRfar K 4 u29.P) (by kernel_rfl) (fun u42 hu42 =>
                              L.br mixed 2 _ (by kernel_rfl)
                                (fun h43 =>
                                L.callO mixed (fun u44 : Bool => .bool u44) (cL25_awake K) (by kernel_rfl) (fun u44 hu44 =>
                                L.ret _ mixed Try.func4 _ (by kernel_rfl) rfl))
                                (fun h43 =>
                                L.callO mixed (fun u45 : Int => .int .i64 u45) (kRfar K 5 u29.P) (by kernel_rfl) (fun u45 hu45 =>
                                L.br mixed 2 _ (by kernel_rfl)
                                  (fun h46 =>
                                  L.callO mixed (fun u47 : Bool => .bool u47) (cL25_awake K) (by kernel_rfl) (fun u47 hu47 =>
                                  L.ret _ mixed Try.func4 _ (by kernel_rfl) rfl))
                                  (fun h46 =>
                                  L.callO mixed (fun u48 : Int => .int .i64 u48) (kRfar K 6 u29.P) (by kernel_rfl) (fun u48 hu48 =>
                                  L.br mixed 2 _ (by kernel_rfl)
                                    (fun h49 =>
                                    L.callO mixed (fun u50 : Bool => .bool u50) (cL25_awake K) (by kernel_rfl) (fun u50 hu50 =>
                                    L.ret _ mixed Try.func4 _ (by kernel_rfl) rfl))
                                    (fun h49 =>
                                    L.callO mixed (fun u51 : TSpot => .agg ⟨[.int .i64 u51.P.X, .int .i64 u51.P.Y, .int .i64 u51.Z, .int .i64 u51.A.e0, .int .i64 u51.A.e1, .int .i64 u51.A.e2, .int .i64 u51.A.e3, .int .i64 u51.A.e4, .int .i64 u51.A.e5]⟩) (cR16_Snap K u29 a0.View) (by kernel_rfl) (fun u51 hu51 =>
                                    L.callO mixed (fun u52 : TCorner => .agg ⟨[.int .i64 u52.P.X, .int .i64 u52.P.Y, .int .i64 u52.P.Z, .int .i64 u52.P.W, .int .i64 u52.A.e0, .int .i64 u52.A.e1, .int .i64 u52.A.e2, .int .i64 u52.A.e3, .int .i64 u52.A.e4, .int .i64 u52.A.e5]⟩) (cR24_Corner K a0.M a1.e2) (by kernel_rfl) (fun u52 hu52 =>
                                    L.callO mixed (fun u53 : Int => .int .i64 u53) (kRfar K 0 u52.P) (by kernel_rfl) (fun u53 hu53 =>
                                    L.br mixed 2 _ (by kernel_rfl)
                                      (fun h54 =>
                                      L.callO mixed (fun u55 : Bool => .bool u55) (cL25_awake K) (by kernel_rfl) (fun u55 hu55 =>
                                      L.ret _ mixed Try.func4 _ (by kernel_rfl) rfl))
                                      (fun h54 =>
                                      L.callO mixed (fun u56 : Int => .int .i64 u56) (kRfar K 1 u52.P) (by kernel_rfl) (fun u56 hu56 =>
                                      L.br mixed 2 _ (by kernel_rfl)
                                        (fun h57 =>
                                        L.callO mixed (fun u58 : Bool => .bool u58) (cL25_awake K) (by kernel_rfl) (fun u58 hu58 =>
                                        L.ret _ mixed Try.func4 _ (by kernel_rfl) rfl))
                                        (fun h57 =>
                                        L.callO mixed (fun u59 : Int => .int .i64 u59) (kRfar K 2 u52.P) (by kernel_rfl) (fun u59 hu59 =>
                                        L.br mixed 2 _ (by kernel_rfl)
                                          (fun h60 =>
                                          L.callO mixed (fun u61 : Bool => .bool u61) (cL25_awake K) (by kernel_rfl) (fun u61 hu61 =>
                                          L.ret _ mixed Try.func4 _ (by kernel_rfl) rfl))
                                          (fun h60 =>
                                          L.callO mixed (fun u62 : Int => .int .i64 u62) (kRfar K 3 u52.P) (by kernel_rfl) (fun u62 hu62 =>
                                          L.br mixed 2 _ (by kernel_rfl)
                                            (fun h63 =>
                                            L.callO mixed (fun u64 : Bool => .bool u64) (cL25_awake K) (by kernel_rfl) (fun u64 hu64 =>
                                            L.ret _ mixed Try.func4 _ (by kernel_rfl) rfl))
                                            (fun h63 =>
                                            L.callO mixed (fun u65 : Int => .int .i64 u65) (kRfar K 4 u52.P) (by kernel_rfl) (fun u65 hu65 =>
                                            L.br mixed 2 _ (by kernel_rfl)
                                              (fun h66 =>
                                              L.callO mixed (fun u67 : Bool => .bool u67) (cL25_awake K) (by kernel_rfl) (fun u67 hu67 =>
                                              L.ret _ mixed Try.func4 _ (by kernel_rfl) rfl))
                                              (fun h66 =>
                                              L.callO mixed (fun u68 : Int => .int .i64 u68) (kRfar K 5 u52.P) (by kernel_rfl) (fun u68 hu68 =>
                                              L.br mixed 2 _ (by kernel_rfl)
                                                (fun h69 =>
                                                L.callO mixed (fun u70 : Bool => .bool u70) (cL25_awake K) (by kernel_rfl) (fun u70 hu70 =>
                                                L.ret _ mixed Try.func4 _ (by kernel_rfl) rfl))
                                                (fun h69 =>
                                                L.callO mixed (fun u71 : Int => .int .i64 u71) (kRfar K 6 u52.P) (by kernel_rfl) (fun u71 hu71 =>
                                                L.br mixed 2 _ (by kernel_rfl)
                                                  (fun h72 =>
                                                  L.callO mixed (fun u73 : Bool => .bool u73) (cL25_awake K) (by kernel_rfl) (fun u73 hu73 =>
                                                  L.ret _ mixed Try.func4 _ (by kernel_rfl) rfl))
                                                  (fun h72 =>
                                                  L.callO mixed (fun u74 : TSpot => .agg ⟨[.int .i64 u74.P.X, .int .i64 u74.P.Y, .int .i64 u74.Z, .int .i64 u74.A.e0, .int .i64 u74.A.e1, .int .i64 u74.A.e2, .int .i64 u74.A.e3, .int .i64 u74.A.e4, .int .i64 u74.A.e5]⟩) (cR16_Snap K u52 a0.View) (by kernel_rfl) (fun u74 hu74 =>
                                                  L.callO mixed (fun u75 : List TTri × Int => .tuple ⟨[lst u75.1, .int .i64 u75.2]⟩) (cgeom_Tris K ((⟨a0.M, a0.View, a0.Sciss, a0.DFn, a0.DPut, a0.St, a0.Bl, 0, a0.Tex, a0.Wrap, a0.Soft⟩ : TState)) a1) (by kernel_rfl) (fun u75 hu75 =>
                                                  L.callO mixed (fun u76 : TTri × Bool => .tuple ⟨[.agg ⟨[.int .i64 u76.1.S.e0.P.X, .int .i64 u76.1.S.e0.P.Y, .int .i64 u76.1.S.e0.Z, .int .i64 u76.1.S.e0.A.e0, .int .i64 u76.1.S.e0.A.e1, .int .i64 u76.1.S.e0.A.e2, .int .i64 u76.1.S.e0.A.e3, .int .i64 u76.1.S.e0.A.e4, .int .i64 u76.1.S.e0.A.e5, .int .i64 u76.1.S.e1.P.X, .int .i64 u76.1.S.e1.P.Y, .int .i64 u76.1.S.e1.Z, .int .i64 u76.1.S.e1.A.e0, .int .i64 u76.1.S.e1.A.e1, .int .i64 u76.1.S.e1.A.e2, .int .i64 u76.1.S.e1.A.e3, .int .i64 u76.1.S.e1.A.e4, .int .i64 u76.1.S.e1.A.e5, .int .i64 u76.1.S.e2.P.X, .int .i64 u76.1.S.e2.P.Y, .int .i64 u76.1.S.e2.Z, .int .i64 u76.1.S.e2.A.e0, .int .i64 u76.1.S.e2.A.e1, .int .i64 u76.1.S.e2.A.e2, .int .i64 u76.1.S.e2.A.e3, .int .i64 u76.1.S.e2.A.e4, .int .i64 u76.1.S.e2.A.e5, .int .i64 u76.1.Area, .int .i64 u76.1.Box.X0, .int .i64 u76.1.Box.Y0, .int .i64 u76.1.Box.X1, .int .i64 u76.1.Box.Y1]⟩, .bool u76.2]⟩) (cR17_Setup K ((⟨u28, u51, u74⟩ : A3TSpot)) 0) (by kernel_rfl) (fun u76 hu76 =>
                                                  L.br mixed 13 _ (by kernel_rfl)
                                                    (fun h77 =>
                                                    L.gu mixed 6 _ (by kernel_rfl)
                                                      (fun h78 =>
                                                      L.gu mixed 4 _ (by kernel_rfl)
                                                        (fun h79 =>
                                                        L.callO mixed (fun u80 : Bool => .bool u80) (cL25_awake K) (by kernel_rfl) (fun u80 hu80 =>
                                                        L.ret _ mixed Try.func4 _ (by kernel_rfl) rfl))
                                                        (fun h79 =>
                                                        L.ret _ mixed Try.func4 _ (by kernel_rfl) rfl))
                                                      (fun h78 =>
                                                      L.ret _ mixed Try.func4 _ (by kernel_rfl) rfl))
                                                    (fun h77 =>
                                                    L.gu mixed 7 _ (by kernel_rfl)
                                                      (fun h81 =>
                                                      L.gu mixed 4 _ (by kernel_rfl)
                                                        (fun h82 =>
                                                        L.idx mixed 1 _ (rows u75.fst) 32 IntKind.i64 _ (by kernel_rfl) (fun h83a h83b =>
                                                        L.ld mixed 0 52 (rows u75.fst) ((0 : Int).toNat * 32 + 0) (.agg ⟨[.int .i64 (getR u75.fst (0 : Int).toNat).S.e0.P.X, .int .i64 (getR u75.fst (0 : Int).toNat).S.e0.P.Y, .int .i64 (getR u75.fst (0 : Int).toNat).S.e0.Z, .int .i64 (getR u75.fst (0 : Int).toNat).S.e0.A.e0, .int .i64 (getR u75.fst (0 : Int).toNat).S.e0.A.e1, .int .i64 (getR u75.fst (0 : Int).toNat).S.e0.A.e2, .int .i64 (getR u75.fst (0 : Int).toNat).S.e0.A.e3, .int .i64 (getR u75.fst (0 : Int).toNat).S.e0.A.e4, .int .i64 (getR u75.fst (0 : Int).toNat).S.e0.A.e5, .int .i64 (getR u75.fst (0 : Int).toNat).S.e1.P.X, .int .i64 (getR u75.fst (0 : Int).toNat).S.e1.P.Y, .int .i64 (getR u75.fst (0 : Int).toNat).S.e1.Z, .int .i64 (getR u75.fst (0 : Int).toNat).S.e1.A.e0, .int .i64 (getR u75.fst (0 : Int).toNat).S.e1.A.e1, .int .i64 (getR u75.fst (0 : Int).toNat).S.e1.A.e2, .int .i64 (getR u75.fst (0 : Int).toNat).S.e1.A.e3, .int .i64 (getR u75.fst (0 : Int).toNat).S.e1.A.e4, .int .i64 (getR u75.fst (0 : Int).toNat).S.e1.A.e5, .int .i64 (getR u75.fst (0 : Int).toNat).S.e2.P.X, .int .i64 (getR u75.fst (0 : Int).toNat).S.e2.P.Y, .int .i64 (getR u75.fst (0 : Int).toNat).S.e2.Z, .int .i64 (getR u75.fst (0 : Int).toNat).S.e2.A.e0, .int .i64 (getR u75.fst (0 : Int).toNat).S.e2.A.e1, .int .i64 (getR u75.fst (0 : Int).toNat).S.e2.A.e2, .int .i64 (getR u75.fst (0 : Int).toNat).S.e2.A.e3, .int .i64 (getR u75.fst (0 : Int).toNat).S.e2.A.e4, .int .i64 (getR u75.fst (0 : Int).toNat).S.e2.A.e5, .int .i64 (getR u75.fst (0 : Int).toNat).Area, .int .i64 (getR u75.fst (0 : Int).toNat).Box.X0, .int .i64 (getR u75.fst (0 : Int).toNat).Box.Y0, .int .i64 (getR u75.fst (0 : Int).toNat).Box.X1, .int .i64 (getR u75.fst (0 : Int).toNat).Box.Y1]⟩) (by kernel_rfl) (loadN_rows (i := (0 : Int).toNat) (d := 0) (k := 32) rfl (toNat_lt h83a h83b) (by kernel_rfl) (by kernel_rfl) (Nat.le_of_ble_eq_true (by kernel_rfl)) (by kernel_rfl)) <|
                                                        L.gu mixed 4 _ (by kernel_rfl)
                                                          (fun h84 =>
                                                          L.callO mixed (fun u85 : Bool => .bool u85) (cL25_awake K) (by kernel_rfl) (fun u85 hu85 =>
                                                          L.ret _ mixed Try.func4 _ (by kernel_rfl) rfl))
                                                          (fun h84 =>
                                                          L.ret _ mixed Try.func4 _ (by kernel_rfl) rfl)))
                                                        (fun h82 =>
                                                        L.ret _ mixed Try.func4 _ (by kernel_rfl) rfl))
                                                      (fun h81 =>
                                                      L.ret _ mixed Try.func4 _ (by kernel_rfl) rfl)))))))))))))))))))))))))))))))))))))))))))))))))))))))

end

section
open Go Go.Dt Go.Proofs Go.Proofs.Ytegmkkpdckolkaa.Clip Go.Proofs.Ytegmkkpdckolkaa.Pol Go.Proofs.Ytegmkkpdckolkaa.Wide
set_option linter.unusedVariables false
set_option linter.unusedSimpArgs false

theorem cr_getR (ps : List TCorner) (i : Nat) : cr (getR ps i) = (ps.map cr).getD i c0 := by
  unfold getR
  rw [List.getD_eq_getElem?_getD, List.getD_eq_getElem?_getD, List.getElem?_map]
  cases ps[i]? <;> rfl
theorem map_cr (l : List Cr) : (l.map uncr).map cr = l := by
  induction l with
  | nil => rfl
  | cons a l ih => rw [List.map_cons, List.map_cons, ih]
theorem map_uncr (l : List TCorner) : (l.map cr).map uncr = l := by
  induction l with
  | nil => rfl
  | cons a l ih => rw [List.map_cons, List.map_cons, ih]
def atT (k : Int) (ps : List TCorner) : List TCorner := (atL k (ps.map cr)).map uncr
def MayT (ps : List TCorner) : Prop := ∀ i, i < ps.length → mayR (cr (getR ps i))
theorem room80 {n : Nat} (h : n ≤ 1000000) : room n 80 = true := by
  simp only [room, Bool.and_eq_true, decide_eq_true_eq]
  omega
theorem inR_ok {i n : Nat} (h : i < n) : inR (i : Int) n = true := by
  simp only [inR, Bool.and_eq_true, decide_eq_true_eq]
  omega
theorem wrap_nxt {i : Nat} (h : i ≤ 1000000) : IntKind.i64.wrap ((i : Int) + 1) = ((i + 1 : Nat) : Int) := by
  rw [wrap_i64_of (by omega) (by omega)]; omega
theorem Ffar_eq {K : Nat} {k : Int} {c : TCorner} (hk : 0 ≤ k ∧ k ≤ 6) (h : mayR (cr c)) : Ffar K k c.P = some (farC k (cr c)) := by
  unfold Ffar
  rw [inK_mk hk, inV_mk (v := c.P) h.1]
  rfl

section
variable {k : Int} {ps : List TCorner} {K i : Nat} {o : List TCorner}
theorem step53 (hk : 0 ≤ k ∧ k ≤ 6) (hi : i < ps.length) (hp : MayT ps) (hn : ps.length ≤ 100000) (ho : o.length ≤ 300000) :
    Fclip_at_3 k ps (K + 1) o (i : Int) = Fclip_at_3 k ps K (o ++ (stepAt k (cr (getR ps i)) (cr (getR ps ((i + 1) % ps.length)))).map uncr) ((i + 1 : Nat) : Int) := by
  have e1 : decide ((i : Int) < (ps.length : Int)) = true := decide_eq_true (by omega)
  have e2 := inR_ok hi
  have e3 : ((ps.length : Int) != 0) = true := by rw [bne_iff_ne]; omega
  have e4 := nxt_mod hi hn
  have e5 := inR_ok (nxt_lt hi)
  have ha := hp i hi
  have hb := hp _ (nxt_lt hi)
  have e6 := Ffar_eq (K := K) hk ha
  have e7 := Ffar_eq (K := K) hk hb
  have e8 := wrap_nxt (i := i) (by omega)
  have r1 : room (o.length + ([getR ps i] : List TCorner).length) 80 = true := room80 (by simp; omega)
  have r2 : ∀ x : TCorner, room ((o ++ [getR ps i]).length + ([x] : List TCorner).length) 80 = true := fun x => room80 (by simp; omega)
  have r3 : ∀ x : TCorner, room (o.length + ([x] : List TCorner).length) 80 = true := fun x => room80 (by simp; omega)
  rw [Fclip_at_3]
  simp only [e1, e2, e3, e4, e5, cond_true, Int.toNat_natCast, e6, e7, Option.bind_some, r1]
  by_cases h1 : 0 ≤ farC k (cr (getR ps i))
  · have d1 : decide (farC k (cr (getR ps i)) ≥ 0) = true := decide_eq_true h1
    by_cases h2 : 0 ≤ farC k (cr (getR ps ((i + 1) % ps.length)))
    · have d2 : decide (farC k (cr (getR ps ((i + 1) % ps.length))) ≥ 0) = true := decide_eq_true h2
      simp only [d1, d2, cond_true, cond_false, Bool.not_true, e8]
      refine congrArg (fun l => Fclip_at_3 k ps K l _) ?_
      unfold stepAt; rw [if_pos h1, if_pos h2]; rfl
    · have d2 : decide (farC k (cr (getR ps ((i + 1) % ps.length))) ≥ 0) = false := decide_eq_false h2
      simp only [d1, d2, cond_true, cond_false, Bool.not_true, Bool.not_false, e8, Fcut_eq hk ha hb h1 h2, Option.bind_some, r2]
      refine congrArg (fun l => Fclip_at_3 k ps K l _) ?_
      unfold stepAt; rw [if_pos h1, if_neg h2, List.append_assoc]; rfl
  · have d1 : decide (farC k (cr (getR ps i)) ≥ 0) = false := decide_eq_false h1
    by_cases h2 : 0 ≤ farC k (cr (getR ps ((i + 1) % ps.length)))
    · have d2 : decide (farC k (cr (getR ps ((i + 1) % ps.length))) ≥ 0) = true := decide_eq_true h2
      simp only [d1, d2, cond_true, cond_false, Bool.not_true, Bool.not_false, e8, Fcut_eq hk hb ha h2 h1, Option.bind_some, r3]
      refine congrArg (fun l => Fclip_at_3 k ps K l _) ?_
      unfold stepAt; rw [if_neg h1, if_pos h2]; rfl
    · have d2 : decide (farC k (cr (getR ps ((i + 1) % ps.length))) ≥ 0) = false := decide_eq_false h2
      simp only [d1, d2, cond_true, cond_false, Bool.not_true, Bool.not_false, e8]
      refine congrArg (fun l => Fclip_at_3 k ps K l _) ?_
      unfold stepAt; rw [if_neg h1, if_neg h2]; exact (List.append_nil o).symm
theorem flat_T (d i : Nat) : (flat k (ps.map cr) (d + 1) i).map uncr = (stepAt k (cr (getR ps i)) (cr (getR ps ((i + 1) % ps.length)))).map uncr ++ (flat k (ps.map cr) d (i + 1)).map uncr := by
  rw [flat_succ rfl, List.map_append, cr_getR, cr_getR, List.length_map]
theorem step_len (a b : Cr) : (stepAt k a b).length ≤ 2 := by
  unfold stepAt
  split <;> split <;> simp
theorem loop53 (hk : 0 ≤ k ∧ k ≤ 6) (hp : MayT ps) (hn : ps.length ≤ 100000) : ∀ (d i K : Nat) (o : List TCorner), i + d = ps.length → d < K → o.length + 2 * d ≤ 300000 → Fclip_at_3 k ps K o (i : Int) = some (o ++ (flat k (ps.map cr) d i).map uncr)
  | 0, i, K + 1, o, h, hK, ho => by
    have e1 : decide ((i : Int) < (ps.length : Int)) = false := decide_eq_false (by omega)
    rw [Fclip_at_3]
    simp only [e1, cond_false]
    exact congrArg some (List.append_nil o).symm
  | d + 1, i, K + 1, o, h, hK, ho => by
    have hl := step_len (k := k) (cr (getR ps i)) (cr (getR ps ((i + 1) % ps.length)))
    rw [step53 hk (by omega) hp hn (by omega), loop53 hk hp hn d (i + 1) K _ (by omega) (by omega) (by rw [List.length_append, List.length_map]; omega), flat_T, List.append_assoc]
  | _, _, 0, _, _, hK, _ => absurd hK (Nat.not_lt_zero _)
theorem Fclip_at_at (hk : 0 ≤ k ∧ k ≤ 6) (hp : MayT ps) (hn : ps.length ≤ 100000) (hK : ps.length < K) : Fclip_at K k ps = some (atT k ps) := by
  have h := loop53 hk hp hn ps.length 0 K [] (by omega) hK (by simp; omega)
  unfold Fclip_at
  rw [show ((0 : Int)) = ((0 : Nat) : Int) from rfl, h, List.nil_append, atT, atL, List.length_map]
theorem may_map : MayT ps ↔ ∀ i, i < (ps.map cr).length → mayR ((ps.map cr).getD i c0) := by
  unfold MayT
  rw [List.length_map]
  exact ⟨fun h i hi => cr_getR ps i ▸ h i hi, fun h i hi => (cr_getR ps i).symm ▸ h i hi⟩
theorem atT_map : (atT k ps).map cr = atL k (ps.map cr) := by unfold atT; exact map_cr _
theorem atT_may (hk : 0 ≤ k ∧ k ≤ 6) (hp : MayT ps) : MayT (atT k ps) := by
  rw [may_map, atT_map]
  exact fun i hi => at_may hk (may_map.1 hp) rfl hi
theorem atT_len : (atT k ps).length ≤ 2 * ps.length := by
  have := at_len (k := k) (ps := ps.map cr) rfl
  rw [List.length_map] at this
  unfold atT
  rwa [List.length_map]

/-- So many planes, from one on. -/
def plT : Nat → Nat → List TCorner → List TCorner
  | 0, _, ps => ps
  | d + 1, j, ps => plT d (j + 1) (atT j ps)
theorem loop24 {a0 : List TCorner} : ∀ (d j K : Nat) (ps : List TCorner), j + d = 7 → MayT ps → ps.length * 2 ^ d ≤ 4096 → 4200 + d < K → Fclip_All_6 a0 K ps (j : Int) = some (plT d j ps, 0)
  | 0, j, K + 1, ps, h, hp, hl, hK => by
    have e1 : decide ((j : Int) < 7) = false := decide_eq_false (by omega)
    rw [Fclip_All_6]
    simp only [e1, cond_false]
    rfl
  | d + 1, j, K + 1, ps, h, hp, hl, hK => by
    have e1 : decide ((j : Int) < 7) = true := decide_eq_true (by omega)
    have hk : 0 ≤ (j : Int) ∧ (j : Int) ≤ 6 := by omega
    have h2 : ps.length ≤ 4096 := Nat.le_trans (Nat.le_mul_of_pos_right _ (Nat.pow_pos (by decide))) hl
    have h3 := atT_len (k := (j : Int)) (ps := ps)
    have h4 : (atT j ps).length * 2 ^ d ≤ 4096 := by
      rw [Nat.pow_succ] at hl
      have := Nat.mul_le_mul_right (2 ^ d) h3
      have e : ps.length * (2 ^ d * 2) = 2 * ps.length * 2 ^ d := by rw [Nat.mul_comm (2 ^ d) 2, ← Nat.mul_assoc, Nat.mul_comm ps.length 2]
      omega
    rw [Fclip_All_6]
    simp only [e1, cond_true, Fclip_at_at hk hp (by omega) (show ps.length < K by omega), Option.bind_some, wrap_nxt (show j ≤ 1000000 by omega)]
    rw [loop24 d (j + 1) K _ (by omega) (atT_may hk hp) h4 (by omega)]
    rfl
  | _, _, 0, _, _, _, _, hK => absurd hK (Nat.not_lt_zero _)
/-! ### What is left has a W of 1 at least; what is within stays -/
theorem bet_ge {n m d e : Int} (s : Sep d e) (h1 : ok30 n) (h2 : ok30 m) (hn : 1 ≤ n) (hm : 1 ≤ m) : 1 ≤ bet n m d e := by
  have h := step_range (q := m - n) s (by simp only [ok30] at *; omega) (by simp only [ok30] at *; omega)
  unfold bet
  rcases Int.le_total 0 (m - n) with hq | hq
  · have := (h.1 hq).1; omega
  · have := (h.2 hq).1; omega
def WT (ps : List TCorner) : Prop := ∀ i, i < ps.length → 1 ≤ (getR ps i).P.W
theorem cut_w {a b : Cr} (h : mayR a) (h' : mayR b) (hd : 0 ≤ farC k a) (he : ¬ 0 ≤ farC k b) (ha : 1 ≤ a.w) (hb : 1 ≤ b.w) : 1 ≤ (cutC k a b).w := by
  have s : Sep (farC k a) (farC k b) := ⟨hd, (farI_bounds (k := k) h.1).2, Int.not_le.mp he, (farI_bounds (k := k) h'.1).1⟩
  have h1 := bet_ge s h.1.2.2.2 h'.1.2.2.2 ha hb
  show 1 ≤ Clip.mw k (bet a.w b.w (farC k a) (farC k b))
  unfold Clip.mw
  split
  · exact Int.le_refl 1
  · exact h1
theorem step_w {a b : Cr} (h : mayR a) (h' : mayR b) (ha : 1 ≤ a.w) (hb : 1 ≤ b.w) : ∀ c, c ∈ stepAt k a b → 1 ≤ c.w := by
  intro c hc
  unfold stepAt at hc
  split at hc
  · rename_i h1
    split at hc
    · simp only [List.mem_singleton] at hc; subst hc; exact ha
    · rename_i h2
      simp only [List.mem_cons, List.not_mem_nil, or_false] at hc
      rcases hc with rfl | rfl
      · exact ha
      · exact cut_w h h' h1 h2 ha hb
  · rename_i h1
    split at hc
    · rename_i h2
      simp only [List.mem_singleton] at hc; subst hc; exact cut_w h' h h2 h1 hb ha
    · cases hc
theorem flat_w {l : List Cr} (hp : ∀ i, i < l.length → mayR (l.getD i c0)) (hw : ∀ i, i < l.length → 1 ≤ (l.getD i c0).w) : ∀ (d i : Nat), i + d = l.length → ∀ c, c ∈ flat k l d i → 1 ≤ c.w
  | 0, i, _, c, h => by cases h
  | d + 1, i, hi, c, h => by
    rw [flat_succ rfl] at h
    rcases List.mem_append.1 h with h | h
    · exact step_w (hp i (by omega)) (hp _ (nxt_lt (by omega))) (hw i (by omega)) (hw _ (nxt_lt (by omega))) c h
    · exact flat_w hp hw d (i + 1) (by omega) c h
theorem w_map : WT ps ↔ ∀ i, i < (ps.map cr).length → 1 ≤ ((ps.map cr).getD i c0).w := by
  unfold WT
  rw [List.length_map]
  exact ⟨fun h i hi => cr_getR ps i ▸ h i hi, fun h i hi => by have := h i hi; rw [← cr_getR] at this; exact this⟩
theorem atT_w (hp : MayT ps) (hw : WT ps) : WT (atT k ps) := by
  rw [w_map, atT_map]
  intro i hi
  refine flat_w (k := k) (may_map.1 hp) (w_map.1 hw) (ps.map cr).length 0 (by omega) _ ?_
  rw [List.getD_eq_getElem?_getD, List.getElem?_eq_getElem hi]
  exact List.getElem_mem hi
theorem atT_w0 (hp : MayT ps) : WT (atT 0 ps) := by
  rw [w_map, atT_map]
  intro i hi
  have h : (0 : Int) ≤ ((atL 0 (ps.map cr)).getD i c0).w - 1 := at_far (k := 0) (by decide) rfl hi
  omega
theorem plT_w : ∀ (d j : Nat) (ps : List TCorner), j + d ≤ 7 → MayT ps → WT ps → WT (plT d j ps)
  | 0, _, _, _, _, h => h
  | d + 1, j, ps, hj, hp, h => plT_w d (j + 1) _ (by omega) (atT_may (by omega) hp) (atT_w hp h)
theorem all_w (hp : MayT ps) : WT (plT 7 0 ps) := plT_w 6 1 _ (by omega) (atT_may (by decide) hp) (atT_w0 hp)
theorem atT_in (h : ∀ i, i < ps.length → 0 ≤ farC k (cr (getR ps i))) : atT k ps = ps := by
  unfold atT
  rw [at_in, map_uncr]
  intro i hi
  rw [List.length_map] at hi
  rw [← cr_getR]
  exact h i hi
theorem plT_in : ∀ (d j : Nat), j + d ≤ 7 → (∀ i, i < ps.length → ∀ k : Nat, k < 7 → 0 ≤ farC k (cr (getR ps i))) → plT d j ps = ps
  | 0, _, _, _ => rfl
  | d + 1, j, hj, h => by
    show plT d (j + 1) (atT j ps) = ps
    rw [atT_in fun i hi => h i hi j (by omega)]
    exact plT_in d (j + 1) (by omega) h
theorem plT_len : ∀ (d j : Nat) (ps : List TCorner), (plT d j ps).length ≤ ps.length * 2 ^ d
  | 0, _, ps => by show ps.length ≤ _; omega
  | d + 1, j, ps => by
    have h := plT_len d (j + 1) (atT j ps)
    have h3 := Nat.mul_le_mul_right (2 ^ d) (atT_len (k := (j : Int)) (ps := ps))
    show (plT d (j + 1) (atT j ps)).length ≤ _
    rw [Nat.pow_succ]
    have e : ps.length * (2 ^ d * 2) = 2 * ps.length * 2 ^ d := by rw [Nat.mul_comm (2 ^ d) 2, ← Nat.mul_assoc, Nat.mul_comm ps.length 2]
    omega
end

end

end Go.Proofs.Ytegmkkpdckolkaa.Lf
