/- Several texts in one: FKy, LFy, H1y. -/
import Derived.Test.YtfkmhhbpomkakaaGreatQF17
import Derived.Test.YtfkmhhbpomkakaaGreatQF18
import Derived.Test.YtfkmhhbpomkakaaGreatQF26
import Derived.Test.YtfkmhhbpomkakaaGreatQF27
namespace Go.Proofs.YtfkmhhbpomkakaaGreat.Lf

section
open Go Go.Dt Go.Proofs Go.Proofs.YtfkmhhbpomkakaaGreat.Bary Go.Proofs.YtfkmhhbpomkakaaGreat.Tri
set_option linter.unusedVariables false

def Fsat (n lo hi : Int) : Int := Frag.sat n lo hi
theorem ksat (n lo hi : Int) : Con Tryz.prog 18 [.int .i64 n, .int .i64 lo, .int .i64 hi] (.int .i64 (Fsat n lo hi)) := Frag.c_sat n lo hi
def Ftint (c : TColor) : Bool := Frag.rightC c.R c.G c.B c.A
theorem ktint (c : TColor) : Con Tryz.prog 35 [.agg ⟨flTColor.cells c⟩] (.bool (Ftint c)) := Frag.c_tint _ _ _ _
theorem kRtint (c : TColor) : Con Tryz.prog 28 [.agg ⟨flTColor.cells c⟩] (.bool (Ftint c)) := Frag.c_rightC _ _ _ _
def Fmays (s : TSpot) : Bool := decide (Tri.mayS s.P.X s.P.Y s.Z s.A.e0 s.A.e1 s.A.e2 s.A.e3 s.A.e4 s.A.e5)
theorem kmays (s : TSpot) : Con Tryz.prog 13 [.agg ⟨flTSpot.cells s⟩] (.bool (Fmays s)) := Tri.c_mayS _ _ _ _ _ _ _ _ _
def Fside (a b c : TPoint) : Int := Bary.sideR a.X a.Y b.X b.Y c.X c.Y
def Fedge (a b c : TPoint) : Int × Int := (bif Bary.ok3 a.X a.Y b.X b.Y c.X c.Y then Fside a b c else 0, bif Bary.ok3 a.X a.Y b.X b.Y c.X c.Y then 0 else 3)
theorem kedge (a b c : TPoint) : Con Tryz.prog 14 [.agg ⟨flTPoint.cells a⟩, .agg ⟨flTPoint.cells b⟩, .agg ⟨flTPoint.cells c⟩] (.tuple ⟨[.int .i64 (Fedge a b c).1, .int .i64 (Fedge a b c).2]⟩) := Bary.c_edge _ _ _ _ _ _
def Vbox (s : A3TSpot) : TRect := ⟨Tri.bx0 s.e0.P.X s.e1.P.X s.e2.P.X, Tri.bx0 s.e0.P.Y s.e1.P.Y s.e2.P.Y, Tri.bx1 s.e0.P.X s.e1.P.X s.e2.P.X, Tri.bx1 s.e0.P.Y s.e1.P.Y s.e2.P.Y⟩
def Okbox (s : A3TSpot) : Bool := Bary.okP s.e0.P.X s.e0.P.Y && (Bary.okP s.e1.P.X s.e1.P.Y && Bary.okP s.e2.P.X s.e2.P.Y)
def Fbox (K : Nat) (s : A3TSpot) : Option TRect := bif Okbox s then some (Vbox s) else none
theorem Fbox_some {K : Nat} {s : A3TSpot} {r : TRect} (h : Fbox K s = some r) : Okbox s = true ∧ r = Vbox s := by
  unfold Fbox at h
  cases e : Okbox s with
  | false => rw [e] at h; cases h
  | true => rw [e] at h; cases h; exact ⟨rfl, rfl⟩
theorem kbox (K : Nat) (s : A3TSpot) : ∀ r, Fbox K s = some r → Con Tryz.prog 15 [.agg ⟨flA3TSpot.cells s⟩] (.agg ⟨flTRect.cells r⟩) := fun r hr => by
  obtain ⟨h, rfl⟩ := Fbox_some hr
  simp only [Okbox, Bool.and_eq_true] at h
  exact Tri.c_box h.1 h.2.1 h.2.2
theorem kRmays (s : TSpot) : Con Tryz.prog 4 [.agg ⟨flTSpot.cells s⟩] (.bool (Fmays s)) := Tri.c_rmayS _ _ _ _ _ _ _ _ _
def Fawake : Bool := true
theorem kawake : Con Tryz.prog 5 [] (.bool Fawake) := Frag.c_awake19
def maysB (q : A3TSpot) : Bool := Fmays q.e0 && (Fmays q.e1 && Fmays q.e2)
def sideT (q : A3TSpot) : Int := sideI q.e0.P.X q.e0.P.Y q.e1.P.X q.e1.P.Y q.e2.P.X q.e2.P.Y
def hasT (q : A3TSpot) (x y : Int) : Bool := hasB q.e0.P.X q.e0.P.Y q.e1.P.X q.e1.P.Y q.e2.P.X q.e2.P.Y x y
def wt0 (q : A3TSpot) (x y : Int) : Int := sideI q.e1.P.X q.e1.P.Y q.e2.P.X q.e2.P.Y (16 * x + 8) (16 * y + 8)
def wt1 (q : A3TSpot) (x y : Int) : Int := sideI q.e2.P.X q.e2.P.Y q.e0.P.X q.e0.P.Y (16 * x + 8) (16 * y + 8)
def wt2 (q : A3TSpot) (x y : Int) : Int := sideI q.e0.P.X q.e0.P.Y q.e1.P.X q.e1.P.Y (16 * x + 8) (16 * y + 8)
def mixT (q : A3TSpot) (x y a b c : Int) : Int := mixed_ (wt0 q x y) (wt1 q x y) (wt2 q x y) a b c
def atZ (q : A3TSpot) (x y : Int) : Int := mixT q x y q.e0.Z q.e1.Z q.e2.Z
def atA (q : A3TSpot) (x y : Int) : A6I := ⟨mixT q x y q.e0.A.e0 q.e1.A.e0 q.e2.A.e0, mixT q x y q.e0.A.e1 q.e1.A.e1 q.e2.A.e1, mixT q x y q.e0.A.e2 q.e1.A.e2 q.e2.A.e2, mixT q x y q.e0.A.e3 q.e1.A.e3 q.e2.A.e3, mixT q x y q.e0.A.e4 q.e1.A.e4 q.e2.A.e4, mixT q x y q.e0.A.e5 q.e1.A.e5 q.e2.A.e5⟩
def VtAt (q : A3TSpot) (x y : Int) : Int × A6I × Bool := bif hasT q x y then (atZ q x y, atA q x y, true) else (0, ⟨0, 0, 0, 0, 0, 0⟩, false)
def FtAt (K : Nat) (t : TTri) (x y : Int) : Option (Int × A6I × Bool) := bif maysB t.S && decide (0 < sideT t.S) then some (VtAt t.S x y) else none
theorem maysB_ok {q : A3TSpot} (h : maysB q = true) : mayS q.e0.P.X q.e0.P.Y q.e0.Z q.e0.A.e0 q.e0.A.e1 q.e0.A.e2 q.e0.A.e3 q.e0.A.e4 q.e0.A.e5 ∧ mayS q.e1.P.X q.e1.P.Y q.e1.Z q.e1.A.e0 q.e1.A.e1 q.e1.A.e2 q.e1.A.e3 q.e1.A.e4 q.e1.A.e5 ∧ mayS q.e2.P.X q.e2.P.Y q.e2.Z q.e2.A.e0 q.e2.A.e1 q.e2.A.e2 q.e2.A.e3 q.e2.A.e4 q.e2.A.e5 := by
  unfold maysB at h
  simp only [Bool.and_eq_true] at h
  exact ⟨of_decide_eq_true h.1, of_decide_eq_true h.2.1, of_decide_eq_true h.2.2⟩
theorem ktAt (K : Nat) (t : TTri) (x y : Int) : ∀ r, FtAt K t x y = some r → Con Tryz.prog 16 [.agg ⟨flTTri.cells t⟩, .int .i64 x, .int .i64 y] (.tuple ⟨[.int .i64 r.1, .agg ⟨flA6I.cells r.2.1⟩, .bool r.2.2]⟩) := fun r hr => by
  unfold FtAt at hr
  cases h : (maysB t.S && decide (0 < sideT t.S)) with
  | false => rw [h] at hr; cases hr
  | true =>
    rw [h] at hr; cases hr
    rw [Bool.and_eq_true] at h
    obtain ⟨m0, m1, m2⟩ := maysB_ok h.1
    have hp : 0 < sideT t.S := of_decide_eq_true h.2
    cases hh : hasT t.S x y with
    | false =>
      have e : VtAt t.S x y = (0, ⟨0, 0, 0, 0, 0, 0⟩, false) := by unfold VtAt; rw [hh]; rfl
      rw [e]
      exact atNo m0.1 m1.1 m2.1 hp hh
    | true =>
      have e : VtAt t.S x y = (atZ t.S x y, atA t.S x y, true) := by unfold VtAt; rw [hh]; rfl
      rw [e]
      exact atYes m0.1 m1.1 m2.1 hp m0.2 m1.2 m2.2 rfl rfl rfl hh
def FrHas (K : Nat) (a b c : TPoint) (x y : Int) : Option Bool := bif okP a.X a.Y && (okP b.X b.Y && (okP c.X c.Y && (decide (fitsP x y) && decide (0 < sideI a.X a.Y b.X b.Y c.X c.Y)))) then some (hasB a.X a.Y b.X b.Y c.X c.Y x y) else none
theorem krHas (K : Nat) (a b c : TPoint) (x y : Int) : ∀ r, FrHas K a b c x y = some r → Con Tryz.prog 63 [.agg ⟨flTPoint.cells a⟩, .agg ⟨flTPoint.cells b⟩, .agg ⟨flTPoint.cells c⟩, .int .i64 x, .int .i64 y] (.bool r) := fun r hr => by
  unfold FrHas at hr
  cases h : (okP a.X a.Y && (okP b.X b.Y && (okP c.X c.Y && (decide (fitsP x y) && decide (0 < sideI a.X a.Y b.X b.Y c.X c.Y))))) with
  | false => rw [h] at hr; cases hr
  | true =>
    rw [h] at hr; cases hr
    simp only [Bool.and_eq_true] at h
    exact c_rhas h.1 h.2.1 h.2.2.1 (of_decide_eq_true h.2.2.2.1) (of_decide_eq_true h.2.2.2.2)
def FrWts (a b c p : TPoint) : A3I := ⟨sideR b.X b.Y c.X c.Y p.X p.Y, sideR c.X c.Y a.X a.Y p.X p.Y, sideR a.X a.Y b.X b.Y p.X p.Y⟩
theorem krWts (a b c p : TPoint) : Con Tryz.prog 64 [.agg ⟨flTPoint.cells a⟩, .agg ⟨flTPoint.cells b⟩, .agg ⟨flTPoint.cells c⟩, .agg ⟨flTPoint.cells p⟩] (.agg ⟨flA3I.cells (FrWts a b c p)⟩) := c_rweights _ _ _ _ _ _ _ _
def FrMix (K : Nat) (w v : A3I) : Option Int := bif decide (mayM w.e0 w.e1 w.e2 v.e0 v.e1 v.e2) then some (mixed_ w.e0 w.e1 w.e2 v.e0 v.e1 v.e2) else none
theorem krMix (K : Nat) (w v : A3I) : ∀ r, FrMix K w v = some r → Con Tryz.prog 66 [.agg ⟨flA3I.cells w⟩, .agg ⟨flA3I.cells v⟩] (.int .i64 r) := fun r hr => by
  unfold FrMix at hr
  cases h : decide (mayM w.e0 w.e1 w.e2 v.e0 v.e1 v.e2) with
  | false => rw [h] at hr; cases hr
  | true =>
    rw [h] at hr; cases hr
    exact c_rmix (of_decide_eq_true h)
def Fadd (c : TColor) (w : Int) (s : TColor) : TColor := ⟨IntKind.i64.wrap (s.R + IntKind.i64.wrap (c.R * w)), IntKind.i64.wrap (s.G + IntKind.i64.wrap (c.G * w)), IntKind.i64.wrap (s.B + IntKind.i64.wrap (c.B * w)), IntKind.i64.wrap (s.A + IntKind.i64.wrap (c.A * w))⟩
theorem kadd (c : TColor) (w : Int) (s : TColor) : ConM Tryz.prog 59 [.agg ⟨flTColor.cells c⟩, .int .i64 w, .pointer (some ⟨0, 0, none⟩)] [.cells [.int .i64 s.R, .int .i64 s.G, .int .i64 s.B, .int .i64 s.A] 0 true] (.tuple ⟨[]⟩)
    [.cells [.int .i64 (Fadd c w s).R, .int .i64 (Fadd c w s).G, .int .i64 (Fadd c w s).B, .int .i64 (Fadd c w s).A] 0 true] :=
  ConM.keep (m1 := [.cells [.int .i64 (Fadd c w s).R, .int .i64 (Fadd c w s).G, .int .i64 (Fadd c w s).B, .int .i64 (Fadd c w s).A] 0 true, .cells [.int .i64 c.R, .int .i64 c.G, .int .i64 c.B, .int .i64 c.A] 0 true]) (v := .tuple ⟨[]⟩) [0] [] Tryz.func59 (by kernel_rfl) (by kernel_rfl) (by decide) trivial (by kernel_rfl) (by kernel_rfl)
    (Q.fin mixed Tryz.func59 (by kernel_rfl) (by kernel_rfl))

end

section
open Go Go.Dt Go.Proofs
set_option linter.unusedVariables false

/-! ### 6 -/
abbrev Etri_Setup : TTri × Bool × Int → Value := fun r => .tuple ⟨[.agg ⟨[.int .i64 r.1.S.e0.P.X, .int .i64 r.1.S.e0.P.Y, .int .i64 r.1.S.e0.Z, .int .i64 r.1.S.e0.A.e0, .int .i64 r.1.S.e0.A.e1, .int .i64 r.1.S.e0.A.e2, .int .i64 r.1.S.e0.A.e3, .int .i64 r.1.S.e0.A.e4, .int .i64 r.1.S.e0.A.e5, .int .i64 r.1.S.e1.P.X, .int .i64 r.1.S.e1.P.Y, .int .i64 r.1.S.e1.Z, .int .i64 r.1.S.e1.A.e0, .int .i64 r.1.S.e1.A.e1, .int .i64 r.1.S.e1.A.e2, .int .i64 r.1.S.e1.A.e3, .int .i64 r.1.S.e1.A.e4, .int .i64 r.1.S.e1.A.e5, .int .i64 r.1.S.e2.P.X, .int .i64 r.1.S.e2.P.Y, .int .i64 r.1.S.e2.Z, .int .i64 r.1.S.e2.A.e0, .int .i64 r.1.S.e2.A.e1, .int .i64 r.1.S.e2.A.e2, .int .i64 r.1.S.e2.A.e3, .int .i64 r.1.S.e2.A.e4, .int .i64 r.1.S.e2.A.e5, .int .i64 r.1.Area, .int .i64 r.1.Box.X0, .int .i64 r.1.Box.Y0, .int .i64 r.1.Box.X1, .int .i64 r.1.Box.Y1]⟩, .bool r.2.1, .int .i64 r.2.2]⟩
def Ftri_Setup (K : Nat) (a0 : A3TSpot) (a1 : Int) : Option (TTri × Bool × Int) :=
  bif (decide (a1 < 0)) then
    some (((⟨(⟨(⟨(⟨0, 0⟩ : TPoint), 0, (⟨0, 0, 0, 0, 0, 0⟩ : A6I)⟩ : TSpot), (⟨(⟨0, 0⟩ : TPoint), 0, (⟨0, 0, 0, 0, 0, 0⟩ : A6I)⟩ : TSpot), (⟨(⟨0, 0⟩ : TPoint), 0, (⟨0, 0, 0, 0, 0, 0⟩ : A6I)⟩ : TSpot)⟩ : A3TSpot), 0, (⟨0, 0, 0, 0⟩ : TRect)⟩ : TTri), false, 9))
  else
    bif (bif false then true else decide (a1 > 2)) then
      some (((⟨(⟨(⟨(⟨0, 0⟩ : TPoint), 0, (⟨0, 0, 0, 0, 0, 0⟩ : A6I)⟩ : TSpot), (⟨(⟨0, 0⟩ : TPoint), 0, (⟨0, 0, 0, 0, 0, 0⟩ : A6I)⟩ : TSpot), (⟨(⟨0, 0⟩ : TPoint), 0, (⟨0, 0, 0, 0, 0, 0⟩ : A6I)⟩ : TSpot)⟩ : A3TSpot), 0, (⟨0, 0, 0, 0⟩ : TRect)⟩ : TTri), false, 9))
    else
      bif (!Fmays a0.e0) then
        some (((⟨(⟨(⟨(⟨0, 0⟩ : TPoint), 0, (⟨0, 0, 0, 0, 0, 0⟩ : A6I)⟩ : TSpot), (⟨(⟨0, 0⟩ : TPoint), 0, (⟨0, 0, 0, 0, 0, 0⟩ : A6I)⟩ : TSpot), (⟨(⟨0, 0⟩ : TPoint), 0, (⟨0, 0, 0, 0, 0, 0⟩ : A6I)⟩ : TSpot)⟩ : A3TSpot), 0, (⟨0, 0, 0, 0⟩ : TRect)⟩ : TTri), false, 3))
      else
        bif (!Fmays a0.e1) then
          some (((⟨(⟨(⟨(⟨0, 0⟩ : TPoint), 0, (⟨0, 0, 0, 0, 0, 0⟩ : A6I)⟩ : TSpot), (⟨(⟨0, 0⟩ : TPoint), 0, (⟨0, 0, 0, 0, 0, 0⟩ : A6I)⟩ : TSpot), (⟨(⟨0, 0⟩ : TPoint), 0, (⟨0, 0, 0, 0, 0, 0⟩ : A6I)⟩ : TSpot)⟩ : A3TSpot), 0, (⟨0, 0, 0, 0⟩ : TRect)⟩ : TTri), false, 3))
        else
          bif (!Fmays a0.e2) then
            some (((⟨(⟨(⟨(⟨0, 0⟩ : TPoint), 0, (⟨0, 0, 0, 0, 0, 0⟩ : A6I)⟩ : TSpot), (⟨(⟨0, 0⟩ : TPoint), 0, (⟨0, 0, 0, 0, 0, 0⟩ : A6I)⟩ : TSpot), (⟨(⟨0, 0⟩ : TPoint), 0, (⟨0, 0, 0, 0, 0, 0⟩ : A6I)⟩ : TSpot)⟩ : A3TSpot), 0, (⟨0, 0, 0, 0⟩ : TRect)⟩ : TTri), false, 3))
          else
            bif ((Fedge a0.e0.P a0.e1.P a0.e2.P).snd != 0) then
              some (((⟨(⟨(⟨(⟨0, 0⟩ : TPoint), 0, (⟨0, 0, 0, 0, 0, 0⟩ : A6I)⟩ : TSpot), (⟨(⟨0, 0⟩ : TPoint), 0, (⟨0, 0, 0, 0, 0, 0⟩ : A6I)⟩ : TSpot), (⟨(⟨0, 0⟩ : TPoint), 0, (⟨0, 0, 0, 0, 0, 0⟩ : A6I)⟩ : TSpot)⟩ : A3TSpot), 0, (⟨0, 0, 0, 0⟩ : TRect)⟩ : TTri), false, (Fedge a0.e0.P a0.e1.P a0.e2.P).snd))
            else
              bif (bif false then true else (Fedge a0.e0.P a0.e1.P a0.e2.P).fst == 0) then
                some (((⟨(⟨(⟨(⟨0, 0⟩ : TPoint), 0, (⟨0, 0, 0, 0, 0, 0⟩ : A6I)⟩ : TSpot), (⟨(⟨0, 0⟩ : TPoint), 0, (⟨0, 0, 0, 0, 0, 0⟩ : A6I)⟩ : TSpot), (⟨(⟨0, 0⟩ : TPoint), 0, (⟨0, 0, 0, 0, 0, 0⟩ : A6I)⟩ : TSpot)⟩ : A3TSpot), 0, (⟨0, 0, 0, 0⟩ : TRect)⟩ : TTri), false, (Fedge a0.e0.P a0.e1.P a0.e2.P).snd))
              else
                bif (decide ((Fedge a0.e0.P a0.e1.P a0.e2.P).fst < 0)) then
                  bif (bif false then true else bif true then a1 == 1 else false) then
                    some (((⟨(⟨(⟨(⟨0, 0⟩ : TPoint), 0, (⟨0, 0, 0, 0, 0, 0⟩ : A6I)⟩ : TSpot), (⟨(⟨0, 0⟩ : TPoint), 0, (⟨0, 0, 0, 0, 0, 0⟩ : A6I)⟩ : TSpot), (⟨(⟨0, 0⟩ : TPoint), 0, (⟨0, 0, 0, 0, 0, 0⟩ : A6I)⟩ : TSpot)⟩ : A3TSpot), 0, (⟨0, 0, 0, 0⟩ : TRect)⟩ : TTri), false, (Fedge a0.e0.P a0.e1.P a0.e2.P).snd))
                  else
                    bif (decide ((Fedge a0.e0.P a0.e1.P a0.e2.P).fst > 0)) then
                      bif (bif false then true else bif true then a1 == 2 else false) then
                        some (((⟨(⟨(⟨(⟨0, 0⟩ : TPoint), 0, (⟨0, 0, 0, 0, 0, 0⟩ : A6I)⟩ : TSpot), (⟨(⟨0, 0⟩ : TPoint), 0, (⟨0, 0, 0, 0, 0, 0⟩ : A6I)⟩ : TSpot), (⟨(⟨0, 0⟩ : TPoint), 0, (⟨0, 0, 0, 0, 0, 0⟩ : A6I)⟩ : TSpot)⟩ : A3TSpot), 0, (⟨0, 0, 0, 0⟩ : TRect)⟩ : TTri), false, (Fedge a0.e0.P a0.e1.P a0.e2.P).snd))
                      else
                        (Fbox K ((⟨a0.e0, a0.e2, a0.e1⟩ : A3TSpot))).bind fun u12 =>
                        some (((⟨(⟨a0.e0, a0.e2, a0.e1⟩ : A3TSpot), IntKind.i64.wrap (0 - (Fedge a0.e0.P a0.e1.P a0.e2.P).fst), u12⟩ : TTri), true, 0))
                    else
                      (Fbox K ((⟨a0.e0, a0.e2, a0.e1⟩ : A3TSpot))).bind fun u13 =>
                      some (((⟨(⟨a0.e0, a0.e2, a0.e1⟩ : A3TSpot), IntKind.i64.wrap (0 - (Fedge a0.e0.P a0.e1.P a0.e2.P).fst), u13⟩ : TTri), true, 0))
                else
                  bif (decide ((Fedge a0.e0.P a0.e1.P a0.e2.P).fst > 0)) then
                    bif (bif bif false then true else false then true else bif true then a1 == 2 else false) then
                      some (((⟨(⟨(⟨(⟨0, 0⟩ : TPoint), 0, (⟨0, 0, 0, 0, 0, 0⟩ : A6I)⟩ : TSpot), (⟨(⟨0, 0⟩ : TPoint), 0, (⟨0, 0, 0, 0, 0, 0⟩ : A6I)⟩ : TSpot), (⟨(⟨0, 0⟩ : TPoint), 0, (⟨0, 0, 0, 0, 0, 0⟩ : A6I)⟩ : TSpot)⟩ : A3TSpot), 0, (⟨0, 0, 0, 0⟩ : TRect)⟩ : TTri), false, (Fedge a0.e0.P a0.e1.P a0.e2.P).snd))
                    else
                      (Fbox K a0).bind fun u16 =>
                      some (((⟨a0, (Fedge a0.e0.P a0.e1.P a0.e2.P).fst, u16⟩ : TTri), true, 0))
                  else
                    (Fbox K a0).bind fun u17 =>
                    some (((⟨a0, (Fedge a0.e0.P a0.e1.P a0.e2.P).fst, u17⟩ : TTri), true, 0))
theorem ctri_Setup (K : Nat) (a0 : A3TSpot) (a1 : Int) : ∀ r, Ftri_Setup K a0 a1 = some r → Con Tryz.prog 6 [.agg ⟨[.int .i64 a0.e0.P.X, .int .i64 a0.e0.P.Y, .int .i64 a0.e0.Z, .int .i64 a0.e0.A.e0, .int .i64 a0.e0.A.e1, .int .i64 a0.e0.A.e2, .int .i64 a0.e0.A.e3, .int .i64 a0.e0.A.e4, .int .i64 a0.e0.A.e5, .int .i64 a0.e1.P.X, .int .i64 a0.e1.P.Y, .int .i64 a0.e1.Z, .int .i64 a0.e1.A.e0, .int .i64 a0.e1.A.e1, .int .i64 a0.e1.A.e2, .int .i64 a0.e1.A.e3, .int .i64 a0.e1.A.e4, .int .i64 a0.e1.A.e5, .int .i64 a0.e2.P.X, .int .i64 a0.e2.P.Y, .int .i64 a0.e2.Z, .int .i64 a0.e2.A.e0, .int .i64 a0.e2.A.e1, .int .i64 a0.e2.A.e2, .int .i64 a0.e2.A.e3, .int .i64 a0.e2.A.e4, .int .i64 a0.e2.A.e5]⟩, .int .i64 a1] (Etri_Setup r) := by
  refine Con.lift Tryz.func6 (by kernel_rfl) rfl (fun _ => rfl) ?_
  unfold Ftri_Setup
  exact
    L.gu mixed 13 _ (by kernel_rfl)
      (fun h1 =>
      L.ret _ mixed Tryz.func6 _ (by kernel_rfl) rfl)
      (fun h1 =>
      L.br mixed 4 _ (by kernel_rfl)
        (fun h2 =>
        L.ret _ mixed Tryz.func6 _ (by kernel_rfl) rfl)
        (fun h2 =>
        L.call mixed (kmays a0.e0) (by kernel_rfl) <|
        L.br mixed 2 _ (by kernel_rfl)
          (fun h3 =>
          L.ret _ mixed Tryz.func6 _ (by kernel_rfl) rfl)
          (fun h3 =>
          L.call mixed (kmays a0.e1) (by kernel_rfl) <|
          L.br mixed 2 _ (by kernel_rfl)
            (fun h4 =>
            L.ret _ mixed Tryz.func6 _ (by kernel_rfl) rfl)
            (fun h4 =>
            L.call mixed (kmays a0.e2) (by kernel_rfl) <|
            L.br mixed 2 _ (by kernel_rfl)
              (fun h5 =>
              L.ret _ mixed Tryz.func6 _ (by kernel_rfl) rfl)
              (fun h5 =>
              L.call mixed (kedge a0.e0.P a0.e1.P a0.e2.P) (by kernel_rfl) <|
              L.gu mixed 12 _ (by kernel_rfl)
                (fun h6 =>
                L.ret _ mixed Tryz.func6 _ (by kernel_rfl) rfl)
                (fun h6 =>
                L.gu mixed 4 _ (by kernel_rfl)
                  (fun h7 =>
                  L.ret _ mixed Tryz.func6 _ (by kernel_rfl) rfl)
                  (fun h7 =>
                  L.gu mixed 3 _ (by kernel_rfl)
                    (fun h8 =>
                    L.gu mixed 5 _ (by kernel_rfl)
                      (fun h9 =>
                      L.ret _ mixed Tryz.func6 _ (by kernel_rfl) rfl)
                      (fun h9 =>
                      L.gu mixed 3 _ (by kernel_rfl)
                        (fun h10 =>
                        L.br mixed 5 _ (by kernel_rfl)
                          (fun h11 =>
                          L.ret _ mixed Tryz.func6 _ (by kernel_rfl) rfl)
                          (fun h11 =>
                          L.brIs mixed 7 _ true h8 (by kernel_rfl) <|
                          L.callO mixed (fun u12 : TRect => .agg ⟨[.int .i64 u12.X0, .int .i64 u12.Y0, .int .i64 u12.X1, .int .i64 u12.Y1]⟩) (kbox K ((⟨a0.e0, a0.e2, a0.e1⟩ : A3TSpot))) (by kernel_rfl) (fun u12 hu12 =>
                          L.ret _ mixed Tryz.func6 _ (by kernel_rfl) rfl)))
                        (fun h10 =>
                        L.brIs mixed 13 _ true h8 (by kernel_rfl) <|
                        L.callO mixed (fun u13 : TRect => .agg ⟨[.int .i64 u13.X0, .int .i64 u13.Y0, .int .i64 u13.X1, .int .i64 u13.Y1]⟩) (kbox K ((⟨a0.e0, a0.e2, a0.e1⟩ : A3TSpot))) (by kernel_rfl) (fun u13 hu13 =>
                        L.ret _ mixed Tryz.func6 _ (by kernel_rfl) rfl))))
                    (fun h8 =>
                    L.gu mixed 8 _ (by kernel_rfl)
                      (fun h14 =>
                      L.br mixed 5 _ (by kernel_rfl)
                        (fun h15 =>
                        L.ret _ mixed Tryz.func6 _ (by kernel_rfl) rfl)
                        (fun h15 =>
                        L.brIs mixed 7 _ false h8 (by kernel_rfl) <|
                        L.callO mixed (fun u16 : TRect => .agg ⟨[.int .i64 u16.X0, .int .i64 u16.Y0, .int .i64 u16.X1, .int .i64 u16.Y1]⟩) (kbox K a0) (by kernel_rfl) (fun u16 hu16 =>
                        L.ret _ mixed Tryz.func6 _ (by kernel_rfl) rfl)))
                      (fun h14 =>
                      L.brIs mixed 13 _ false h8 (by kernel_rfl) <|
                      L.callO mixed (fun u17 : TRect => .agg ⟨[.int .i64 u17.X0, .int .i64 u17.Y0, .int .i64 u17.X1, .int .i64 u17.Y1]⟩) (kbox K a0) (by kernel_rfl) (fun u17 hu17 =>
                      L.ret _ mixed Tryz.func6 _ (by kernel_rfl) rfl))))))))))
/-! ### 54 -/
abbrev Etint_Of_1 : Int → Value := fun r => .int .i64 r
def Ftint_Of_1 (K : Nat) (a0 : Int) (a1 : Int) : Option Int :=
  some (Fsat a0 0 255)
theorem ctint_Of_1 (K : Nat) (a0 : Int) (a1 : Int) : ∀ r, Ftint_Of_1 K a0 a1 = some r → Con Tryz.prog 54 [.int .i64 a0, .int .i64 a1] (Etint_Of_1 r) := by
  refine Con.lift Tryz.func54 (by kernel_rfl) rfl (fun _ => rfl) ?_
  unfold Ftint_Of_1
  exact
    L.call mixed (ksat a0 0 255) (by kernel_rfl) <|
    L.ret _ mixed Tryz.func54 _ (by kernel_rfl) rfl
/-! ### 53 -/
abbrev Etint_each_tint_Of_1 : TColor → Value := fun r => .agg ⟨[.int .i64 r.R, .int .i64 r.G, .int .i64 r.B, .int .i64 r.A]⟩
def Ftint_each_tint_Of_1 (K : Nat) (a0 : TColor) (a1 : TColor) (a2 : Unit) : Option TColor :=
  (Ftint_Of_1 K a0.R a1.R).bind fun u1 =>
  (Ftint_Of_1 K a0.G a1.G).bind fun u2 =>
  (Ftint_Of_1 K a0.B a1.B).bind fun u3 =>
  (Ftint_Of_1 K a0.A a1.A).bind fun u4 =>
  some ((⟨u1, u2, u3, u4⟩ : TColor))
theorem ctint_each_tint_Of_1 (K : Nat) (a0 : TColor) (a1 : TColor) (a2 : Unit) : ∀ r, Ftint_each_tint_Of_1 K a0 a1 a2 = some r → Con Tryz.prog 53 [.agg ⟨[.int .i64 a0.R, .int .i64 a0.G, .int .i64 a0.B, .int .i64 a0.A]⟩, .agg ⟨[.int .i64 a1.R, .int .i64 a1.G, .int .i64 a1.B, .int .i64 a1.A]⟩, .func (.func 54) ⟨[]⟩ ⟨[]⟩] (Etint_each_tint_Of_1 r) := by
  refine Con.lift Tryz.func53 (by kernel_rfl) rfl (fun _ => rfl) ?_
  unfold Ftint_each_tint_Of_1
  exact
    L.callO mixed (fun u1 : Int => .int .i64 u1) (ctint_Of_1 K a0.R a1.R) (by kernel_rfl) (fun u1 hu1 =>
    L.callO mixed (fun u2 : Int => .int .i64 u2) (ctint_Of_1 K a0.G a1.G) (by kernel_rfl) (fun u2 hu2 =>
    L.callO mixed (fun u3 : Int => .int .i64 u3) (ctint_Of_1 K a0.B a1.B) (by kernel_rfl) (fun u3 hu3 =>
    L.callO mixed (fun u4 : Int => .int .i64 u4) (ctint_Of_1 K a0.A a1.A) (by kernel_rfl) (fun u4 hu4 =>
    L.ret _ mixed Tryz.func53 _ (by kernel_rfl) rfl))))
/-! ### 17 -/
abbrev Etint_Of : TColor → Value := fun r => .agg ⟨[.int .i64 r.R, .int .i64 r.G, .int .i64 r.B, .int .i64 r.A]⟩
def Ftint_Of (K : Nat) (a0 : A6I) : Option TColor :=
  (Ftint_each_tint_Of_1 K ((⟨a0.e0, a0.e1, a0.e2, a0.e3⟩ : TColor)) ((⟨a0.e0, a0.e1, a0.e2, a0.e3⟩ : TColor)) ()).bind fun u1 =>
  some u1
theorem ctint_Of (K : Nat) (a0 : A6I) : ∀ r, Ftint_Of K a0 = some r → Con Tryz.prog 17 [.agg ⟨[.int .i64 a0.e0, .int .i64 a0.e1, .int .i64 a0.e2, .int .i64 a0.e3, .int .i64 a0.e4, .int .i64 a0.e5]⟩] (Etint_Of r) := by
  refine Con.lift Tryz.func17 (by kernel_rfl) rfl (fun _ => rfl) ?_
  unfold Ftint_Of
  exact
    L.callO mixed (fun u1 : TColor => .agg ⟨[.int .i64 u1.R, .int .i64 u1.G, .int .i64 u1.B, .int .i64 u1.A]⟩) (ctint_each_tint_Of_1 K ((⟨a0.e0, a0.e1, a0.e2, a0.e3⟩ : TColor)) ((⟨a0.e0, a0.e1, a0.e2, a0.e3⟩ : TColor)) ()) (by kernel_rfl) (fun u1 hu1 =>
    L.ret _ mixed Tryz.func17 _ (by kernel_rfl) rfl)
/-! ### 61 -/
abbrev Etint_Times_1 : Int → Value := fun r => .int .i64 r
def Ftint_Times_1 (K : Nat) (a0 : Int) (a1 : Int) : Option Int :=
  some (IntKind.i64.wrap ((IntKind.i64.wrap (IntKind.i64.wrap (a0 * a1) + 127)).tdiv 255))
theorem ctint_Times_1 (K : Nat) (a0 : Int) (a1 : Int) : ∀ r, Ftint_Times_1 K a0 a1 = some r → Con Tryz.prog 61 [.int .i64 a0, .int .i64 a1] (Etint_Times_1 r) := by
  refine Con.lift Tryz.func61 (by kernel_rfl) rfl (fun _ => rfl) ?_
  unfold Ftint_Times_1
  exact
    L.ret _ mixed Tryz.func61 _ (by kernel_rfl) rfl
/-! ### 53 -/
abbrev Etint_each_tint_Times_1 : TColor → Value := fun r => .agg ⟨[.int .i64 r.R, .int .i64 r.G, .int .i64 r.B, .int .i64 r.A]⟩
def Ftint_each_tint_Times_1 (K : Nat) (a0 : TColor) (a1 : TColor) (a2 : Unit) : Option TColor :=
  (Ftint_Times_1 K a0.R a1.R).bind fun u1 =>
  (Ftint_Times_1 K a0.G a1.G).bind fun u2 =>
  (Ftint_Times_1 K a0.B a1.B).bind fun u3 =>
  (Ftint_Times_1 K a0.A a1.A).bind fun u4 =>
  some ((⟨u1, u2, u3, u4⟩ : TColor))
theorem ctint_each_tint_Times_1 (K : Nat) (a0 : TColor) (a1 : TColor) (a2 : Unit) : ∀ r, Ftint_each_tint_Times_1 K a0 a1 a2 = some r → Con Tryz.prog 53 [.agg ⟨[.int .i64 a0.R, .int .i64 a0.G, .int .i64 a0.B, .int .i64 a0.A]⟩, .agg ⟨[.int .i64 a1.R, .int .i64 a1.G, .int .i64 a1.B, .int .i64 a1.A]⟩, .func (.func 61) ⟨[]⟩ ⟨[]⟩] (Etint_each_tint_Times_1 r) := by
  refine Con.lift Tryz.func53 (by kernel_rfl) rfl (fun _ => rfl) ?_
  unfold Ftint_each_tint_Times_1
  exact
    L.callO mixed (fun u1 : Int => .int .i64 u1) (ctint_Times_1 K a0.R a1.R) (by kernel_rfl) (fun u1 hu1 =>
    L.callO mixed (fun u2 : Int => .int .i64 u2) (ctint_Times_1 K a0.G a1.G) (by kernel_rfl) (fun u2 hu2 =>
    L.callO mixed (fun u3 : Int => .int .i64 u3) (ctint_Times_1 K a0.B a1.B) (by kernel_rfl) (fun u3 hu3 =>
    L.callO mixed (fun u4 : Int => .int .i64 u4) (ctint_Times_1 K a0.A a1.A) (by kernel_rfl) (fun u4 hu4 =>
    L.ret _ mixed Tryz.func53 _ (by kernel_rfl) rfl))))
/-! ### 20 -/
abbrev Etint_Times : TColor × Int → Value := fun r => .tuple ⟨[.agg ⟨[.int .i64 r.1.R, .int .i64 r.1.G, .int .i64 r.1.B, .int .i64 r.1.A]⟩, .int .i64 r.2]⟩
def Ftint_Times (K : Nat) (a0 : TColor) (a1 : TColor) : Option (TColor × Int) :=
  bif (!Ftint a0) then
    some (((⟨0, 0, 0, 0⟩ : TColor), 3))
  else
    bif (bif false then true else !Ftint a1) then
      some (((⟨0, 0, 0, 0⟩ : TColor), 3))
    else
      (Ftint_each_tint_Times_1 K a0 a1 ()).bind fun u3 =>
      some ((u3, 0))
theorem ctint_Times (K : Nat) (a0 : TColor) (a1 : TColor) : ∀ r, Ftint_Times K a0 a1 = some r → Con Tryz.prog 20 [.agg ⟨[.int .i64 a0.R, .int .i64 a0.G, .int .i64 a0.B, .int .i64 a0.A]⟩, .agg ⟨[.int .i64 a1.R, .int .i64 a1.G, .int .i64 a1.B, .int .i64 a1.A]⟩] (Etint_Times r) := by
  refine Con.lift Tryz.func20 (by kernel_rfl) rfl (fun _ => rfl) ?_
  unfold Ftint_Times
  exact
    L.call mixed (ktint a0) (by kernel_rfl) <|
    L.gu mixed 2 _ (by kernel_rfl)
      (fun h1 =>
      L.ret _ mixed Tryz.func20 _ (by kernel_rfl) rfl)
      (fun h1 =>
      L.call mixed (ktint a1) (by kernel_rfl) <|
      L.br mixed 3 _ (by kernel_rfl)
        (fun h2 =>
        L.ret _ mixed Tryz.func20 _ (by kernel_rfl) rfl)
        (fun h2 =>
        L.callO mixed (fun u3 : TColor => .agg ⟨[.int .i64 u3.R, .int .i64 u3.G, .int .i64 u3.B, .int .i64 u3.A]⟩) (ctint_each_tint_Times_1 K a0 a1 ()) (by kernel_rfl) (fun u3 hu3 =>
        L.ret _ mixed Tryz.func20 _ (by kernel_rfl) rfl)))
/-! ### 114 -/
abbrev Efix_Rem : Int × Int → Value := fun r => .tuple ⟨[.int .i64 r.1, .int .i64 r.2]⟩
def Ffix_Rem (K : Nat) (a0 : Int) (a1 : Int) : Option (Int × Int) :=
  bif (decide (a1 < 1)) then
    some ((0, 2))
  else
    bif a1 != 0 then
      bif (decide (a0.tmod a1 < 0)) then
        some ((IntKind.i64.wrap (a0.tmod a1 + a1), 0))
      else
        some ((a0.tmod a1, 0))
    else none
theorem cfix_Rem (K : Nat) (a0 : Int) (a1 : Int) : ∀ r, Ffix_Rem K a0 a1 = some r → Con Tryz.prog 114 [.int .i64 a0, .int .i64 a1] (Efix_Rem r) := by
  refine Con.lift Tryz.func114 (by kernel_rfl) rfl (fun _ => rfl) ?_
  unfold Ffix_Rem
  exact
    L.br mixed 11 _ (by kernel_rfl)
      (fun h1 =>
      L.ret _ mixed Tryz.func114 _ (by kernel_rfl) rfl)
      (fun h1 =>
      L.div mixed 5 true IntKind.i64 a0 _ (by kernel_rfl) (fun hd3 =>
      L.br mixed 8 _ (by kernel_rfl)
        (fun h2 =>
        L.ret _ mixed Tryz.func114 _ (by kernel_rfl) rfl)
        (fun h2 =>
        L.ret _ mixed Tryz.func114 _ (by kernel_rfl) rfl)))
/-! ### 56 -/
abbrev Etexel_within : Bool → Value := fun r => .bool r
def Ftexel_within (K : Nat) (a0 : Int) (a1 : Int) : Option Bool :=
  bif (decide (a0 ≥ IntKind.i64.wrap (0 - a1))) then
    some (bif true then decide (a0 ≤ a1) else false)
  else
    some false
theorem ctexel_within (K : Nat) (a0 : Int) (a1 : Int) : ∀ r, Ftexel_within K a0 a1 = some r → Con Tryz.prog 56 [.int .i64 a0, .int .i64 a1] (Etexel_within r) := by
  refine Con.lift Tryz.func56 (by kernel_rfl) rfl (fun _ => rfl) ?_
  unfold Ftexel_within
  exact
    L.gu mixed 11 _ (by kernel_rfl)
      (fun h1 =>
      L.ret _ mixed Tryz.func56 _ (by kernel_rfl) rfl)
      (fun h1 =>
      L.ret _ mixed Tryz.func56 _ (by kernel_rfl) rfl)
/-! ### 92 -/
abbrev Etint_Unpack : TColor × Int → Value := fun r => .tuple ⟨[.agg ⟨[.int .i64 r.1.R, .int .i64 r.1.G, .int .i64 r.1.B, .int .i64 r.1.A]⟩, .int .i64 r.2]⟩
def Ftint_Unpack (K : Nat) (a0 : Int) : Option (TColor × Int) :=
  bif (decide (a0 < 0)) then
    some (((⟨0, 0, 0, 0⟩ : TColor), 3))
  else
    bif (bif false then true else decide (a0 ≥ 4294967296)) then
      some (((⟨0, 0, 0, 0⟩ : TColor), 3))
    else
      some (((⟨a0.fdiv 16777216, IntKind.i64.wrap (↑(BitVec.ofInt 64 (a0.fdiv 65536) &&& BitVec.ofInt 64 255).toNat : Int), IntKind.i64.wrap (↑(BitVec.ofInt 64 (a0.fdiv 256) &&& BitVec.ofInt 64 255).toNat : Int), IntKind.i64.wrap (↑(BitVec.ofInt 64 a0 &&& BitVec.ofInt 64 255).toNat : Int)⟩ : TColor), 0))
theorem ctint_Unpack (K : Nat) (a0 : Int) : ∀ r, Ftint_Unpack K a0 = some r → Con Tryz.prog 92 [.int .i64 a0] (Etint_Unpack r) := by
  refine Con.lift Tryz.func92 (by kernel_rfl) rfl (fun _ => rfl) ?_
  unfold Ftint_Unpack
  exact
    L.gu mixed 11 _ (by kernel_rfl)
      (fun h1 =>
      L.ret _ mixed Tryz.func92 _ (by kernel_rfl) rfl)
      (fun h1 =>
      L.br mixed 4 _ (by kernel_rfl)
        (fun h2 =>
        L.ret _ mixed Tryz.func92 _ (by kernel_rfl) rfl)
        (fun h2 =>
        L.ret _ mixed Tryz.func92 _ (by kernel_rfl) rfl))
/-! ### 90 -/
abbrev Etexel_Check : Int → Value := fun r => .int .i64 r
def Ftexel_Check_6 (a0 : TTex) : Nat → Int → Option Int
  | 0, _ => none
  | K + 1, p39 =>
    bif (decide (p39 < (↑a0.L.length : Int))) then
      bif inR p39 a0.L.length then
        (Ftint_Unpack K (getR a0.L p39.toNat)).bind fun u8 =>
        bif (u8.snd != 0) then
          some u8.snd
        else
          Ftexel_Check_6 a0 K (IntKind.i64.wrap (p39 + 1))
      else none
    else
      some 0
def Ftexel_Check (K : Nat) (a0 : TTex) : Option Int :=
  bif (decide (a0.W < 1)) then
    some 3
  else
    bif (bif false then true else decide (a0.W > 64)) then
      some 3
    else
      bif (bif false then true else decide (a0.H < 1)) then
        some 3
      else
        bif (bif false then true else decide (a0.H > 64)) then
          some 3
        else
          bif ((↑a0.L.length : Int) != IntKind.i64.wrap (a0.W * a0.H)) then
            some 6
          else
            Ftexel_Check_6 a0 K 0
def Htexel_Check_6 (fn : Func) (a0 : TTex) (p39 : Int) : VS := headS fn 6 [(37, (lst a0.L)), (38, (Value.int IntKind.i64 ((↑a0.L.length : Int)))), (39, .int .i64 p39)] []
theorem ltexel_Check (a0 : TTex) : ∀ K : Nat, (∀ (p39 : Int), Lifts Tryz.prog 90 0 Etexel_Check (Htexel_Check_6 Tryz.f90 a0 p39) (Ftexel_Check_6 a0 K p39)) := by
  intro K
  induction K with
  | zero =>
    exact fun p39 => (by rw [Ftexel_Check_6]; exact L.no)
  | succ K ih =>
    have IH6 := ih
    refine fun p39 => ?_
    · rw [Ftexel_Check_6]
      exact
        L.br mixed 5 _ (by kernel_rfl)
          (fun h6 =>
          L.idx mixed 5 _ (rows a0.L) 1 IntKind.i64 _ (by kernel_rfl) (fun h7a h7b =>
          L.ld mixed 0 3 (rows a0.L) (p39.toNat * 1 + 0) (.int .i64 (getR a0.L p39.toNat)) (by kernel_rfl) (load1_rows (i := p39.toNat) (d := 0) rfl (toNat_lt h7a h7b) (by kernel_rfl) (Nat.le_of_ble_eq_true (by kernel_rfl)) (by kernel_rfl)) <|
          L.callO mixed (fun u8 : TColor × Int => .tuple ⟨[.agg ⟨[.int .i64 u8.1.R, .int .i64 u8.1.G, .int .i64 u8.1.B, .int .i64 u8.1.A]⟩, .int .i64 u8.2]⟩) (ctint_Unpack K (getR a0.L p39.toNat)) (by kernel_rfl) (fun u8 hu8 =>
          L.br mixed 12 _ (by kernel_rfl)
            (fun h9 =>
            L.ret _ mixed Tryz.func90 _ (by kernel_rfl) rfl)
            (fun h9 =>
            L.jumpG mixed 7 [37, 38, 39] [] [] (by kernel_rfl) (by kernel_rfl) (by kernel_rfl) trivial (by kernel_rfl) (by kernel_rfl) (IH6 (IntKind.i64.wrap (p39 + 1)))))))
          (fun h6 =>
          L.ret _ mixed Tryz.func90 _ (by kernel_rfl) rfl)
theorem ctexel_Check (K : Nat) (a0 : TTex) : ∀ r, Ftexel_Check K a0 = some r → Con Tryz.prog 90 [.agg ⟨[.int .i64 a0.W, .int .i64 a0.H, lst a0.L]⟩] (Etexel_Check r) := by
  have IH6 := ltexel_Check a0 K
  refine Con.lift Tryz.func90 (by kernel_rfl) rfl (fun _ => rfl) ?_
  unfold Ftexel_Check
  exact
    L.gu mixed 13 _ (by kernel_rfl)
      (fun h1 =>
      L.ret _ mixed Tryz.func90 _ (by kernel_rfl) rfl)
      (fun h1 =>
      L.gu mixed 5 _ (by kernel_rfl)
        (fun h2 =>
        L.ret _ mixed Tryz.func90 _ (by kernel_rfl) rfl)
        (fun h2 =>
        L.gu mixed 5 _ (by kernel_rfl)
          (fun h3 =>
          L.ret _ mixed Tryz.func90 _ (by kernel_rfl) rfl)
          (fun h3 =>
          L.br mixed 6 _ (by kernel_rfl)
            (fun h4 =>
            L.ret _ mixed Tryz.func90 _ (by kernel_rfl) rfl)
            (fun h4 =>
            L.br mixed 13 _ (by kernel_rfl)
              (fun h5 =>
              L.ret _ mixed Tryz.func90 _ (by kernel_rfl) rfl)
              (fun h5 =>
              L.jumpG mixed 12 [37, 38, 39] [] [] (by kernel_rfl) (by kernel_rfl) (by kernel_rfl) trivial (by kernel_rfl) (by kernel_rfl) (IH6 0))))))
/-! ### 55 -/
abbrev Etexel_check : Int → Value := fun r => .int .i64 r
def Ftexel_check (K : Nat) (a0 : TTex) (a1 : Int) : Option Int :=
  (Ftexel_Check K a0).bind fun u1 =>
  bif (u1 != 0) then
    some u1
  else
    bif (decide (a1 < 0)) then
      some 9
    else
      bif (bif false then true else decide (a1 > 2)) then
        some 9
      else
        some 0
theorem ctexel_check (K : Nat) (a0 : TTex) (a1 : Int) : ∀ r, Ftexel_check K a0 a1 = some r → Con Tryz.prog 55 [.agg ⟨[.int .i64 a0.W, .int .i64 a0.H, lst a0.L]⟩, .int .i64 a1] (Etexel_check r) := by
  refine Con.lift Tryz.func55 (by kernel_rfl) rfl (fun _ => rfl) ?_
  unfold Ftexel_check
  exact
    L.callO mixed (fun u1 : Int => .int .i64 u1) (ctexel_Check K a0) (by kernel_rfl) (fun u1 hu1 =>
    L.br mixed 7 _ (by kernel_rfl)
      (fun h2 =>
      L.ret _ mixed Tryz.func55 _ (by kernel_rfl) rfl)
      (fun h2 =>
      L.gu mixed 7 _ (by kernel_rfl)
        (fun h3 =>
        L.ret _ mixed Tryz.func55 _ (by kernel_rfl) rfl)
        (fun h3 =>
        L.br mixed 4 _ (by kernel_rfl)
          (fun h4 =>
          L.ret _ mixed Tryz.func55 _ (by kernel_rfl) rfl)
          (fun h4 =>
          L.ret _ mixed Tryz.func55 _ (by kernel_rfl) rfl))))
/-! ### 91 -/
abbrev Etexel_Wrap : Int × Int → Value := fun r => .tuple ⟨[.int .i64 r.1, .int .i64 r.2]⟩
def Ftexel_Wrap (K : Nat) (a0 : Int) (a1 : Int) (a2 : Int) : Option (Int × Int) :=
  bif (decide (a0 < 0)) then
    some ((0, 9))
  else
    bif (bif false then true else decide (a0 > 2)) then
      some ((0, 9))
    else
      bif (decide (a2 < 1)) then
        some ((0, 3))
      else
        bif (bif false then true else decide (a2 > 64)) then
          some ((0, 3))
        else
          (Ftexel_within K a1 1048576).bind fun u5 =>
          bif (bif false then true else !u5) then
            some ((0, 3))
          else
            bif (a0 == 1) then
              (Ffix_Rem K a1 a2).bind fun u8 =>
              some ((u8.fst, u8.snd))
            else
              bif (a0 == 2) then
                (Ffix_Rem K a1 (IntKind.i64.wrap (2 * a2))).bind fun u10 =>
                some ((if IntKind.i64.wrap (IntKind.i64.wrap (IntKind.i64.wrap (2 * a2) - 1) - u10.fst) < u10.fst then IntKind.i64.wrap (IntKind.i64.wrap (IntKind.i64.wrap (2 * a2) - 1) - u10.fst) else u10.fst, u10.snd))
              else
                some ((Fsat a1 0 (IntKind.i64.wrap (a2 - 1)), 0))
theorem ctexel_Wrap (K : Nat) (a0 : Int) (a1 : Int) (a2 : Int) : ∀ r, Ftexel_Wrap K a0 a1 a2 = some r → Con Tryz.prog 91 [.int .i64 a0, .int .i64 a1, .int .i64 a2] (Etexel_Wrap r) := by
  refine Con.lift Tryz.func91 (by kernel_rfl) rfl (fun _ => rfl) ?_
  unfold Ftexel_Wrap
  exact
    L.gu mixed 12 _ (by kernel_rfl)
      (fun h1 =>
      L.ret _ mixed Tryz.func91 _ (by kernel_rfl) rfl)
      (fun h1 =>
      L.br mixed 5 _ (by kernel_rfl)
        (fun h2 =>
        L.ret _ mixed Tryz.func91 _ (by kernel_rfl) rfl)
        (fun h2 =>
        L.gu mixed 5 _ (by kernel_rfl)
          (fun h3 =>
          L.ret _ mixed Tryz.func91 _ (by kernel_rfl) rfl)
          (fun h3 =>
          L.gu mixed 4 _ (by kernel_rfl)
            (fun h4 =>
            L.ret _ mixed Tryz.func91 _ (by kernel_rfl) rfl)
            (fun h4 =>
            L.callO mixed (fun u5 : Bool => .bool u5) (ctexel_within K a1 1048576) (by kernel_rfl) (fun u5 hu5 =>
            L.br mixed 4 _ (by kernel_rfl)
              (fun h6 =>
              L.ret _ mixed Tryz.func91 _ (by kernel_rfl) rfl)
              (fun h6 =>
              L.br mixed 13 _ (by kernel_rfl)
                (fun h7 =>
                L.callO mixed (fun u8 : Int × Int => .tuple ⟨[.int .i64 u8.1, .int .i64 u8.2]⟩) (cfix_Rem K a1 a2) (by kernel_rfl) (fun u8 hu8 =>
                L.ret _ mixed Tryz.func91 _ (by kernel_rfl) rfl))
                (fun h7 =>
                L.br mixed 5 _ (by kernel_rfl)
                  (fun h9 =>
                  L.callO mixed (fun u10 : Int × Int => .tuple ⟨[.int .i64 u10.1, .int .i64 u10.2]⟩) (cfix_Rem K a1 (IntKind.i64.wrap (2 * a2))) (by kernel_rfl) (fun u10 hu10 =>
                  L.ret _ mixed Tryz.func91 _ (by kernel_rfl) rfl))
                  (fun h9 =>
                  L.call mixed (ksat a1 0 (IntKind.i64.wrap (a2 - 1))) (by kernel_rfl) <|
                  L.ret _ mixed Tryz.func91 _ (by kernel_rfl) rfl))))))))
/-! ### 58 -/
abbrev Etexel_texel : TColor → Value := fun r => .agg ⟨[.int .i64 r.R, .int .i64 r.G, .int .i64 r.B, .int .i64 r.A]⟩
def Ftexel_texel (K : Nat) (a0 : TTex) (a1 : Int) (a2 : Int) (a3 : Int) : Option TColor :=
  (Ftexel_Wrap K a3 a1 a0.W).bind fun u1 =>
  (Ftexel_Wrap K a3 a2 a0.H).bind fun u2 =>
  bif inR (IntKind.i64.wrap (IntKind.i64.wrap (u2.fst * a0.W) + u1.fst)) a0.L.length then
    (Ftint_Unpack K (getR a0.L (IntKind.i64.wrap (IntKind.i64.wrap (u2.fst * a0.W) + u1.fst)).toNat)).bind fun u4 =>
    some u4.fst
  else none
theorem ctexel_texel (K : Nat) (a0 : TTex) (a1 : Int) (a2 : Int) (a3 : Int) : ∀ r, Ftexel_texel K a0 a1 a2 a3 = some r → Con Tryz.prog 58 [.agg ⟨[.int .i64 a0.W, .int .i64 a0.H, lst a0.L]⟩, .int .i64 a1, .int .i64 a2, .int .i64 a3] (Etexel_texel r) := by
  refine Con.lift Tryz.func58 (by kernel_rfl) rfl (fun _ => rfl) ?_
  unfold Ftexel_texel
  exact
    L.callO mixed (fun u1 : Int × Int => .tuple ⟨[.int .i64 u1.1, .int .i64 u1.2]⟩) (ctexel_Wrap K a3 a1 a0.W) (by kernel_rfl) (fun u1 hu1 =>
    L.callO mixed (fun u2 : Int × Int => .tuple ⟨[.int .i64 u2.1, .int .i64 u2.2]⟩) (ctexel_Wrap K a3 a2 a0.H) (by kernel_rfl) (fun u2 hu2 =>
    L.idx mixed 16 _ (rows a0.L) 1 IntKind.i64 _ (by kernel_rfl) (fun h3a h3b =>
    L.ld mixed 0 3 (rows a0.L) ((IntKind.i64.wrap (IntKind.i64.wrap (u2.fst * a0.W) + u1.fst)).toNat * 1 + 0) (.int .i64 (getR a0.L (IntKind.i64.wrap (IntKind.i64.wrap (u2.fst * a0.W) + u1.fst)).toNat)) (by kernel_rfl) (load1_rows (i := (IntKind.i64.wrap (IntKind.i64.wrap (u2.fst * a0.W) + u1.fst)).toNat) (d := 0) rfl (toNat_lt h3a h3b) (by kernel_rfl) (Nat.le_of_ble_eq_true (by kernel_rfl)) (by kernel_rfl)) <|
    L.callO mixed (fun u4 : TColor × Int => .tuple ⟨[.agg ⟨[.int .i64 u4.1.R, .int .i64 u4.1.G, .int .i64 u4.1.B, .int .i64 u4.1.A]⟩, .int .i64 u4.2]⟩) (ctint_Unpack K (getR a0.L (IntKind.i64.wrap (IntKind.i64.wrap (u2.fst * a0.W) + u1.fst)).toNat)) (by kernel_rfl) (fun u4 hu4 =>
    L.ret _ mixed Tryz.func58 _ (by kernel_rfl) rfl))))
/-! ### 57 -/
abbrev Etexel_split : Int × Int → Value := fun r => .tuple ⟨[.int .i64 r.1, .int .i64 r.2]⟩
def Ftexel_split (K : Nat) (a0 : Int) : Option (Int × Int) :=
  some ((a0.fdiv 256, IntKind.i64.wrap (↑(BitVec.ofInt 64 a0 &&& BitVec.ofInt 64 255).toNat : Int)))
theorem ctexel_split (K : Nat) (a0 : Int) : ∀ r, Ftexel_split K a0 = some r → Con Tryz.prog 57 [.int .i64 a0] (Etexel_split r) := by
  refine Con.lift Tryz.func57 (by kernel_rfl) rfl (fun _ => rfl) ?_
  unfold Ftexel_split
  exact
    L.ret _ mixed Tryz.func57 _ (by kernel_rfl) rfl
/-! ### 60 -/
abbrev Etexel_Sample_2 : Int → Value := fun r => .int .i64 r
def Ftexel_Sample_2 (K : Nat) (a0 : Int) : Option Int :=
  some ((IntKind.i64.wrap (a0 + 32768)).fdiv 65536)
theorem ctexel_Sample_2 (K : Nat) (a0 : Int) : ∀ r, Ftexel_Sample_2 K a0 = some r → Con Tryz.prog 60 [.int .i64 a0] (Etexel_Sample_2 r) := by
  refine Con.lift Tryz.func60 (by kernel_rfl) rfl (fun _ => rfl) ?_
  unfold Ftexel_Sample_2
  exact
    L.ret _ mixed Tryz.func60 _ (by kernel_rfl) rfl
/-! ### 19 -/
abbrev Etexel_Sample : TColor × Int → Value := fun r => .tuple ⟨[.agg ⟨[.int .i64 r.1.R, .int .i64 r.1.G, .int .i64 r.1.B, .int .i64 r.1.A]⟩, .int .i64 r.2]⟩
def Ftexel_Sample (K : Nat) (a0 : TTex) (a1 : Int) (a2 : Int) (a3 : Int) (a4 : Bool) : Option (TColor × Int) :=
  (Ftexel_check K a0 a3).bind fun u1 =>
  bif (u1 != 0) then
    some (((⟨0, 0, 0, 0⟩ : TColor), u1))
  else
    (Ftexel_within K a1 65536).bind fun u3 =>
    bif !u3 then
      some (((⟨0, 0, 0, 0⟩ : TColor), 3))
    else
      (Ftexel_within K a2 65536).bind fun u5 =>
      bif (bif false then true else !u5) then
        some (((⟨0, 0, 0, 0⟩ : TColor), 3))
      else
        bif !a4 then
          (Ftexel_split K a1).bind fun u8 =>
          (Ftexel_split K a2).bind fun u9 =>
          (Ftexel_texel K a0 u8.fst u9.fst a3).bind fun u10 =>
          some ((u10, 0))
        else
          (Ftexel_split K (IntKind.i64.wrap (a1 - 128))).bind fun u11 =>
          (Ftexel_split K (IntKind.i64.wrap (a2 - 128))).bind fun u12 =>
          (Ftexel_texel K a0 u11.fst u12.fst a3).bind fun u13 =>
          (Ftexel_texel K a0 (IntKind.i64.wrap (u11.fst + 1)) u12.fst a3).bind fun u14 =>
          (Ftexel_texel K a0 u11.fst (IntKind.i64.wrap (u12.fst + 1)) a3).bind fun u15 =>
          (Ftexel_texel K a0 (IntKind.i64.wrap (u11.fst + 1)) (IntKind.i64.wrap (u12.fst + 1)) a3).bind fun u16 =>
          (Ftexel_Sample_2 K ((Fadd u16 (IntKind.i64.wrap (u11.snd * u12.snd)) (Fadd u15 (IntKind.i64.wrap (IntKind.i64.wrap (256 - u11.snd) * u12.snd)) (Fadd u14 (IntKind.i64.wrap (u11.snd * IntKind.i64.wrap (256 - u12.snd))) (Fadd u13 (IntKind.i64.wrap (IntKind.i64.wrap (256 - u11.snd) * IntKind.i64.wrap (256 - u12.snd))) (TColor.mk 0 0 0 0))))).R)).bind fun u17 =>
          (Ftexel_Sample_2 K ((Fadd u16 (IntKind.i64.wrap (u11.snd * u12.snd)) (Fadd u15 (IntKind.i64.wrap (IntKind.i64.wrap (256 - u11.snd) * u12.snd)) (Fadd u14 (IntKind.i64.wrap (u11.snd * IntKind.i64.wrap (256 - u12.snd))) (Fadd u13 (IntKind.i64.wrap (IntKind.i64.wrap (256 - u11.snd) * IntKind.i64.wrap (256 - u12.snd))) (TColor.mk 0 0 0 0))))).G)).bind fun u18 =>
          (Ftexel_Sample_2 K ((Fadd u16 (IntKind.i64.wrap (u11.snd * u12.snd)) (Fadd u15 (IntKind.i64.wrap (IntKind.i64.wrap (256 - u11.snd) * u12.snd)) (Fadd u14 (IntKind.i64.wrap (u11.snd * IntKind.i64.wrap (256 - u12.snd))) (Fadd u13 (IntKind.i64.wrap (IntKind.i64.wrap (256 - u11.snd) * IntKind.i64.wrap (256 - u12.snd))) (TColor.mk 0 0 0 0))))).B)).bind fun u19 =>
          (Ftexel_Sample_2 K ((Fadd u16 (IntKind.i64.wrap (u11.snd * u12.snd)) (Fadd u15 (IntKind.i64.wrap (IntKind.i64.wrap (256 - u11.snd) * u12.snd)) (Fadd u14 (IntKind.i64.wrap (u11.snd * IntKind.i64.wrap (256 - u12.snd))) (Fadd u13 (IntKind.i64.wrap (IntKind.i64.wrap (256 - u11.snd) * IntKind.i64.wrap (256 - u12.snd))) (TColor.mk 0 0 0 0))))).A)).bind fun u20 =>
          some (((⟨u17, u18, u19, u20⟩ : TColor), 0))
theorem ctexel_Sample (K : Nat) (a0 : TTex) (a1 : Int) (a2 : Int) (a3 : Int) (a4 : Bool) : ∀ r, Ftexel_Sample K a0 a1 a2 a3 a4 = some r → Con Tryz.prog 19 [.agg ⟨[.int .i64 a0.W, .int .i64 a0.H, lst a0.L]⟩, .int .i64 a1, .int .i64 a2, .int .i64 a3, .bool a4] (Etexel_Sample r) := by
  refine Con.lift Tryz.func19 (by kernel_rfl) rfl (fun _ => rfl) ?_
  unfold Ftexel_Sample
  exact
    L.callO mixed (fun u1 : Int => .int .i64 u1) (ctexel_check K a0 a3) (by kernel_rfl) (fun u1 hu1 =>
    L.br mixed 7 _ (by kernel_rfl)
      (fun h2 =>
      L.ret _ mixed Tryz.func19 _ (by kernel_rfl) rfl)
      (fun h2 =>
      L.callO mixed (fun u3 : Bool => .bool u3) (ctexel_within K a1 65536) (by kernel_rfl) (fun u3 hu3 =>
      L.gu mixed 2 _ (by kernel_rfl)
        (fun h4 =>
        L.ret _ mixed Tryz.func19 _ (by kernel_rfl) rfl)
        (fun h4 =>
        L.callO mixed (fun u5 : Bool => .bool u5) (ctexel_within K a2 65536) (by kernel_rfl) (fun u5 hu5 =>
        L.br mixed 3 _ (by kernel_rfl)
          (fun h6 =>
          L.ret _ mixed Tryz.func19 _ (by kernel_rfl) rfl)
          (fun h6 =>
          L.br mixed 7 _ (by kernel_rfl)
            (fun h7 =>
            L.callO mixed (fun u8 : Int × Int => .tuple ⟨[.int .i64 u8.1, .int .i64 u8.2]⟩) (ctexel_split K a1) (by kernel_rfl) (fun u8 hu8 =>
            L.callO mixed (fun u9 : Int × Int => .tuple ⟨[.int .i64 u9.1, .int .i64 u9.2]⟩) (ctexel_split K a2) (by kernel_rfl) (fun u9 hu9 =>
            L.callO mixed (fun u10 : TColor => .agg ⟨[.int .i64 u10.R, .int .i64 u10.G, .int .i64 u10.B, .int .i64 u10.A]⟩) (ctexel_texel K a0 u8.fst u9.fst a3) (by kernel_rfl) (fun u10 hu10 =>
            L.ret _ mixed Tryz.func19 _ (by kernel_rfl) rfl))))
            (fun h7 =>
            L.callO mixed (fun u11 : Int × Int => .tuple ⟨[.int .i64 u11.1, .int .i64 u11.2]⟩) (ctexel_split K (IntKind.i64.wrap (a1 - 128))) (by kernel_rfl) (fun u11 hu11 =>
            L.callO mixed (fun u12 : Int × Int => .tuple ⟨[.int .i64 u12.1, .int .i64 u12.2]⟩) (ctexel_split K (IntKind.i64.wrap (a2 - 128))) (by kernel_rfl) (fun u12 hu12 =>
            L.callO mixed (fun u13 : TColor => .agg ⟨[.int .i64 u13.R, .int .i64 u13.G, .int .i64 u13.B, .int .i64 u13.A]⟩) (ctexel_texel K a0 u11.fst u12.fst a3) (by kernel_rfl) (fun u13 hu13 =>
            L.callM mixed [.own 2] (kadd u13 (IntKind.i64.wrap (IntKind.i64.wrap (256 - u11.snd) * IntKind.i64.wrap (256 - u12.snd))) ((⟨0, 0, 0, 0⟩ : TColor))) (by kernel_rfl) (by kernel_rfl) rfl <|
            L.callO mixed (fun u14 : TColor => .agg ⟨[.int .i64 u14.R, .int .i64 u14.G, .int .i64 u14.B, .int .i64 u14.A]⟩) (ctexel_texel K a0 (IntKind.i64.wrap (u11.fst + 1)) u12.fst a3) (by kernel_rfl) (fun u14 hu14 =>
            L.callM mixed [.own 2] (kadd u14 (IntKind.i64.wrap (u11.snd * IntKind.i64.wrap (256 - u12.snd))) ((Fadd u13 (IntKind.i64.wrap (IntKind.i64.wrap (256 - u11.snd) * IntKind.i64.wrap (256 - u12.snd))) (TColor.mk 0 0 0 0)))) (by kernel_rfl) (by kernel_rfl) rfl <|
            L.callO mixed (fun u15 : TColor => .agg ⟨[.int .i64 u15.R, .int .i64 u15.G, .int .i64 u15.B, .int .i64 u15.A]⟩) (ctexel_texel K a0 u11.fst (IntKind.i64.wrap (u12.fst + 1)) a3) (by kernel_rfl) (fun u15 hu15 =>
            L.callM mixed [.own 2] (kadd u15 (IntKind.i64.wrap (IntKind.i64.wrap (256 - u11.snd) * u12.snd)) ((Fadd u14 (IntKind.i64.wrap (u11.snd * IntKind.i64.wrap (256 - u12.snd))) (Fadd u13 (IntKind.i64.wrap (IntKind.i64.wrap (256 - u11.snd) * IntKind.i64.wrap (256 - u12.snd))) (TColor.mk 0 0 0 0))))) (by kernel_rfl) (by kernel_rfl) rfl <|
            L.callO mixed (fun u16 : TColor => .agg ⟨[.int .i64 u16.R, .int .i64 u16.G, .int .i64 u16.B, .int .i64 u16.A]⟩) (ctexel_texel K a0 (IntKind.i64.wrap (u11.fst + 1)) (IntKind.i64.wrap (u12.fst + 1)) a3) (by kernel_rfl) (fun u16 hu16 =>
            L.callM mixed [.own 2] (kadd u16 (IntKind.i64.wrap (u11.snd * u12.snd)) ((Fadd u15 (IntKind.i64.wrap (IntKind.i64.wrap (256 - u11.snd) * u12.snd)) (Fadd u14 (IntKind.i64.wrap (u11.snd * IntKind.i64.wrap (256 - u12.snd))) (Fadd u13 (IntKind.i64.wrap (IntKind.i64.wrap (256 - u11.snd) * IntKind.i64.wrap (256 - u12.snd))) (TColor.mk 0 0 0 0)))))) (by kernel_rfl) (by kernel_rfl) rfl <|
            L.callO mixed (fun u17 : Int => .int .i64 u17) (ctexel_Sample_2 K ((Fadd u16 (IntKind.i64.wrap (u11.snd * u12.snd)) (Fadd u15 (IntKind.i64.wrap (IntKind.i64.wrap (256 - u11.snd) * u12.snd)) (Fadd u14 (IntKind.i64.wrap (u11.snd * IntKind.i64.wrap (256 - u12.snd))) (Fadd u13 (IntKind.i64.wrap (IntKind.i64.wrap (256 - u11.snd) * IntKind.i64.wrap (256 - u12.snd))) (TColor.mk 0 0 0 0))))).R)) (by kernel_rfl) (fun u17 hu17 =>
            L.callO mixed (fun u18 : Int => .int .i64 u18) (ctexel_Sample_2 K ((Fadd u16 (IntKind.i64.wrap (u11.snd * u12.snd)) (Fadd u15 (IntKind.i64.wrap (IntKind.i64.wrap (256 - u11.snd) * u12.snd)) (Fadd u14 (IntKind.i64.wrap (u11.snd * IntKind.i64.wrap (256 - u12.snd))) (Fadd u13 (IntKind.i64.wrap (IntKind.i64.wrap (256 - u11.snd) * IntKind.i64.wrap (256 - u12.snd))) (TColor.mk 0 0 0 0))))).G)) (by kernel_rfl) (fun u18 hu18 =>
            L.callO mixed (fun u19 : Int => .int .i64 u19) (ctexel_Sample_2 K ((Fadd u16 (IntKind.i64.wrap (u11.snd * u12.snd)) (Fadd u15 (IntKind.i64.wrap (IntKind.i64.wrap (256 - u11.snd) * u12.snd)) (Fadd u14 (IntKind.i64.wrap (u11.snd * IntKind.i64.wrap (256 - u12.snd))) (Fadd u13 (IntKind.i64.wrap (IntKind.i64.wrap (256 - u11.snd) * IntKind.i64.wrap (256 - u12.snd))) (TColor.mk 0 0 0 0))))).B)) (by kernel_rfl) (fun u19 hu19 =>
            L.callO mixed (fun u20 : Int => .int .i64 u20) (ctexel_Sample_2 K ((Fadd u16 (IntKind.i64.wrap (u11.snd * u12.snd)) (Fadd u15 (IntKind.i64.wrap (IntKind.i64.wrap (256 - u11.snd) * u12.snd)) (Fadd u14 (IntKind.i64.wrap (u11.snd * IntKind.i64.wrap (256 - u12.snd))) (Fadd u13 (IntKind.i64.wrap (IntKind.i64.wrap (256 - u11.snd) * IntKind.i64.wrap (256 - u12.snd))) (TColor.mk 0 0 0 0))))).A)) (by kernel_rfl) (fun u20 hu20 =>
            L.ret _ mixed Tryz.func19 _ (by kernel_rfl) rfl)))))))))))))))))
/-! ### 7 -/
abbrev Efrag_Of : TFrag × Bool → Value := fun r => .tuple ⟨[.agg ⟨[.int .i64 r.1.C.R, .int .i64 r.1.C.G, .int .i64 r.1.C.B, .int .i64 r.1.C.A, .int .i64 r.1.Z]⟩, .bool r.2]⟩
def Ffrag_Of (K : Nat) (a0 : TTri) (a1 : TState) (a2 : TTex) (a3 : Int) (a4 : Int) : Option (TFrag × Bool) :=
  (FtAt K a0 a3 a4).bind fun u1 =>
  bif !u1.snd.snd then
    some (((⟨(⟨0, 0, 0, 0⟩ : TColor), 0⟩ : TFrag), false))
  else
    (Ftint_Of K u1.snd.fst).bind fun u3 =>
    bif (decide (a1.Tex ≤ 0)) then
      some (((⟨u3, u1.fst⟩ : TFrag), true))
    else
      (Ftexel_Sample K a2 (Fsat u1.snd.fst.e4 (-65536) 65536) (Fsat u1.snd.fst.e5 (-65536) 65536) a1.Wrap a1.Soft).bind fun u5 =>
      bif (u5.snd == 0) then
        (Ftint_Times K u3 u5.fst).bind fun u7 =>
        some (((⟨u7.fst, u1.fst⟩ : TFrag), true))
      else
        some (((⟨u3, u1.fst⟩ : TFrag), true))
theorem cfrag_Of (K : Nat) (a0 : TTri) (a1 : TState) (a2 : TTex) (a3 : Int) (a4 : Int) : ∀ r, Ffrag_Of K a0 a1 a2 a3 a4 = some r → Con Tryz.prog 7 [.agg ⟨[.int .i64 a0.S.e0.P.X, .int .i64 a0.S.e0.P.Y, .int .i64 a0.S.e0.Z, .int .i64 a0.S.e0.A.e0, .int .i64 a0.S.e0.A.e1, .int .i64 a0.S.e0.A.e2, .int .i64 a0.S.e0.A.e3, .int .i64 a0.S.e0.A.e4, .int .i64 a0.S.e0.A.e5, .int .i64 a0.S.e1.P.X, .int .i64 a0.S.e1.P.Y, .int .i64 a0.S.e1.Z, .int .i64 a0.S.e1.A.e0, .int .i64 a0.S.e1.A.e1, .int .i64 a0.S.e1.A.e2, .int .i64 a0.S.e1.A.e3, .int .i64 a0.S.e1.A.e4, .int .i64 a0.S.e1.A.e5, .int .i64 a0.S.e2.P.X, .int .i64 a0.S.e2.P.Y, .int .i64 a0.S.e2.Z, .int .i64 a0.S.e2.A.e0, .int .i64 a0.S.e2.A.e1, .int .i64 a0.S.e2.A.e2, .int .i64 a0.S.e2.A.e3, .int .i64 a0.S.e2.A.e4, .int .i64 a0.S.e2.A.e5, .int .i64 a0.Area, .int .i64 a0.Box.X0, .int .i64 a0.Box.Y0, .int .i64 a0.Box.X1, .int .i64 a0.Box.Y1]⟩, .agg ⟨[.int .i64 a1.M.e0, .int .i64 a1.M.e1, .int .i64 a1.M.e2, .int .i64 a1.M.e3, .int .i64 a1.M.e4, .int .i64 a1.M.e5, .int .i64 a1.M.e6, .int .i64 a1.M.e7, .int .i64 a1.M.e8, .int .i64 a1.M.e9, .int .i64 a1.M.e10, .int .i64 a1.M.e11, .int .i64 a1.M.e12, .int .i64 a1.M.e13, .int .i64 a1.M.e14, .int .i64 a1.M.e15, .int .i64 a1.View.X0, .int .i64 a1.View.Y0, .int .i64 a1.View.X1, .int .i64 a1.View.Y1, .int .i64 a1.Sciss.X0, .int .i64 a1.Sciss.Y0, .int .i64 a1.Sciss.X1, .int .i64 a1.Sciss.Y1, .int .i64 a1.DFn, .bool a1.DPut, .int .i64 a1.St.Fn, .int .i64 a1.St.Ref, .int .i64 a1.St.Read, .int .i64 a1.St.Write, .int .i64 a1.St.Fail, .int .i64 a1.St.ZFail, .int .i64 a1.St.Pass, .int .i64 a1.Bl.Src, .int .i64 a1.Bl.Dst, .int .i64 a1.Bl.Eq, .int .i64 a1.Bl.Mask, .int .i64 a1.Cull, .int .i64 a1.Tex, .int .i64 a1.Wrap, .bool a1.Soft]⟩, .agg ⟨[.int .i64 a2.W, .int .i64 a2.H, lst a2.L]⟩, .int .i64 a3, .int .i64 a4] (Efrag_Of r) := by
  refine Con.lift Tryz.func7 (by kernel_rfl) rfl (fun _ => rfl) ?_
  unfold Ffrag_Of
  exact
    L.callO mixed (fun u1 : Int × A6I × Bool => .tuple ⟨[.int .i64 u1.1, .agg ⟨[.int .i64 u1.2.1.e0, .int .i64 u1.2.1.e1, .int .i64 u1.2.1.e2, .int .i64 u1.2.1.e3, .int .i64 u1.2.1.e4, .int .i64 u1.2.1.e5]⟩, .bool u1.2.2]⟩) (ktAt K a0 a3 a4) (by kernel_rfl) (fun u1 hu1 =>
    L.br mixed 15 _ (by kernel_rfl)
      (fun h2 =>
      L.ret _ mixed Tryz.func7 _ (by kernel_rfl) rfl)
      (fun h2 =>
      L.callO mixed (fun u3 : TColor => .agg ⟨[.int .i64 u3.R, .int .i64 u3.G, .int .i64 u3.B, .int .i64 u3.A]⟩) (ctint_Of K u1.snd.fst) (by kernel_rfl) (fun u3 hu3 =>
      L.br mixed 12 _ (by kernel_rfl)
        (fun h4 =>
        L.ret _ mixed Tryz.func7 _ (by kernel_rfl) rfl)
        (fun h4 =>
        L.call mixed (ksat u1.snd.fst.e4 (-65536) 65536) (by kernel_rfl) <|
        L.call mixed (ksat u1.snd.fst.e5 (-65536) 65536) (by kernel_rfl) <|
        L.callO mixed (fun u5 : TColor × Int => .tuple ⟨[.agg ⟨[.int .i64 u5.1.R, .int .i64 u5.1.G, .int .i64 u5.1.B, .int .i64 u5.1.A]⟩, .int .i64 u5.2]⟩) (ctexel_Sample K a2 (Fsat u1.snd.fst.e4 (-65536) 65536) (Fsat u1.snd.fst.e5 (-65536) 65536) a1.Wrap a1.Soft) (by kernel_rfl) (fun u5 hu5 =>
        L.br mixed 12 _ (by kernel_rfl)
          (fun h6 =>
          L.callO mixed (fun u7 : TColor × Int => .tuple ⟨[.agg ⟨[.int .i64 u7.1.R, .int .i64 u7.1.G, .int .i64 u7.1.B, .int .i64 u7.1.A]⟩, .int .i64 u7.2]⟩) (ctint_Times K u3 u5.fst) (by kernel_rfl) (fun u7 hu7 =>
          L.ret _ mixed Tryz.func7 _ (by kernel_rfl) rfl))
          (fun h6 =>
          L.ret _ mixed Tryz.func7 _ (by kernel_rfl) rfl))))))
/-! ### 62 -/
abbrev ER12_Fits : Bool → Value := fun r => .bool r
def FR12_Fits (K : Nat) (a0 : Int) (a1 : Int) : Option Bool :=
  bif (decide (a0 ≥ -32768)) then
    bif (bif true then decide (a0 ≤ 32767) else false) then
      bif (bif true then decide (a1 ≥ -32768) else false) then
        some (bif true then decide (a1 ≤ 32767) else false)
      else
        some false
    else
      some false
  else
    some false
theorem cR12_Fits (K : Nat) (a0 : Int) (a1 : Int) : ∀ r, FR12_Fits K a0 a1 = some r → Con Tryz.prog 62 [.int .i64 a0, .int .i64 a1] (ER12_Fits r) := by
  refine Con.lift Tryz.func62 (by kernel_rfl) rfl (fun _ => rfl) ?_
  unfold FR12_Fits
  exact
    L.gu mixed 9 _ (by kernel_rfl)
      (fun h1 =>
      L.gu mixed 4 _ (by kernel_rfl)
        (fun h2 =>
        L.gu mixed 4 _ (by kernel_rfl)
          (fun h3 =>
          L.ret _ mixed Tryz.func62 _ (by kernel_rfl) rfl)
          (fun h3 =>
          L.ret _ mixed Tryz.func62 _ (by kernel_rfl) rfl))
        (fun h2 =>
        L.ret _ mixed Tryz.func62 _ (by kernel_rfl) rfl))
      (fun h1 =>
      L.ret _ mixed Tryz.func62 _ (by kernel_rfl) rfl)
/-! ### 21 -/
abbrev ER17_Has : Bool → Value := fun r => .bool r
def FR17_Has (K : Nat) (a0 : TTri) (a1 : Int) (a2 : Int) : Option Bool :=
  (FR12_Fits K a1 a2).bind fun u1 =>
  bif u1 then
    (FrHas K a0.S.e0.P a0.S.e1.P a0.S.e2.P a1 a2).bind fun u3 =>
    some (bif true then u3 else false)
  else
    some false
theorem cR17_Has (K : Nat) (a0 : TTri) (a1 : Int) (a2 : Int) : ∀ r, FR17_Has K a0 a1 a2 = some r → Con Tryz.prog 21 [.agg ⟨[.int .i64 a0.S.e0.P.X, .int .i64 a0.S.e0.P.Y, .int .i64 a0.S.e0.Z, .int .i64 a0.S.e0.A.e0, .int .i64 a0.S.e0.A.e1, .int .i64 a0.S.e0.A.e2, .int .i64 a0.S.e0.A.e3, .int .i64 a0.S.e0.A.e4, .int .i64 a0.S.e0.A.e5, .int .i64 a0.S.e1.P.X, .int .i64 a0.S.e1.P.Y, .int .i64 a0.S.e1.Z, .int .i64 a0.S.e1.A.e0, .int .i64 a0.S.e1.A.e1, .int .i64 a0.S.e1.A.e2, .int .i64 a0.S.e1.A.e3, .int .i64 a0.S.e1.A.e4, .int .i64 a0.S.e1.A.e5, .int .i64 a0.S.e2.P.X, .int .i64 a0.S.e2.P.Y, .int .i64 a0.S.e2.Z, .int .i64 a0.S.e2.A.e0, .int .i64 a0.S.e2.A.e1, .int .i64 a0.S.e2.A.e2, .int .i64 a0.S.e2.A.e3, .int .i64 a0.S.e2.A.e4, .int .i64 a0.S.e2.A.e5, .int .i64 a0.Area, .int .i64 a0.Box.X0, .int .i64 a0.Box.Y0, .int .i64 a0.Box.X1, .int .i64 a0.Box.Y1]⟩, .int .i64 a1, .int .i64 a2] (ER17_Has r) := by
  refine Con.lift Tryz.func21 (by kernel_rfl) rfl (fun _ => rfl) ?_
  unfold FR17_Has
  exact
    L.callO mixed (fun u1 : Bool => .bool u1) (cR12_Fits K a1 a2) (by kernel_rfl) (fun u1 hu1 =>
    L.gu mixed 1 _ (by kernel_rfl)
      (fun h2 =>
      L.callO mixed (fun u3 : Bool => .bool u3) (krHas K a0.S.e0.P a0.S.e1.P a0.S.e2.P a1 a2) (by kernel_rfl) (fun u3 hu3 =>
      L.ret _ mixed Tryz.func21 _ (by kernel_rfl) rfl))
      (fun h2 =>
      L.ret _ mixed Tryz.func21 _ (by kernel_rfl) rfl))
/-! ### 65 -/
abbrev ER12_Middle : TPoint → Value := fun r => .agg ⟨[.int .i64 r.X, .int .i64 r.Y]⟩
def FR12_Middle (K : Nat) (a0 : Int) (a1 : Int) : Option TPoint :=
  some ((⟨IntKind.i64.wrap (IntKind.i64.wrap (16 * a0) + 8), IntKind.i64.wrap (IntKind.i64.wrap (16 * a1) + 8)⟩ : TPoint))
theorem cR12_Middle (K : Nat) (a0 : Int) (a1 : Int) : ∀ r, FR12_Middle K a0 a1 = some r → Con Tryz.prog 65 [.int .i64 a0, .int .i64 a1] (ER12_Middle r) := by
  refine Con.lift Tryz.func65 (by kernel_rfl) rfl (fun _ => rfl) ?_
  unfold FR12_Middle
  exact
    L.ret _ mixed Tryz.func65 _ (by kernel_rfl) rfl
/-! ### 22 -/
abbrev ER17_At : Int × A6I → Value := fun r => .tuple ⟨[.int .i64 r.1, .agg ⟨[.int .i64 r.2.e0, .int .i64 r.2.e1, .int .i64 r.2.e2, .int .i64 r.2.e3, .int .i64 r.2.e4, .int .i64 r.2.e5]⟩]⟩
def FR17_At (K : Nat) (a0 : TTri) (a1 : Int) (a2 : Int) : Option (Int × A6I) :=
  (FR12_Middle K a1 a2).bind fun u1 =>
  (FrMix K ((FrWts a0.S.e0.P a0.S.e1.P a0.S.e2.P u1)) ((⟨a0.S.e0.A.e0, a0.S.e1.A.e0, a0.S.e2.A.e0⟩ : A3I))).bind fun u2 =>
  (FrMix K ((FrWts a0.S.e0.P a0.S.e1.P a0.S.e2.P u1)) ((⟨a0.S.e0.A.e1, a0.S.e1.A.e1, a0.S.e2.A.e1⟩ : A3I))).bind fun u3 =>
  (FrMix K ((FrWts a0.S.e0.P a0.S.e1.P a0.S.e2.P u1)) ((⟨a0.S.e0.A.e2, a0.S.e1.A.e2, a0.S.e2.A.e2⟩ : A3I))).bind fun u4 =>
  (FrMix K ((FrWts a0.S.e0.P a0.S.e1.P a0.S.e2.P u1)) ((⟨a0.S.e0.A.e3, a0.S.e1.A.e3, a0.S.e2.A.e3⟩ : A3I))).bind fun u5 =>
  (FrMix K ((FrWts a0.S.e0.P a0.S.e1.P a0.S.e2.P u1)) ((⟨a0.S.e0.A.e4, a0.S.e1.A.e4, a0.S.e2.A.e4⟩ : A3I))).bind fun u6 =>
  (FrMix K ((FrWts a0.S.e0.P a0.S.e1.P a0.S.e2.P u1)) ((⟨a0.S.e0.A.e5, a0.S.e1.A.e5, a0.S.e2.A.e5⟩ : A3I))).bind fun u7 =>
  (FrMix K ((FrWts a0.S.e0.P a0.S.e1.P a0.S.e2.P u1)) ((⟨a0.S.e0.Z, a0.S.e1.Z, a0.S.e2.Z⟩ : A3I))).bind fun u8 =>
  some ((u8, (⟨u2, u3, u4, u5, u6, u7⟩ : A6I)))
theorem cR17_At (K : Nat) (a0 : TTri) (a1 : Int) (a2 : Int) : ∀ r, FR17_At K a0 a1 a2 = some r → Con Tryz.prog 22 [.agg ⟨[.int .i64 a0.S.e0.P.X, .int .i64 a0.S.e0.P.Y, .int .i64 a0.S.e0.Z, .int .i64 a0.S.e0.A.e0, .int .i64 a0.S.e0.A.e1, .int .i64 a0.S.e0.A.e2, .int .i64 a0.S.e0.A.e3, .int .i64 a0.S.e0.A.e4, .int .i64 a0.S.e0.A.e5, .int .i64 a0.S.e1.P.X, .int .i64 a0.S.e1.P.Y, .int .i64 a0.S.e1.Z, .int .i64 a0.S.e1.A.e0, .int .i64 a0.S.e1.A.e1, .int .i64 a0.S.e1.A.e2, .int .i64 a0.S.e1.A.e3, .int .i64 a0.S.e1.A.e4, .int .i64 a0.S.e1.A.e5, .int .i64 a0.S.e2.P.X, .int .i64 a0.S.e2.P.Y, .int .i64 a0.S.e2.Z, .int .i64 a0.S.e2.A.e0, .int .i64 a0.S.e2.A.e1, .int .i64 a0.S.e2.A.e2, .int .i64 a0.S.e2.A.e3, .int .i64 a0.S.e2.A.e4, .int .i64 a0.S.e2.A.e5, .int .i64 a0.Area, .int .i64 a0.Box.X0, .int .i64 a0.Box.Y0, .int .i64 a0.Box.X1, .int .i64 a0.Box.Y1]⟩, .int .i64 a1, .int .i64 a2] (ER17_At r) := by
  refine Con.lift Tryz.func22 (by kernel_rfl) rfl (fun _ => rfl) ?_
  unfold FR17_At
  exact
    L.callO mixed (fun u1 : TPoint => .agg ⟨[.int .i64 u1.X, .int .i64 u1.Y]⟩) (cR12_Middle K a1 a2) (by kernel_rfl) (fun u1 hu1 =>
    L.call mixed (krWts a0.S.e0.P a0.S.e1.P a0.S.e2.P u1) (by kernel_rfl) <|
    L.callO mixed (fun u2 : Int => .int .i64 u2) (krMix K ((FrWts a0.S.e0.P a0.S.e1.P a0.S.e2.P u1)) ((⟨a0.S.e0.A.e0, a0.S.e1.A.e0, a0.S.e2.A.e0⟩ : A3I))) (by kernel_rfl) (fun u2 hu2 =>
    L.callO mixed (fun u3 : Int => .int .i64 u3) (krMix K ((FrWts a0.S.e0.P a0.S.e1.P a0.S.e2.P u1)) ((⟨a0.S.e0.A.e1, a0.S.e1.A.e1, a0.S.e2.A.e1⟩ : A3I))) (by kernel_rfl) (fun u3 hu3 =>
    L.callO mixed (fun u4 : Int => .int .i64 u4) (krMix K ((FrWts a0.S.e0.P a0.S.e1.P a0.S.e2.P u1)) ((⟨a0.S.e0.A.e2, a0.S.e1.A.e2, a0.S.e2.A.e2⟩ : A3I))) (by kernel_rfl) (fun u4 hu4 =>
    L.callO mixed (fun u5 : Int => .int .i64 u5) (krMix K ((FrWts a0.S.e0.P a0.S.e1.P a0.S.e2.P u1)) ((⟨a0.S.e0.A.e3, a0.S.e1.A.e3, a0.S.e2.A.e3⟩ : A3I))) (by kernel_rfl) (fun u5 hu5 =>
    L.callO mixed (fun u6 : Int => .int .i64 u6) (krMix K ((FrWts a0.S.e0.P a0.S.e1.P a0.S.e2.P u1)) ((⟨a0.S.e0.A.e4, a0.S.e1.A.e4, a0.S.e2.A.e4⟩ : A3I))) (by kernel_rfl) (fun u6 hu6 =>
    L.callO mixed (fun u7 : Int => .int .i64 u7) (krMix K ((FrWts a0.S.e0.P a0.S.e1.P a0.S.e2.P u1)) ((⟨a0.S.e0.A.e5, a0.S.e1.A.e5, a0.S.e2.A.e5⟩ : A3I))) (by kernel_rfl) (fun u7 hu7 =>
    L.callO mixed (fun u8 : Int => .int .i64 u8) (krMix K ((FrWts a0.S.e0.P a0.S.e1.P a0.S.e2.P u1)) ((⟨a0.S.e0.Z, a0.S.e1.Z, a0.S.e2.Z⟩ : A3I))) (by kernel_rfl) (fun u8 hu8 =>
    L.ret _ mixed Tryz.func22 _ (by kernel_rfl) rfl))))))))
/-! ### 27 -/
abbrev ER01_Sat : Int → Value := fun r => .int .i64 r
def FR01_Sat (K : Nat) (a0 : Int) (a1 : Int) (a2 : Int) : Option Int :=
  bif (decide (a0 < a1)) then
    some a1
  else
    bif (decide (a0 > a2)) then
      some a2
    else
      some a0
theorem cR01_Sat (K : Nat) (a0 : Int) (a1 : Int) (a2 : Int) : ∀ r, FR01_Sat K a0 a1 a2 = some r → Con Tryz.prog 27 [.int .i64 a0, .int .i64 a1, .int .i64 a2] (ER01_Sat r) := by
  refine Con.lift Tryz.func27 (by kernel_rfl) rfl (fun _ => rfl) ?_
  unfold FR01_Sat
  exact
    L.br mixed 11 _ (by kernel_rfl)
      (fun h1 =>
      L.ret _ mixed Tryz.func27 _ (by kernel_rfl) rfl)
      (fun h1 =>
      L.br mixed 8 _ (by kernel_rfl)
        (fun h2 =>
        L.ret _ mixed Tryz.func27 _ (by kernel_rfl) rfl)
        (fun h2 =>
        L.ret _ mixed Tryz.func27 _ (by kernel_rfl) rfl))
/-! ### 23 -/
abbrev ER06_Of : TColor → Value := fun r => .agg ⟨[.int .i64 r.R, .int .i64 r.G, .int .i64 r.B, .int .i64 r.A]⟩
def FR06_Of (K : Nat) (a0 : A6I) : Option TColor :=
  (FR01_Sat K a0.e0 0 255).bind fun u1 =>
  (FR01_Sat K a0.e1 0 255).bind fun u2 =>
  (FR01_Sat K a0.e2 0 255).bind fun u3 =>
  (FR01_Sat K a0.e3 0 255).bind fun u4 =>
  some ((⟨u1, u2, u3, u4⟩ : TColor))
theorem cR06_Of (K : Nat) (a0 : A6I) : ∀ r, FR06_Of K a0 = some r → Con Tryz.prog 23 [.agg ⟨[.int .i64 a0.e0, .int .i64 a0.e1, .int .i64 a0.e2, .int .i64 a0.e3, .int .i64 a0.e4, .int .i64 a0.e5]⟩] (ER06_Of r) := by
  refine Con.lift Tryz.func23 (by kernel_rfl) rfl (fun _ => rfl) ?_
  unfold FR06_Of
  exact
    L.callO mixed (fun u1 : Int => .int .i64 u1) (cR01_Sat K a0.e0 0 255) (by kernel_rfl) (fun u1 hu1 =>
    L.callO mixed (fun u2 : Int => .int .i64 u2) (cR01_Sat K a0.e1 0 255) (by kernel_rfl) (fun u2 hu2 =>
    L.callO mixed (fun u3 : Int => .int .i64 u3) (cR01_Sat K a0.e2 0 255) (by kernel_rfl) (fun u3 hu3 =>
    L.callO mixed (fun u4 : Int => .int .i64 u4) (cR01_Sat K a0.e3 0 255) (by kernel_rfl) (fun u4 hu4 =>
    L.ret _ mixed Tryz.func23 _ (by kernel_rfl) rfl))))
/-! ### 69 -/
abbrev ER01_Floor : Int → Value := fun r => .int .i64 r
def FR01_Floor (K : Nat) (a0 : Int) (a1 : Int) : Option Int :=
  bif (a0 == -9223372036854775808) then
    bif (bif true then a1 == -1 else false) then
      some 9223372036854775807
    else
      bif a1 != 0 then
        bif (decide (IntKind.i64.wrap (a0 - IntKind.i64.wrap (IntKind.i64.wrap (a0.tdiv a1) * a1)) < 0)) then
          bif (bif true then decide (a1 > 0) else false) then
            some (IntKind.i64.wrap (IntKind.i64.wrap (a0.tdiv a1) - 1))
          else
            bif (decide (IntKind.i64.wrap (a0 - IntKind.i64.wrap (IntKind.i64.wrap (a0.tdiv a1) * a1)) > 0)) then
              bif (bif false then true else bif true then decide (a1 < 0) else false) then
                some (IntKind.i64.wrap (IntKind.i64.wrap (a0.tdiv a1) - 1))
              else
                some (IntKind.i64.wrap (a0.tdiv a1))
            else
              some (IntKind.i64.wrap (a0.tdiv a1))
        else
          bif (decide (IntKind.i64.wrap (a0 - IntKind.i64.wrap (IntKind.i64.wrap (a0.tdiv a1) * a1)) > 0)) then
            bif (bif false then true else bif true then decide (a1 < 0) else false) then
              some (IntKind.i64.wrap (IntKind.i64.wrap (a0.tdiv a1) - 1))
            else
              some (IntKind.i64.wrap (a0.tdiv a1))
          else
            some (IntKind.i64.wrap (a0.tdiv a1))
      else none
  else
    bif a1 != 0 then
      bif (decide (IntKind.i64.wrap (a0 - IntKind.i64.wrap (IntKind.i64.wrap (a0.tdiv a1) * a1)) < 0)) then
        bif (bif true then decide (a1 > 0) else false) then
          some (IntKind.i64.wrap (IntKind.i64.wrap (a0.tdiv a1) - 1))
        else
          bif (decide (IntKind.i64.wrap (a0 - IntKind.i64.wrap (IntKind.i64.wrap (a0.tdiv a1) * a1)) > 0)) then
            bif (bif false then true else bif true then decide (a1 < 0) else false) then
              some (IntKind.i64.wrap (IntKind.i64.wrap (a0.tdiv a1) - 1))
            else
              some (IntKind.i64.wrap (a0.tdiv a1))
          else
            some (IntKind.i64.wrap (a0.tdiv a1))
      else
        bif (decide (IntKind.i64.wrap (a0 - IntKind.i64.wrap (IntKind.i64.wrap (a0.tdiv a1) * a1)) > 0)) then
          bif (bif false then true else bif true then decide (a1 < 0) else false) then
            some (IntKind.i64.wrap (IntKind.i64.wrap (a0.tdiv a1) - 1))
          else
            some (IntKind.i64.wrap (a0.tdiv a1))
        else
          some (IntKind.i64.wrap (a0.tdiv a1))
    else none
theorem cR01_Floor (K : Nat) (a0 : Int) (a1 : Int) : ∀ r, FR01_Floor K a0 a1 = some r → Con Tryz.prog 69 [.int .i64 a0, .int .i64 a1] (ER01_Floor r) := by
  refine Con.lift Tryz.func69 (by kernel_rfl) rfl (fun _ => rfl) ?_
  unfold FR01_Floor
  exact
    L.gu mixed 10 _ (by kernel_rfl)
      (fun h1 =>
      L.br mixed 4 _ (by kernel_rfl)
        (fun h2 =>
        L.ret _ mixed Tryz.func69 _ (by kernel_rfl) rfl)
        (fun h2 =>
        L.div mixed 5 false IntKind.i64 a0 _ (by kernel_rfl) (fun hd9 =>
        L.gu mixed 17 _ (by kernel_rfl)
          (fun h3 =>
          L.gu mixed 4 _ (by kernel_rfl)
            (fun h4 =>
            L.ret _ mixed Tryz.func69 _ (by kernel_rfl) rfl)
            (fun h4 =>
            L.gu mixed 3 _ (by kernel_rfl)
              (fun h5 =>
              L.br mixed 5 _ (by kernel_rfl)
                (fun h6 =>
                L.ret _ mixed Tryz.func69 _ (by kernel_rfl) rfl)
                (fun h6 =>
                L.ret _ mixed Tryz.func69 _ (by kernel_rfl) rfl))
              (fun h5 =>
              L.ret _ mixed Tryz.func69 _ (by kernel_rfl) rfl)))
          (fun h3 =>
          L.gu mixed 7 _ (by kernel_rfl)
            (fun h7 =>
            L.br mixed 5 _ (by kernel_rfl)
              (fun h8 =>
              L.ret _ mixed Tryz.func69 _ (by kernel_rfl) rfl)
              (fun h8 =>
              L.ret _ mixed Tryz.func69 _ (by kernel_rfl) rfl))
            (fun h7 =>
            L.ret _ mixed Tryz.func69 _ (by kernel_rfl) rfl)))))
      (fun h1 =>
      L.div mixed 10 false IntKind.i64 a0 _ (by kernel_rfl) (fun hd16 =>
      L.gu mixed 17 _ (by kernel_rfl)
        (fun h10 =>
        L.gu mixed 4 _ (by kernel_rfl)
          (fun h11 =>
          L.ret _ mixed Tryz.func69 _ (by kernel_rfl) rfl)
          (fun h11 =>
          L.gu mixed 3 _ (by kernel_rfl)
            (fun h12 =>
            L.br mixed 5 _ (by kernel_rfl)
              (fun h13 =>
              L.ret _ mixed Tryz.func69 _ (by kernel_rfl) rfl)
              (fun h13 =>
              L.ret _ mixed Tryz.func69 _ (by kernel_rfl) rfl))
            (fun h12 =>
            L.ret _ mixed Tryz.func69 _ (by kernel_rfl) rfl)))
        (fun h10 =>
        L.gu mixed 7 _ (by kernel_rfl)
          (fun h14 =>
          L.br mixed 5 _ (by kernel_rfl)
            (fun h15 =>
            L.ret _ mixed Tryz.func69 _ (by kernel_rfl) rfl)
            (fun h15 =>
            L.ret _ mixed Tryz.func69 _ (by kernel_rfl) rfl))
          (fun h14 =>
          L.ret _ mixed Tryz.func69 _ (by kernel_rfl) rfl))))
/-! ### 67 -/
abbrev ER06_Times : Int → Value := fun r => .int .i64 r
def FR06_Times (K : Nat) (a0 : Int) (a1 : Int) : Option Int :=
  some (IntKind.i64.wrap ((IntKind.i64.wrap (IntKind.i64.wrap (a0 * a1) + 127)).tdiv 255))
theorem cR06_Times (K : Nat) (a0 : Int) (a1 : Int) : ∀ r, FR06_Times K a0 a1 = some r → Con Tryz.prog 67 [.int .i64 a0, .int .i64 a1] (ER06_Times r) := by
  refine Con.lift Tryz.func67 (by kernel_rfl) rfl (fun _ => rfl) ?_
  unfold FR06_Times
  exact
    L.ret _ mixed Tryz.func67 _ (by kernel_rfl) rfl
/-! ### 25 -/
abbrev ER06_Tinted : TColor → Value := fun r => .agg ⟨[.int .i64 r.R, .int .i64 r.G, .int .i64 r.B, .int .i64 r.A]⟩
def FR06_Tinted (K : Nat) (a0 : TColor) (a1 : TColor) : Option TColor :=
  (FR06_Times K a0.R a1.R).bind fun u1 =>
  (FR06_Times K a0.G a1.G).bind fun u2 =>
  (FR06_Times K a0.B a1.B).bind fun u3 =>
  (FR06_Times K a0.A a1.A).bind fun u4 =>
  some ((⟨u1, u2, u3, u4⟩ : TColor))
theorem cR06_Tinted (K : Nat) (a0 : TColor) (a1 : TColor) : ∀ r, FR06_Tinted K a0 a1 = some r → Con Tryz.prog 25 [.agg ⟨[.int .i64 a0.R, .int .i64 a0.G, .int .i64 a0.B, .int .i64 a0.A]⟩, .agg ⟨[.int .i64 a1.R, .int .i64 a1.G, .int .i64 a1.B, .int .i64 a1.A]⟩] (ER06_Tinted r) := by
  refine Con.lift Tryz.func25 (by kernel_rfl) rfl (fun _ => rfl) ?_
  unfold FR06_Tinted
  exact
    L.callO mixed (fun u1 : Int => .int .i64 u1) (cR06_Times K a0.R a1.R) (by kernel_rfl) (fun u1 hu1 =>
    L.callO mixed (fun u2 : Int => .int .i64 u2) (cR06_Times K a0.G a1.G) (by kernel_rfl) (fun u2 hu2 =>
    L.callO mixed (fun u3 : Int => .int .i64 u3) (cR06_Times K a0.B a1.B) (by kernel_rfl) (fun u3 hu3 =>
    L.callO mixed (fun u4 : Int => .int .i64 u4) (cR06_Times K a0.A a1.A) (by kernel_rfl) (fun u4 hu4 =>
    L.ret _ mixed Tryz.func25 _ (by kernel_rfl) rfl))))
/-! ### 95 -/
abbrev ER06_Unpack : TColor × Bool → Value := fun r => .tuple ⟨[.agg ⟨[.int .i64 r.1.R, .int .i64 r.1.G, .int .i64 r.1.B, .int .i64 r.1.A]⟩, .bool r.2]⟩
def FR06_Unpack (K : Nat) (a0 : Int) : Option (TColor × Bool) :=
  bif (decide (a0 < 0)) then
    some (((⟨0, 0, 0, 0⟩ : TColor), false))
  else
    bif (bif false then true else decide (a0 > 4294967295)) then
      some (((⟨0, 0, 0, 0⟩ : TColor), false))
    else
      some (((⟨IntKind.i64.wrap (a0.tdiv 16777216), (IntKind.i64.wrap (a0.tdiv 65536)).tmod 256, (IntKind.i64.wrap (a0.tdiv 256)).tmod 256, a0.tmod 256⟩ : TColor), true))
theorem cR06_Unpack (K : Nat) (a0 : Int) : ∀ r, FR06_Unpack K a0 = some r → Con Tryz.prog 95 [.int .i64 a0] (ER06_Unpack r) := by
  refine Con.lift Tryz.func95 (by kernel_rfl) rfl (fun _ => rfl) ?_
  unfold FR06_Unpack
  exact
    L.gu mixed 11 _ (by kernel_rfl)
      (fun h1 =>
      L.ret _ mixed Tryz.func95 _ (by kernel_rfl) rfl)
      (fun h1 =>
      L.br mixed 4 _ (by kernel_rfl)
        (fun h2 =>
        L.ret _ mixed Tryz.func95 _ (by kernel_rfl) rfl)
        (fun h2 =>
        L.ret _ mixed Tryz.func95 _ (by kernel_rfl) rfl))
/-! ### 24 -/
abbrev ER14_Check : Int → Value := fun r => .int .i64 r
def FR14_Check_6 (a0 : TTex) : Nat → Int → Option Int
  | 0, _ => none
  | K + 1, p3 =>
    bif (decide (p3 < (↑a0.L.length : Int))) then
      bif inR p3 a0.L.length then
        bif (decide (getR a0.L p3.toNat < 0)) then
          some 3
        else
          bif inR p3 a0.L.length then
            bif (bif false then true else decide (getR a0.L p3.toNat > 4294967295)) then
              some 3
            else
              FR14_Check_6 a0 K (IntKind.i64.wrap (p3 + 1))
          else none
      else none
    else
      some 0
def FR14_Check (K : Nat) (a0 : TTex) : Option Int :=
  bif (decide (a0.W < 1)) then
    some 3
  else
    bif (bif false then true else decide (a0.W > 64)) then
      some 3
    else
      bif (bif false then true else decide (a0.H < 1)) then
        some 3
      else
        bif (bif false then true else decide (a0.H > 64)) then
          some 3
        else
          bif ((↑a0.L.length : Int) != IntKind.i64.wrap (a0.W * a0.H)) then
            some 6
          else
            FR14_Check_6 a0 K 0
def HR14_Check_6 (fn : Func) (a0 : TTex) (p3 : Int) : VS := headS fn 6 [(1, (frp [(Value.int IntKind.i64 a0.W), (Value.int IntKind.i64 a0.H), (lst a0.L)] 0)), (3, .int .i64 p3)] []
theorem lR14_Check (a0 : TTex) : ∀ K : Nat, (∀ (p3 : Int), Lifts Tryz.prog 24 0 ER14_Check (HR14_Check_6 Tryz.f24 a0 p3) (FR14_Check_6 a0 K p3)) := by
  intro K
  induction K with
  | zero =>
    exact fun p3 => (by rw [FR14_Check_6]; exact L.no)
  | succ K ih =>
    have IH6 := ih
    refine fun p3 => ?_
    · rw [FR14_Check_6]
      exact
        L.ld mixed 5 28 [(Value.int IntKind.i64 a0.W), (Value.int IntKind.i64 a0.H), (lst a0.L)] 2 ((lst a0.L)) (by kernel_rfl) (by kernel_rfl) <|
        L.br mixed 3 _ (by kernel_rfl)
          (fun h6 =>
          L.ld mixed 6 28 [(Value.int IntKind.i64 a0.W), (Value.int IntKind.i64 a0.H), (lst a0.L)] 2 ((lst a0.L)) (by kernel_rfl) (by kernel_rfl) <|
          L.idx mixed 1 _ (rows a0.L) 1 IntKind.i64 _ (by kernel_rfl) (fun h7a h7b =>
          L.ld mixed 0 3 (rows a0.L) (p3.toNat * 1 + 0) (.int .i64 (getR a0.L p3.toNat)) (by kernel_rfl) (load1_rows (i := p3.toNat) (d := 0) rfl (toNat_lt h7a h7b) (by kernel_rfl) (Nat.le_of_ble_eq_true (by kernel_rfl)) (by kernel_rfl)) <|
          L.gu mixed 2 _ (by kernel_rfl)
            (fun h8 =>
            L.ret _ mixed Tryz.func24 _ (by kernel_rfl) rfl)
            (fun h8 =>
            L.ld mixed 1 28 [(Value.int IntKind.i64 a0.W), (Value.int IntKind.i64 a0.H), (lst a0.L)] 2 ((lst a0.L)) (by kernel_rfl) (by kernel_rfl) <|
            L.idx mixed 1 _ (rows a0.L) 1 IntKind.i64 _ (by kernel_rfl) (fun h9a h9b =>
            L.ld mixed 0 3 (rows a0.L) (p3.toNat * 1 + 0) (.int .i64 (getR a0.L p3.toNat)) (by kernel_rfl) (load1_rows (i := p3.toNat) (d := 0) rfl (toNat_lt h9a h9b) (by kernel_rfl) (Nat.le_of_ble_eq_true (by kernel_rfl)) (by kernel_rfl)) <|
            L.br mixed 3 _ (by kernel_rfl)
              (fun h10 =>
              L.ret _ mixed Tryz.func24 _ (by kernel_rfl) rfl)
              (fun h10 =>
              L.jump mixed 8 [1, 3] (by kernel_rfl) (IH6 (IntKind.i64.wrap (p3 + 1))))))))
          (fun h6 =>
          L.ret _ mixed Tryz.func24 _ (by kernel_rfl) rfl)
theorem cR14_Check (K : Nat) (a0 : TTex) : ∀ r, FR14_Check K a0 = some r → Con Tryz.prog 24 [.agg ⟨[.int .i64 a0.W, .int .i64 a0.H, lst a0.L]⟩] (ER14_Check r) := by
  have IH6 := lR14_Check a0 K
  refine Con.lift Tryz.func24 (by kernel_rfl) rfl (fun _ => rfl) ?_
  unfold FR14_Check
  exact
    L.gu mixed 12 _ (by kernel_rfl)
      (fun h1 =>
      L.ret _ mixed Tryz.func24 _ (by kernel_rfl) rfl)
      (fun h1 =>
      L.gu mixed 5 _ (by kernel_rfl)
        (fun h2 =>
        L.ret _ mixed Tryz.func24 _ (by kernel_rfl) rfl)
        (fun h2 =>
        L.gu mixed 5 _ (by kernel_rfl)
          (fun h3 =>
          L.ret _ mixed Tryz.func24 _ (by kernel_rfl) rfl)
          (fun h3 =>
          L.br mixed 5 _ (by kernel_rfl)
            (fun h4 =>
            L.ret _ mixed Tryz.func24 _ (by kernel_rfl) rfl)
            (fun h4 =>
            L.br mixed 14 _ (by kernel_rfl)
              (fun h5 =>
              L.ret _ mixed Tryz.func24 _ (by kernel_rfl) rfl)
              (fun h5 =>
              L.frzP mixed 7 1 0 0 0 [(Value.int IntKind.i64 a0.W), (Value.int IntKind.i64 a0.H), (lst a0.L)] (by kernel_rfl) (by kernel_rfl) (by kernel_rfl) (by kernel_rfl) <|
              L.jumpG mixed 1 [1, 3] [] [] (by kernel_rfl) (by kernel_rfl) (by kernel_rfl) trivial (by kernel_rfl) (by kernel_rfl) (IH6 0))))))
/-! ### 96 -/
abbrev ER14_Wrap : Int → Value := fun r => .int .i64 r
def FR14_Wrap (K : Nat) (a0 : Int) (a1 : Int) (a2 : Int) : Option Int :=
  bif (a0 == 0) then
    (FR01_Sat K a1 0 (IntKind.i64.wrap (a2 - 1))).bind fun u2 =>
    some u2
  else
    bif (a0 == 1) then
      (FR01_Floor K a1 a2).bind fun u4 =>
      some (IntKind.i64.wrap (a1 - IntKind.i64.wrap (a2 * u4)))
    else
      (FR01_Floor K a1 (IntKind.i64.wrap (2 * a2))).bind fun u5 =>
      bif (decide (IntKind.i64.wrap (a1 - IntKind.i64.wrap (IntKind.i64.wrap (2 * a2) * u5)) < a2)) then
        some (IntKind.i64.wrap (a1 - IntKind.i64.wrap (IntKind.i64.wrap (2 * a2) * u5)))
      else
        some (IntKind.i64.wrap (IntKind.i64.wrap (IntKind.i64.wrap (2 * a2) - 1) - IntKind.i64.wrap (a1 - IntKind.i64.wrap (IntKind.i64.wrap (2 * a2) * u5))))
theorem cR14_Wrap (K : Nat) (a0 : Int) (a1 : Int) (a2 : Int) : ∀ r, FR14_Wrap K a0 a1 a2 = some r → Con Tryz.prog 96 [.int .i64 a0, .int .i64 a1, .int .i64 a2] (ER14_Wrap r) := by
  refine Con.lift Tryz.func96 (by kernel_rfl) rfl (fun _ => rfl) ?_
  unfold FR14_Wrap
  exact
    L.br mixed 10 _ (by kernel_rfl)
      (fun h1 =>
      L.callO mixed (fun u2 : Int => .int .i64 u2) (cR01_Sat K a1 0 (IntKind.i64.wrap (a2 - 1))) (by kernel_rfl) (fun u2 hu2 =>
      L.ret _ mixed Tryz.func96 _ (by kernel_rfl) rfl))
      (fun h1 =>
      L.br mixed 7 _ (by kernel_rfl)
        (fun h3 =>
        L.callO mixed (fun u4 : Int => .int .i64 u4) (cR01_Floor K a1 a2) (by kernel_rfl) (fun u4 hu4 =>
        L.ret _ mixed Tryz.func96 _ (by kernel_rfl) rfl))
        (fun h3 =>
        L.callO mixed (fun u5 : Int => .int .i64 u5) (cR01_Floor K a1 (IntKind.i64.wrap (2 * a2))) (by kernel_rfl) (fun u5 hu5 =>
        L.br mixed 11 _ (by kernel_rfl)
          (fun h6 =>
          L.ret _ mixed Tryz.func96 _ (by kernel_rfl) rfl)
          (fun h6 =>
          L.ret _ mixed Tryz.func96 _ (by kernel_rfl) rfl))))
/-! ### 68 -/
abbrev ER14_At : TColor → Value := fun r => .agg ⟨[.int .i64 r.R, .int .i64 r.G, .int .i64 r.B, .int .i64 r.A]⟩
def FR14_At (K : Nat) (a0 : TTex) (a1 : Int) (a2 : Int) (a3 : Int) : Option TColor :=
  (FR14_Wrap K a3 a2 a0.H).bind fun u1 =>
  (FR14_Wrap K a3 a1 a0.W).bind fun u2 =>
  bif inR (IntKind.i64.wrap (IntKind.i64.wrap (u1 * a0.W) + u2)) a0.L.length then
    (FR06_Unpack K (getR a0.L (IntKind.i64.wrap (IntKind.i64.wrap (u1 * a0.W) + u2)).toNat)).bind fun u4 =>
    some u4.fst
  else none
theorem cR14_At (K : Nat) (a0 : TTex) (a1 : Int) (a2 : Int) (a3 : Int) : ∀ r, FR14_At K a0 a1 a2 a3 = some r → Con Tryz.prog 68 [.agg ⟨[.int .i64 a0.W, .int .i64 a0.H, lst a0.L]⟩, .int .i64 a1, .int .i64 a2, .int .i64 a3] (ER14_At r) := by
  refine Con.lift Tryz.func68 (by kernel_rfl) rfl (fun _ => rfl) ?_
  unfold FR14_At
  exact
    L.callO mixed (fun u1 : Int => .int .i64 u1) (cR14_Wrap K a3 a2 a0.H) (by kernel_rfl) (fun u1 hu1 =>
    L.callO mixed (fun u2 : Int => .int .i64 u2) (cR14_Wrap K a3 a1 a0.W) (by kernel_rfl) (fun u2 hu2 =>
    L.idx mixed 1 _ (rows a0.L) 1 IntKind.i64 _ (by kernel_rfl) (fun h3a h3b =>
    L.ld mixed 0 3 (rows a0.L) ((IntKind.i64.wrap (IntKind.i64.wrap (u1 * a0.W) + u2)).toNat * 1 + 0) (.int .i64 (getR a0.L (IntKind.i64.wrap (IntKind.i64.wrap (u1 * a0.W) + u2)).toNat)) (by kernel_rfl) (load1_rows (i := (IntKind.i64.wrap (IntKind.i64.wrap (u1 * a0.W) + u2)).toNat) (d := 0) rfl (toNat_lt h3a h3b) (by kernel_rfl) (Nat.le_of_ble_eq_true (by kernel_rfl)) (by kernel_rfl)) <|
    L.callO mixed (fun u4 : TColor × Bool => .tuple ⟨[.agg ⟨[.int .i64 u4.1.R, .int .i64 u4.1.G, .int .i64 u4.1.B, .int .i64 u4.1.A]⟩, .bool u4.2]⟩) (cR06_Unpack K (getR a0.L (IntKind.i64.wrap (IntKind.i64.wrap (u1 * a0.W) + u2)).toNat)) (by kernel_rfl) (fun u4 hu4 =>
    L.ret _ mixed Tryz.func68 _ (by kernel_rfl) rfl))))
/-! ### 70 -/
abbrev ER14_mixed : Int → Value := fun r => .int .i64 r
def FR14_mixed (K : Nat) (a0 : Int) (a1 : Int) (a2 : Int) (a3 : Int) (a4 : Int) (a5 : Int) : Option Int :=
  some (IntKind.i64.wrap ((IntKind.i64.wrap (IntKind.i64.wrap (IntKind.i64.wrap (IntKind.i64.wrap (IntKind.i64.wrap (IntKind.i64.wrap (a0 * IntKind.i64.wrap (256 - a4)) * IntKind.i64.wrap (256 - a5)) + IntKind.i64.wrap (IntKind.i64.wrap (a1 * a4) * IntKind.i64.wrap (256 - a5))) + IntKind.i64.wrap (IntKind.i64.wrap (a2 * IntKind.i64.wrap (256 - a4)) * a5)) + IntKind.i64.wrap (IntKind.i64.wrap (a3 * a4) * a5)) + 32768)).tdiv 65536))
theorem cR14_mixed (K : Nat) (a0 : Int) (a1 : Int) (a2 : Int) (a3 : Int) (a4 : Int) (a5 : Int) : ∀ r, FR14_mixed K a0 a1 a2 a3 a4 a5 = some r → Con Tryz.prog 70 [.int .i64 a0, .int .i64 a1, .int .i64 a2, .int .i64 a3, .int .i64 a4, .int .i64 a5] (ER14_mixed r) := by
  refine Con.lift Tryz.func70 (by kernel_rfl) rfl (fun _ => rfl) ?_
  unfold FR14_mixed
  exact
    L.ret _ mixed Tryz.func70 _ (by kernel_rfl) rfl
/-! ### 26 -/
abbrev ER14_Sample : TColor → Value := fun r => .agg ⟨[.int .i64 r.R, .int .i64 r.G, .int .i64 r.B, .int .i64 r.A]⟩
def FR14_Sample (K : Nat) (a0 : TTex) (a1 : Int) (a2 : Int) (a3 : Int) (a4 : Bool) : Option TColor :=
  bif !a4 then
    (FR01_Floor K a1 256).bind fun u2 =>
    (FR01_Floor K a2 256).bind fun u3 =>
    (FR14_At K a0 u2 u3 a3).bind fun u4 =>
    some u4
  else
    (FR01_Floor K (IntKind.i64.wrap (a1 - 128)) 256).bind fun u5 =>
    (FR01_Floor K (IntKind.i64.wrap (a2 - 128)) 256).bind fun u6 =>
    (FR14_At K a0 u5 u6 a3).bind fun u7 =>
    (FR14_At K a0 (IntKind.i64.wrap (u5 + 1)) u6 a3).bind fun u8 =>
    (FR14_At K a0 u5 (IntKind.i64.wrap (u6 + 1)) a3).bind fun u9 =>
    (FR14_At K a0 (IntKind.i64.wrap (u5 + 1)) (IntKind.i64.wrap (u6 + 1)) a3).bind fun u10 =>
    (FR14_mixed K u7.R u8.R u9.R u10.R (IntKind.i64.wrap (IntKind.i64.wrap (a1 - 128) - IntKind.i64.wrap (256 * u5))) (IntKind.i64.wrap (IntKind.i64.wrap (a2 - 128) - IntKind.i64.wrap (256 * u6)))).bind fun u11 =>
    (FR14_mixed K u7.G u8.G u9.G u10.G (IntKind.i64.wrap (IntKind.i64.wrap (a1 - 128) - IntKind.i64.wrap (256 * u5))) (IntKind.i64.wrap (IntKind.i64.wrap (a2 - 128) - IntKind.i64.wrap (256 * u6)))).bind fun u12 =>
    (FR14_mixed K u7.B u8.B u9.B u10.B (IntKind.i64.wrap (IntKind.i64.wrap (a1 - 128) - IntKind.i64.wrap (256 * u5))) (IntKind.i64.wrap (IntKind.i64.wrap (a2 - 128) - IntKind.i64.wrap (256 * u6)))).bind fun u13 =>
    (FR14_mixed K u7.A u8.A u9.A u10.A (IntKind.i64.wrap (IntKind.i64.wrap (a1 - 128) - IntKind.i64.wrap (256 * u5))) (IntKind.i64.wrap (IntKind.i64.wrap (a2 - 128) - IntKind.i64.wrap (256 * u6)))).bind fun u14 =>
    some ((⟨u11, u12, u13, u14⟩ : TColor))
theorem cR14_Sample (K : Nat) (a0 : TTex) (a1 : Int) (a2 : Int) (a3 : Int) (a4 : Bool) : ∀ r, FR14_Sample K a0 a1 a2 a3 a4 = some r → Con Tryz.prog 26 [.agg ⟨[.int .i64 a0.W, .int .i64 a0.H, lst a0.L]⟩, .int .i64 a1, .int .i64 a2, .int .i64 a3, .bool a4] (ER14_Sample r) := by
  refine Con.lift Tryz.func26 (by kernel_rfl) rfl (fun _ => rfl) ?_
  unfold FR14_Sample
  exact
    L.br mixed 11 _ (by kernel_rfl)
      (fun h1 =>
      L.callO mixed (fun u2 : Int => .int .i64 u2) (cR01_Floor K a1 256) (by kernel_rfl) (fun u2 hu2 =>
      L.callO mixed (fun u3 : Int => .int .i64 u3) (cR01_Floor K a2 256) (by kernel_rfl) (fun u3 hu3 =>
      L.callO mixed (fun u4 : TColor => .agg ⟨[.int .i64 u4.R, .int .i64 u4.G, .int .i64 u4.B, .int .i64 u4.A]⟩) (cR14_At K a0 u2 u3 a3) (by kernel_rfl) (fun u4 hu4 =>
      L.ret _ mixed Tryz.func26 _ (by kernel_rfl) rfl))))
      (fun h1 =>
      L.callO mixed (fun u5 : Int => .int .i64 u5) (cR01_Floor K (IntKind.i64.wrap (a1 - 128)) 256) (by kernel_rfl) (fun u5 hu5 =>
      L.callO mixed (fun u6 : Int => .int .i64 u6) (cR01_Floor K (IntKind.i64.wrap (a2 - 128)) 256) (by kernel_rfl) (fun u6 hu6 =>
      L.callO mixed (fun u7 : TColor => .agg ⟨[.int .i64 u7.R, .int .i64 u7.G, .int .i64 u7.B, .int .i64 u7.A]⟩) (cR14_At K a0 u5 u6 a3) (by kernel_rfl) (fun u7 hu7 =>
      L.callO mixed (fun u8 : TColor => .agg ⟨[.int .i64 u8.R, .int .i64 u8.G, .int .i64 u8.B, .int .i64 u8.A]⟩) (cR14_At K a0 (IntKind.i64.wrap (u5 + 1)) u6 a3) (by kernel_rfl) (fun u8 hu8 =>
      L.callO mixed (fun u9 : TColor => .agg ⟨[.int .i64 u9.R, .int .i64 u9.G, .int .i64 u9.B, .int .i64 u9.A]⟩) (cR14_At K a0 u5 (IntKind.i64.wrap (u6 + 1)) a3) (by kernel_rfl) (fun u9 hu9 =>
      L.callO mixed (fun u10 : TColor => .agg ⟨[.int .i64 u10.R, .int .i64 u10.G, .int .i64 u10.B, .int .i64 u10.A]⟩) (cR14_At K a0 (IntKind.i64.wrap (u5 + 1)) (IntKind.i64.wrap (u6 + 1)) a3) (by kernel_rfl) (fun u10 hu10 =>
      L.callO mixed (fun u11 : Int => .int .i64 u11) (cR14_mixed K u7.R u8.R u9.R u10.R (IntKind.i64.wrap (IntKind.i64.wrap (a1 - 128) - IntKind.i64.wrap (256 * u5))) (IntKind.i64.wrap (IntKind.i64.wrap (a2 - 128) - IntKind.i64.wrap (256 * u6)))) (by kernel_rfl) (fun u11 hu11 =>
      L.callO mixed (fun u12 : Int => .int .i64 u12) (cR14_mixed K u7.G u8.G u9.G u10.G (IntKind.i64.wrap (IntKind.i64.wrap (a1 - 128) - IntKind.i64.wrap (256 * u5))) (IntKind.i64.wrap (IntKind.i64.wrap (a2 - 128) - IntKind.i64.wrap (256 * u6)))) (by kernel_rfl) (fun u12 hu12 =>
      L.callO mixed (fun u13 : Int => .int .i64 u13) (cR14_mixed K u7.B u8.B u9.B u10.B (IntKind.i64.wrap (IntKind.i64.wrap (a1 - 128) - IntKind.i64.wrap (256 * u5))) (IntKind.i64.wrap (IntKind.i64.wrap (a2 - 128) - IntKind.i64.wrap (256 * u6)))) (by kernel_rfl) (fun u13 hu13 =>
      L.callO mixed (fun u14 : Int => .int .i64 u14) (cR14_mixed K u7.A u8.A u9.A u10.A (IntKind.i64.wrap (IntKind.i64.wrap (a1 - 128) - IntKind.i64.wrap (256 * u5))) (IntKind.i64.wrap (IntKind.i64.wrap (a2 - 128) - IntKind.i64.wrap (256 * u6)))) (by kernel_rfl) (fun u14 hu14 =>
      L.ret _ mixed Tryz.func26 _ (by kernel_rfl) rfl)))))))))))
/-! ### 8 -/
abbrev ER19_Of : TFrag × Bool → Value := fun r => .tuple ⟨[.agg ⟨[.int .i64 r.1.C.R, .int .i64 r.1.C.G, .int .i64 r.1.C.B, .int .i64 r.1.C.A, .int .i64 r.1.Z]⟩, .bool r.2]⟩
def FR19_Of (K : Nat) (a0 : TTri) (a1 : TState) (a2 : TTex) (a3 : Int) (a4 : Int) : Option (TFrag × Bool) :=
  (FR17_Has K a0 a3 a4).bind fun u1 =>
  bif !u1 then
    some (((⟨(⟨0, 0, 0, 0⟩ : TColor), 0⟩ : TFrag), false))
  else
    (FR17_At K a0 a3 a4).bind fun u3 =>
    (FR06_Of K u3.snd).bind fun u4 =>
    bif (decide (a1.Tex > 0)) then
      (FR14_Check K a2).bind fun u6 =>
      bif (bif true then u6 == 0 else false) then
        bif (bif true then decide (a1.Wrap ≥ 0) else false) then
          bif (bif true then decide (a1.Wrap ≤ 2) else false) then
            (FR01_Sat K u3.snd.e4 (-65536) 65536).bind fun u10 =>
            (FR01_Sat K u3.snd.e5 (-65536) 65536).bind fun u11 =>
            (FR14_Sample K a2 u10 u11 a1.Wrap a1.Soft).bind fun u12 =>
            (FR06_Tinted K u4 u12).bind fun u13 =>
            some (((⟨u13, u3.fst⟩ : TFrag), true))
          else
            some (((⟨u4, u3.fst⟩ : TFrag), true))
        else
          some (((⟨u4, u3.fst⟩ : TFrag), true))
      else
        some (((⟨u4, u3.fst⟩ : TFrag), true))
    else
      some (((⟨u4, u3.fst⟩ : TFrag), true))
theorem cR19_Of (K : Nat) (a0 : TTri) (a1 : TState) (a2 : TTex) (a3 : Int) (a4 : Int) : ∀ r, FR19_Of K a0 a1 a2 a3 a4 = some r → Con Tryz.prog 8 [.agg ⟨[.int .i64 a0.S.e0.P.X, .int .i64 a0.S.e0.P.Y, .int .i64 a0.S.e0.Z, .int .i64 a0.S.e0.A.e0, .int .i64 a0.S.e0.A.e1, .int .i64 a0.S.e0.A.e2, .int .i64 a0.S.e0.A.e3, .int .i64 a0.S.e0.A.e4, .int .i64 a0.S.e0.A.e5, .int .i64 a0.S.e1.P.X, .int .i64 a0.S.e1.P.Y, .int .i64 a0.S.e1.Z, .int .i64 a0.S.e1.A.e0, .int .i64 a0.S.e1.A.e1, .int .i64 a0.S.e1.A.e2, .int .i64 a0.S.e1.A.e3, .int .i64 a0.S.e1.A.e4, .int .i64 a0.S.e1.A.e5, .int .i64 a0.S.e2.P.X, .int .i64 a0.S.e2.P.Y, .int .i64 a0.S.e2.Z, .int .i64 a0.S.e2.A.e0, .int .i64 a0.S.e2.A.e1, .int .i64 a0.S.e2.A.e2, .int .i64 a0.S.e2.A.e3, .int .i64 a0.S.e2.A.e4, .int .i64 a0.S.e2.A.e5, .int .i64 a0.Area, .int .i64 a0.Box.X0, .int .i64 a0.Box.Y0, .int .i64 a0.Box.X1, .int .i64 a0.Box.Y1]⟩, .agg ⟨[.int .i64 a1.M.e0, .int .i64 a1.M.e1, .int .i64 a1.M.e2, .int .i64 a1.M.e3, .int .i64 a1.M.e4, .int .i64 a1.M.e5, .int .i64 a1.M.e6, .int .i64 a1.M.e7, .int .i64 a1.M.e8, .int .i64 a1.M.e9, .int .i64 a1.M.e10, .int .i64 a1.M.e11, .int .i64 a1.M.e12, .int .i64 a1.M.e13, .int .i64 a1.M.e14, .int .i64 a1.M.e15, .int .i64 a1.View.X0, .int .i64 a1.View.Y0, .int .i64 a1.View.X1, .int .i64 a1.View.Y1, .int .i64 a1.Sciss.X0, .int .i64 a1.Sciss.Y0, .int .i64 a1.Sciss.X1, .int .i64 a1.Sciss.Y1, .int .i64 a1.DFn, .bool a1.DPut, .int .i64 a1.St.Fn, .int .i64 a1.St.Ref, .int .i64 a1.St.Read, .int .i64 a1.St.Write, .int .i64 a1.St.Fail, .int .i64 a1.St.ZFail, .int .i64 a1.St.Pass, .int .i64 a1.Bl.Src, .int .i64 a1.Bl.Dst, .int .i64 a1.Bl.Eq, .int .i64 a1.Bl.Mask, .int .i64 a1.Cull, .int .i64 a1.Tex, .int .i64 a1.Wrap, .bool a1.Soft]⟩, .agg ⟨[.int .i64 a2.W, .int .i64 a2.H, lst a2.L]⟩, .int .i64 a3, .int .i64 a4] (ER19_Of r) := by
  refine Con.lift Tryz.func8 (by kernel_rfl) rfl (fun _ => rfl) ?_
  unfold FR19_Of
  exact
    L.callO mixed (fun u1 : Bool => .bool u1) (cR17_Has K a0 a3 a4) (by kernel_rfl) (fun u1 hu1 =>
    L.br mixed 2 _ (by kernel_rfl)
      (fun h2 =>
      L.ret _ mixed Tryz.func8 _ (by kernel_rfl) rfl)
      (fun h2 =>
      L.callO mixed (fun u3 : Int × A6I => .tuple ⟨[.int .i64 u3.1, .agg ⟨[.int .i64 u3.2.e0, .int .i64 u3.2.e1, .int .i64 u3.2.e2, .int .i64 u3.2.e3, .int .i64 u3.2.e4, .int .i64 u3.2.e5]⟩]⟩) (cR17_At K a0 a3 a4) (by kernel_rfl) (fun u3 hu3 =>
      L.callO mixed (fun u4 : TColor => .agg ⟨[.int .i64 u4.R, .int .i64 u4.G, .int .i64 u4.B, .int .i64 u4.A]⟩) (cR06_Of K u3.snd) (by kernel_rfl) (fun u4 hu4 =>
      L.gu mixed 10 _ (by kernel_rfl)
        (fun h5 =>
        L.callO mixed (fun u6 : Int => .int .i64 u6) (cR14_Check K a2) (by kernel_rfl) (fun u6 hu6 =>
        L.gu mixed 3 _ (by kernel_rfl)
          (fun h7 =>
          L.gu mixed 5 _ (by kernel_rfl)
            (fun h8 =>
            L.br mixed 5 _ (by kernel_rfl)
              (fun h9 =>
              L.callO mixed (fun u10 : Int => .int .i64 u10) (cR01_Sat K u3.snd.e4 (-65536) 65536) (by kernel_rfl) (fun u10 hu10 =>
              L.callO mixed (fun u11 : Int => .int .i64 u11) (cR01_Sat K u3.snd.e5 (-65536) 65536) (by kernel_rfl) (fun u11 hu11 =>
              L.callO mixed (fun u12 : TColor => .agg ⟨[.int .i64 u12.R, .int .i64 u12.G, .int .i64 u12.B, .int .i64 u12.A]⟩) (cR14_Sample K a2 u10 u11 a1.Wrap a1.Soft) (by kernel_rfl) (fun u12 hu12 =>
              L.callO mixed (fun u13 : TColor => .agg ⟨[.int .i64 u13.R, .int .i64 u13.G, .int .i64 u13.B, .int .i64 u13.A]⟩) (cR06_Tinted K u4 u12) (by kernel_rfl) (fun u13 hu13 =>
              L.ret _ mixed Tryz.func8 _ (by kernel_rfl) rfl)))))
              (fun h9 =>
              L.ret _ mixed Tryz.func8 _ (by kernel_rfl) rfl))
            (fun h8 =>
            L.ret _ mixed Tryz.func8 _ (by kernel_rfl) rfl))
          (fun h7 =>
          L.ret _ mixed Tryz.func8 _ (by kernel_rfl) rfl)))
        (fun h5 =>
        L.ret _ mixed Tryz.func8 _ (by kernel_rfl) rfl)))))
/-! ### 29 -/
abbrev ER19_Deep : Bool → Value := fun r => .bool r
def FR19_Deep (K : Nat) (a0 : Int) : Option Bool :=
  bif (decide (a0 ≥ 0)) then
    some (bif true then decide (a0 ≤ 65535) else false)
  else
    some false
theorem cR19_Deep (K : Nat) (a0 : Int) : ∀ r, FR19_Deep K a0 = some r → Con Tryz.prog 29 [.int .i64 a0] (ER19_Deep r) := by
  refine Con.lift Tryz.func29 (by kernel_rfl) rfl (fun _ => rfl) ?_
  unfold FR19_Deep
  exact
    L.gu mixed 9 _ (by kernel_rfl)
      (fun h1 =>
      L.ret _ mixed Tryz.func29 _ (by kernel_rfl) rfl)
      (fun h1 =>
      L.ret _ mixed Tryz.func29 _ (by kernel_rfl) rfl)
/-! ### 9 -/
abbrev ER19_May : Bool → Value := fun r => .bool r
def FR19_May (K : Nat) (a0 : TFrag) : Option Bool :=
  bif (Ftint a0.C) then
    (FR19_Deep K a0.Z).bind fun u2 =>
    some (bif true then u2 else false)
  else
    some false
theorem cR19_May (K : Nat) (a0 : TFrag) : ∀ r, FR19_May K a0 = some r → Con Tryz.prog 9 [.agg ⟨[.int .i64 a0.C.R, .int .i64 a0.C.G, .int .i64 a0.C.B, .int .i64 a0.C.A, .int .i64 a0.Z]⟩] (ER19_May r) := by
  refine Con.lift Tryz.func9 (by kernel_rfl) rfl (fun _ => rfl) ?_
  unfold FR19_May
  exact
    L.call mixed (kRtint a0.C) (by kernel_rfl) <|
    L.gu mixed 1 _ (by kernel_rfl)
      (fun h1 =>
      L.callO mixed (fun u2 : Bool => .bool u2) (cR19_Deep K a0.Z) (by kernel_rfl) (fun u2 hu2 =>
      L.ret _ mixed Tryz.func9 _ (by kernel_rfl) rfl))
      (fun h1 =>
      L.ret _ mixed Tryz.func9 _ (by kernel_rfl) rfl)
/-! ### 3 -/
abbrev EL19_FragOf : Bool → Value := fun r => .bool r
def FL19_FragOf (K : Nat) (a0 : A3TSpot) (a1 : TTemperalaw19Look) : Option Bool :=
  bif (!Fmays a0.e0) then
    some Fawake
  else
    bif (bif false then true else !Fmays a0.e1) then
      some Fawake
    else
      bif (bif false then true else !Fmays a0.e2) then
        some Fawake
      else
        bif (bif false then true else decide ((↑a1.Img.L.length : Int) > 5000)) then
          some Fawake
        else
          (Ftri_Setup K a0 0).bind fun u5 =>
          bif (u5.snd.snd != 0) then
            bif (u5.snd.snd == 0) then
              some (bif true then Fawake else false)
            else
              some false
          else
            bif (bif false then true else !u5.snd.fst) then
              bif (u5.snd.snd == 0) then
                some (bif true then Fawake else false)
              else
                some false
            else
              (Ffrag_Of K u5.fst ((⟨(⟨0, 0, 0, 0, 0, 0, 0, 0, 0, 0, 0, 0, 0, 0, 0, 0⟩ : TMat), (⟨0, 0, 0, 0⟩ : TRect), (⟨0, 0, 0, 0⟩ : TRect), 0, false, (⟨0, 0, 0, 0, 0, 0, 0⟩ : TSten), (⟨0, 0, 0, 0⟩ : TBlend), 0, a1.Tex, a1.Wrap, a1.Soft⟩ : TState)) a1.Img a1.X a1.Y).bind fun u10 =>
              (FR19_Of K u5.fst ((⟨(⟨0, 0, 0, 0, 0, 0, 0, 0, 0, 0, 0, 0, 0, 0, 0, 0⟩ : TMat), (⟨0, 0, 0, 0⟩ : TRect), (⟨0, 0, 0, 0⟩ : TRect), 0, false, (⟨0, 0, 0, 0, 0, 0, 0⟩ : TSten), (⟨0, 0, 0, 0⟩ : TBlend), 0, a1.Tex, a1.Wrap, a1.Soft⟩ : TState)) a1.Img a1.X a1.Y).bind fun u11 =>
              bif (bif false then !(u10.fst.C.R == u11.fst.C.R && (u10.fst.C.G == u11.fst.C.G && (u10.fst.C.B == u11.fst.C.B && (u10.fst.C.A == u11.fst.C.A && true))) && (u10.fst.Z == u11.fst.Z && true)) else u10.fst.C.R == u11.fst.C.R && (u10.fst.C.G == u11.fst.C.G && (u10.fst.C.B == u11.fst.C.B && (u10.fst.C.A == u11.fst.C.A && true))) && (u10.fst.Z == u11.fst.Z && true)) then
                bif (bif true then u10.snd == u11.snd else false) then
                  (FR19_May K u10.fst).bind fun u14 =>
                  bif (bif true then u14 else false) then
                    some (bif true then Fawake else false)
                  else
                    some false
                else
                  some false
              else
                some false
theorem cL19_FragOf (K : Nat) (a0 : A3TSpot) (a1 : TTemperalaw19Look) : ∀ r, FL19_FragOf K a0 a1 = some r → Con Tryz.prog 3 [.agg ⟨[.int .i64 a0.e0.P.X, .int .i64 a0.e0.P.Y, .int .i64 a0.e0.Z, .int .i64 a0.e0.A.e0, .int .i64 a0.e0.A.e1, .int .i64 a0.e0.A.e2, .int .i64 a0.e0.A.e3, .int .i64 a0.e0.A.e4, .int .i64 a0.e0.A.e5, .int .i64 a0.e1.P.X, .int .i64 a0.e1.P.Y, .int .i64 a0.e1.Z, .int .i64 a0.e1.A.e0, .int .i64 a0.e1.A.e1, .int .i64 a0.e1.A.e2, .int .i64 a0.e1.A.e3, .int .i64 a0.e1.A.e4, .int .i64 a0.e1.A.e5, .int .i64 a0.e2.P.X, .int .i64 a0.e2.P.Y, .int .i64 a0.e2.Z, .int .i64 a0.e2.A.e0, .int .i64 a0.e2.A.e1, .int .i64 a0.e2.A.e2, .int .i64 a0.e2.A.e3, .int .i64 a0.e2.A.e4, .int .i64 a0.e2.A.e5]⟩, .agg ⟨[.int .i64 a1.Tex, .int .i64 a1.Wrap, .bool a1.Soft, .int .i64 a1.Img.W, .int .i64 a1.Img.H, lst a1.Img.L, .int .i64 a1.X, .int .i64 a1.Y]⟩] (EL19_FragOf r) := by
  refine Con.lift Tryz.func3 (by kernel_rfl) rfl (fun _ => rfl) ?_
  unfold FL19_FragOf
  exact
    L.call mixed (kRmays a0.e0) (by kernel_rfl) <|
    L.gu mixed 2 _ (by kernel_rfl)
      (fun h1 =>
      L.call mixed (kawake) (by kernel_rfl) <|
      L.ret _ mixed Tryz.func3 _ (by kernel_rfl) rfl)
      (fun h1 =>
      L.call mixed (kRmays a0.e1) (by kernel_rfl) <|
      L.gu mixed 3 _ (by kernel_rfl)
        (fun h2 =>
        L.call mixed (kawake) (by kernel_rfl) <|
        L.ret _ mixed Tryz.func3 _ (by kernel_rfl) rfl)
        (fun h2 =>
        L.call mixed (kRmays a0.e2) (by kernel_rfl) <|
        L.gu mixed 3 _ (by kernel_rfl)
          (fun h3 =>
          L.call mixed (kawake) (by kernel_rfl) <|
          L.ret _ mixed Tryz.func3 _ (by kernel_rfl) rfl)
          (fun h3 =>
          L.br mixed 7 _ (by kernel_rfl)
            (fun h4 =>
            L.call mixed (kawake) (by kernel_rfl) <|
            L.ret _ mixed Tryz.func3 _ (by kernel_rfl) rfl)
            (fun h4 =>
            L.callO mixed (fun u5 : TTri × Bool × Int => .tuple ⟨[.agg ⟨[.int .i64 u5.1.S.e0.P.X, .int .i64 u5.1.S.e0.P.Y, .int .i64 u5.1.S.e0.Z, .int .i64 u5.1.S.e0.A.e0, .int .i64 u5.1.S.e0.A.e1, .int .i64 u5.1.S.e0.A.e2, .int .i64 u5.1.S.e0.A.e3, .int .i64 u5.1.S.e0.A.e4, .int .i64 u5.1.S.e0.A.e5, .int .i64 u5.1.S.e1.P.X, .int .i64 u5.1.S.e1.P.Y, .int .i64 u5.1.S.e1.Z, .int .i64 u5.1.S.e1.A.e0, .int .i64 u5.1.S.e1.A.e1, .int .i64 u5.1.S.e1.A.e2, .int .i64 u5.1.S.e1.A.e3, .int .i64 u5.1.S.e1.A.e4, .int .i64 u5.1.S.e1.A.e5, .int .i64 u5.1.S.e2.P.X, .int .i64 u5.1.S.e2.P.Y, .int .i64 u5.1.S.e2.Z, .int .i64 u5.1.S.e2.A.e0, .int .i64 u5.1.S.e2.A.e1, .int .i64 u5.1.S.e2.A.e2, .int .i64 u5.1.S.e2.A.e3, .int .i64 u5.1.S.e2.A.e4, .int .i64 u5.1.S.e2.A.e5, .int .i64 u5.1.Area, .int .i64 u5.1.Box.X0, .int .i64 u5.1.Box.Y0, .int .i64 u5.1.Box.X1, .int .i64 u5.1.Box.Y1]⟩, .bool u5.2.1, .int .i64 u5.2.2]⟩) (ctri_Setup K a0 0) (by kernel_rfl) (fun u5 hu5 =>
            L.gu mixed 15 _ (by kernel_rfl)
              (fun h6 =>
              L.gu mixed 10 _ (by kernel_rfl)
                (fun h7 =>
                L.call mixed (kawake) (by kernel_rfl) <|
                L.ret _ mixed Tryz.func3 _ (by kernel_rfl) rfl)
                (fun h7 =>
                L.ret _ mixed Tryz.func3 _ (by kernel_rfl) rfl))
              (fun h6 =>
              L.br mixed 4 _ (by kernel_rfl)
                (fun h8 =>
                L.gu mixed 5 _ (by kernel_rfl)
                  (fun h9 =>
                  L.call mixed (kawake) (by kernel_rfl) <|
                  L.ret _ mixed Tryz.func3 _ (by kernel_rfl) rfl)
                  (fun h9 =>
                  L.ret _ mixed Tryz.func3 _ (by kernel_rfl) rfl))
                (fun h8 =>
                L.callO mixed (fun u10 : TFrag × Bool => .tuple ⟨[.agg ⟨[.int .i64 u10.1.C.R, .int .i64 u10.1.C.G, .int .i64 u10.1.C.B, .int .i64 u10.1.C.A, .int .i64 u10.1.Z]⟩, .bool u10.2]⟩) (cfrag_Of K u5.fst ((⟨(⟨0, 0, 0, 0, 0, 0, 0, 0, 0, 0, 0, 0, 0, 0, 0, 0⟩ : TMat), (⟨0, 0, 0, 0⟩ : TRect), (⟨0, 0, 0, 0⟩ : TRect), 0, false, (⟨0, 0, 0, 0, 0, 0, 0⟩ : TSten), (⟨0, 0, 0, 0⟩ : TBlend), 0, a1.Tex, a1.Wrap, a1.Soft⟩ : TState)) a1.Img a1.X a1.Y) (by kernel_rfl) (fun u10 hu10 =>
                L.callO mixed (fun u11 : TFrag × Bool => .tuple ⟨[.agg ⟨[.int .i64 u11.1.C.R, .int .i64 u11.1.C.G, .int .i64 u11.1.C.B, .int .i64 u11.1.C.A, .int .i64 u11.1.Z]⟩, .bool u11.2]⟩) (cR19_Of K u5.fst ((⟨(⟨0, 0, 0, 0, 0, 0, 0, 0, 0, 0, 0, 0, 0, 0, 0, 0⟩ : TMat), (⟨0, 0, 0, 0⟩ : TRect), (⟨0, 0, 0, 0⟩ : TRect), 0, false, (⟨0, 0, 0, 0, 0, 0, 0⟩ : TSten), (⟨0, 0, 0, 0⟩ : TBlend), 0, a1.Tex, a1.Wrap, a1.Soft⟩ : TState)) a1.Img a1.X a1.Y) (by kernel_rfl) (fun u11 hu11 =>
                L.gu mixed 13 _ (by kernel_rfl)
                  (fun h12 =>
                  L.gu mixed 5 _ (by kernel_rfl)
                    (fun h13 =>
                    L.callO mixed (fun u14 : Bool => .bool u14) (cR19_May K u10.fst) (by kernel_rfl) (fun u14 hu14 =>
                    L.gu mixed 2 _ (by kernel_rfl)
                      (fun h15 =>
                      L.call mixed (kawake) (by kernel_rfl) <|
                      L.ret _ mixed Tryz.func3 _ (by kernel_rfl) rfl)
                      (fun h15 =>
                      L.ret _ mixed Tryz.func3 _ (by kernel_rfl) rfl)))
                    (fun h13 =>
                    L.ret _ mixed Tryz.func3 _ (by kernel_rfl) rfl))
                  (fun h12 =>
                  L.ret _ mixed Tryz.func3 _ (by kernel_rfl) rfl))))))))))

end

section
open Go Go.Dt Go.Proofs Go.Proofs.YtfkmhhbpomkakaaGreat.Wide
set_option linter.unusedVariables false
set_option linter.unusedSimpArgs false

/-! ### Quotients and products -/
theorem mulB {m x M X : Int} (h1 : -M ≤ m) (h2 : m ≤ M) (h3 : -X ≤ x) (h4 : x ≤ X) : -(M * X) ≤ m * x ∧ m * x ≤ M * X := by
  have hM : 0 ≤ M := by omega
  have hX : 0 ≤ X := by omega
  have a : (m * x).natAbs ≤ (M * X).natAbs := by
    rw [Int.natAbs_mul, Int.natAbs_mul]; exact Nat.mul_le_mul (by omega) (by omega)
  have b : 0 ≤ M * X := Int.mul_nonneg hM hX
  generalize m * x = p at *
  generalize M * X = q at *
  omega
section
variable {a b : Int} (a1 : -2305843009213693952 ≤ a) (a2 : a ≤ 2305843009213693952) (hb : 0 < b)
include a1 a2 hb
theorem fl_facts : IntKind.i64.wrap (a.tdiv b) = a.tdiv b ∧ IntKind.i64.wrap (a - IntKind.i64.wrap (IntKind.i64.wrap (a.tdiv b) * b)) = a.tmod b ∧ IntKind.i64.wrap (a.tdiv b - 1) = a.tdiv b - 1 := by
  obtain ⟨e, h1, h2⟩ := Bary.tdiv_parts (a := a) hb
  have ht := Int.natAbs_tdiv_le_natAbs a b
  have w1 : IntKind.i64.wrap (a.tdiv b) = a.tdiv b := wrap_i64_of (by omega) (by omega)
  have hq : -2305843009213693952 ≤ a.tdiv b * b ∧ a.tdiv b * b ≤ 2305843009213693952 := by
    rcases Int.lt_or_le a 0 with h | h
    · have := h2 h
      have h4 : 0 ≤ (-a).tdiv b := Int.tdiv_nonneg (by omega) (by omega)
      rw [Int.neg_tdiv] at h4
      have h5 := Int.mul_nonneg h4 (show 0 ≤ b by omega)
      rw [Int.neg_mul] at h5
      omega
    · have := h1 h
      have h4 : 0 ≤ a.tdiv b := Int.tdiv_nonneg h (by omega)
      have h5 := Int.mul_nonneg h4 (show 0 ≤ b by omega)
      omega
  refine ⟨w1, ?_, wrap_i64_of (by omega) (by omega)⟩
  rw [w1, wrap_i64_of (n := a.tdiv b * b) (by omega) (by omega), wrap_i64_of (by omega) (by omega)]
  omega
theorem FR01_Floor_eq (K : Nat) : FR01_Floor K a b = some (a / b) := by
  obtain ⟨w1, w2, w3⟩ := fl_facts a1 a2 hb
  have e2 : (a == -9223372036854775808) = false := beq_eq_false_iff_ne.2 (by omega)
  have e3 : (b != 0) = true := bne_iff_ne.2 (by omega)
  have e4 : decide (b > 0) = true := decide_eq_true hb
  have e5 : decide (b < 0) = false := decide_eq_false (by omega)
  unfold FR01_Floor
  rw [Bary.floor_tdiv hb]
  simp only [e2, e3, e4, e5, cond_true, cond_false, w2]
  simp only [w1, w3]
  rcases Int.lt_or_le (a.tmod b) 0 with h | h
  · rw [if_pos h, decide_eq_true h, cond_true]
  · rw [if_neg (by omega), decide_eq_false (show ¬ a.tmod b < 0 by omega), cond_false]
    cases decide (a.tmod b > 0) <;> rfl
end

/-! ### Remainders -/
theorem and255 (n : Int) : IntKind.i64.wrap ((BitVec.ofInt 64 n &&& BitVec.ofInt 64 255).toNat : Int) = n % 256 := by
  have h1 : (BitVec.ofInt 64 n &&& BitVec.ofInt 64 255).toNat = (n % 18446744073709551616).toNat % 256 := by
    rw [BitVec.toNat_and, BitVec.toNat_ofInt, BitVec.toNat_ofInt]
    have e : ((255 : Int) % ((2 ^ 64 : Nat) : Int)).toNat = 2 ^ 8 - 1 := by decide
    rw [e, Nat.and_two_pow_sub_one_eq_mod]
    rfl
  rw [h1, wrap_i64_of (by omega) (by omega)]
  omega
theorem rem_eq {n s : Int} (hs : 0 < s) : (if n.tmod s < 0 then n.tmod s + s else n.tmod s) = n % s := by
  obtain ⟨e, h1, h2⟩ := Bary.tdiv_parts (a := n) hs
  have f := Bary.floor_tdiv (a := n) hs
  rw [Int.emod_def, f]
  split
  · rw [Int.mul_sub, Int.mul_comm s, Int.mul_one]; omega
  · rw [Int.mul_comm s]; omega
/-! ### Triangles set up -/
def swp (q : A3TSpot) : A3TSpot := ⟨q.e0, q.e2, q.e1⟩
def sideQ (q : A3TSpot) : Int := Fside q.e0.P q.e1.P q.e2.P
def zT : TTri := ⟨⟨⟨⟨0, 0⟩, 0, ⟨0, 0, 0, 0, 0, 0⟩⟩, ⟨⟨0, 0⟩, 0, ⟨0, 0, 0, 0, 0, 0⟩⟩, ⟨⟨0, 0⟩, 0, ⟨0, 0, 0, 0, 0, 0⟩⟩⟩, 0, ⟨0, 0, 0, 0⟩⟩
def setV (q : A3TSpot) (cu : Int) : TTri × Bool :=
  if sideQ q = 0 then (zT, false) else if sideQ q < 0 then (if cu = 1 then (zT, false) else (⟨swp q, IntKind.i64.wrap (0 - sideQ q), Vbox (swp q)⟩, true)) else (if cu = 2 then (zT, false) else (⟨q, sideQ q, Vbox q⟩, true))
def maysQ (q : A3TSpot) : Prop := Fmays q.e0 = true ∧ Fmays q.e1 = true ∧ Fmays q.e2 = true
theorem mays_okP {s : TSpot} (h : Fmays s = true) : Bary.okP s.P.X s.P.Y = true := (of_decide_eq_true h).1
section
variable {q : A3TSpot} (hq : maysQ q)
include hq
theorem okbox : Okbox q = true ∧ Okbox (swp q) = true := by
  have h0 := mays_okP hq.1
  have h1 := mays_okP hq.2.1
  have h2 := mays_okP hq.2.2
  unfold Okbox swp
  simp only [h0, h1, h2, Bool.and_self, and_self]
theorem fbox (K : Nat) : Fbox K q = some (Vbox q) ∧ Fbox K (swp q) = some (Vbox (swp q)) := by
  obtain ⟨h1, h2⟩ := okbox hq
  unfold Fbox
  rw [h1, h2]
  exact ⟨rfl, rfl⟩
theorem fedge : Fedge q.e0.P q.e1.P q.e2.P = (sideQ q, 0) := by
  have h0 := mays_okP hq.1
  have h1 := mays_okP hq.2.1
  have h2 := mays_okP hq.2.2
  have e : Bary.ok3 q.e0.P.X q.e0.P.Y q.e1.P.X q.e1.P.Y q.e2.P.X q.e2.P.Y = true := by
    unfold Bary.ok3
    rw [h0, h1, h2]; rfl
  unfold Fedge
  rw [e]; rfl
theorem Ftri_Setup_eq {cu : Int} (h1 : 0 ≤ cu) (h2 : cu ≤ 2) (K : Nat) : Ftri_Setup K q cu = some ((setV q cu).1, (setV q cu).2, 0) := by
  have e1 : decide (cu < 0) = false := decide_eq_false (by omega)
  have e2 : decide (cu > 2) = false := decide_eq_false (by omega)
  obtain ⟨b1, b2⟩ := fbox hq K
  have b3 : Fbox K (⟨q.e0, q.e2, q.e1⟩ : A3TSpot) = some (Vbox (swp q)) := b2
  have z0 : ((0 : Int) != 0) = false := rfl
  unfold Ftri_Setup setV
  rw [fedge hq]
  simp only [e1, e2, hq.1, hq.2.1, hq.2.2, cond_false, cond_true, Bool.not_true, z0]
  rcases Int.lt_trichotomy (sideQ q) 0 with h | h | h
  · have s1 : (sideQ q == 0) = false := beq_eq_false_iff_ne.2 (by omega)
    have s2 : decide (sideQ q < 0) = true := decide_eq_true h
    have s3 : decide (sideQ q > 0) = false := decide_eq_false (by omega)
    rw [if_neg (by omega), if_pos h]
    simp only [s1, s2, s3, cond_false, cond_true]
    by_cases hc : cu = 1
    · rw [if_pos hc, beq_iff_eq.2 hc]; rfl
    · rw [if_neg hc, beq_eq_false_iff_ne.2 hc]
      simp only [cond_false, b3, Option.bind_some]
      rfl
  · have s1 : (sideQ q == 0) = true := beq_iff_eq.2 h
    rw [if_pos h]
    simp only [s1, cond_true]
    rfl
  · have s1 : (sideQ q == 0) = false := beq_eq_false_iff_ne.2 (by omega)
    have s2 : decide (sideQ q < 0) = false := decide_eq_false (by omega)
    have s3 : decide (sideQ q > 0) = true := decide_eq_true h
    rw [if_neg (by omega), if_neg (by omega)]
    simp only [s1, s2, s3, cond_false, cond_true]
    by_cases hc : cu = 2
    · rw [if_pos hc, beq_iff_eq.2 hc]; rfl
    · rw [if_neg hc, beq_eq_false_iff_ne.2 hc]
      simp only [cond_false, b1, Option.bind_some]
theorem sideQ_eq : sideQ q = Bary.sideI q.e0.P.X q.e0.P.Y q.e1.P.X q.e1.P.Y q.e2.P.X q.e2.P.Y := Bary.sideR_ (mays_okP hq.1) (mays_okP hq.2.1) (mays_okP hq.2.2)
theorem maysQ_swp : maysQ (swp q) := ⟨hq.1, hq.2.2, hq.2.1⟩
theorem sideQ_swp : sideQ (swp q) = -sideQ q ∧ IntKind.i64.wrap (0 - sideQ q) = -sideQ q := by
  have b := Bary.side_bounds (mays_okP hq.1) (mays_okP hq.2.1) (mays_okP hq.2.2)
  rw [sideQ_eq (maysQ_swp hq), sideQ_eq hq]
  refine ⟨?_, by rw [wrap_i64_of (by omega) (by omega)]; omega⟩
  unfold Bary.sideI swp
  simp only
  rw [Int.mul_comm (q.e1.P.X - q.e0.P.X), Int.mul_comm (q.e1.P.Y - q.e0.P.Y)]
  omega
/-- A triangle that is set up is set up to itself. -/
theorem set_again {cu : Int} (h : (setV q cu).2 = true) : maysQ (setV q cu).1.S ∧ setV (setV q cu).1.S 0 = ((setV q cu).1, true) := by
  obtain ⟨s1, s2⟩ := sideQ_swp hq
  unfold setV at h ⊢
  split at h
  · cases h
  · rename_i h0
    rw [if_neg h0]
    split at h
    · rename_i h1
      rw [if_pos h1]
      split at h
      · cases h
      · rename_i h2
        rw [if_neg h2]
        refine ⟨maysQ_swp hq, ?_⟩
        show (if sideQ (swp q) = 0 then _ else _) = _
        rw [s1, if_neg (by omega), if_neg (by omega), if_neg (by decide), s2]
    · rename_i h1
      rw [if_neg h1]
      split at h
      · cases h
      · rename_i h2
        rw [if_neg h2]
        refine ⟨hq, ?_⟩
        show (if sideQ q = 0 then _ else _) = _
        rw [if_neg h0, if_neg h1, if_neg (by decide)]
end

end

end Go.Proofs.YtfkmhhbpomkakaaGreat.Lf
