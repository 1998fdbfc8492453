/- Several texts in one: Ty9, PNa, PNb. -/
import Derived.Test.YtefiememffgohaaQP16
import Derived.Test.YtefiememffgohaaProg
import Derived.Test.YtefiememffgohaaQP19
import Derived.Test.YtefiememffgohaaQP20
import Derived.Test.YtefiememffgohaaQP21
namespace Go.Proofs.Ytefiememffgohaa.Lf

section
open Go Go.Dt
set_option linter.unusedVariables false

theorem mixed : Try.prog.follows .mixedOrders = true := by kernel_rfl
structure TRuntimeboundsError where
  x : Int
  y : Int
  signed : Bool
  code : Int
instance flTRuntimeboundsError : Flat TRuntimeboundsError := ⟨4, fun x => [.int .i64 x.x, .int .i64 x.y, .bool x.signed, .int .u8 x.code], ⟨0, 0, false, 0⟩, fun _ => rfl, by decide, fun _ => rfl, fun _ => rfl⟩
instance opTRuntimeboundsError : Ope TRuntimeboundsError := ⟨.int .i64 :: (.int .i64 :: (Ope.ss (Bool) ++ (.int .u8 :: ([])))), fun x => (Lit.int .i64 x.x).wf = true ∧ (Lit.int .i64 x.y).wf = true ∧ Ope.ok x.signed ∧ (Lit.int .u8 x.code).wf = true, fun can h => by
  obtain ⟨xx, _, rfl, ox, h⟩ := op_int h
  obtain ⟨xy, _, rfl, oy, h⟩ := op_int h
  obtain ⟨xsigned, _, rfl, osigned, h⟩ := op_field (α := Bool) h
  obtain ⟨xcode, _, rfl, ocode, h⟩ := op_int h
  obtain rfl := ces_nil h
  exact ⟨⟨xx, xy, xsigned, xcode⟩, rfl, ox, oy, osigned, ocode⟩⟩
structure TRuntimeerrorAddressString where
  msg : ByteArray
  addr : Int
instance flTRuntimeerrorAddressString : Flat TRuntimeerrorAddressString := ⟨2, fun x => [.string x.msg, .int .u64 x.addr], ⟨ByteArray.empty, 0⟩, fun _ => rfl, by decide, fun _ => rfl, fun _ => rfl⟩
instance opTRuntimeerrorAddressString : Ope TRuntimeerrorAddressString := ⟨Ope.ss (ByteArray) ++ (.int .u64 :: ([])), fun x => Ope.ok x.msg ∧ (Lit.int .u64 x.addr).wf = true, fun can h => by
  obtain ⟨xmsg, _, rfl, omsg, h⟩ := op_field (α := ByteArray) h
  obtain ⟨xaddr, _, rfl, oaddr, h⟩ := op_int h
  obtain rfl := ces_nil h
  exact ⟨⟨xmsg, xaddr⟩, rfl, omsg, oaddr⟩⟩
structure TRect where
  X0 : Int
  Y0 : Int
  X1 : Int
  Y1 : Int
instance flTRect : Flat TRect := ⟨4, fun x => [.int .i64 x.X0, .int .i64 x.Y0, .int .i64 x.X1, .int .i64 x.Y1], ⟨0, 0, 0, 0⟩, fun _ => rfl, by decide, fun _ => rfl, fun _ => rfl⟩
instance opTRect : Ope TRect := ⟨.int .i64 :: (.int .i64 :: (.int .i64 :: (.int .i64 :: ([])))), fun x => (Lit.int .i64 x.X0).wf = true ∧ (Lit.int .i64 x.Y0).wf = true ∧ (Lit.int .i64 x.X1).wf = true ∧ (Lit.int .i64 x.Y1).wf = true, fun can h => by
  obtain ⟨xX0, _, rfl, oX0, h⟩ := op_int h
  obtain ⟨xY0, _, rfl, oY0, h⟩ := op_int h
  obtain ⟨xX1, _, rfl, oX1, h⟩ := op_int h
  obtain ⟨xY1, _, rfl, oY1, h⟩ := op_int h
  obtain rfl := ces_nil h
  exact ⟨⟨xX0, xY0, xX1, xY1⟩, rfl, oX0, oY0, oX1, oY1⟩⟩
structure TImage where
  W : Int
  H : Int
  L : List Int
instance flTImage : Flat TImage := ⟨3, fun x => [.int .i64 x.W, .int .i64 x.H, lst x.L], ⟨0, 0, []⟩, fun _ => rfl, by decide, fun _ => rfl, fun _ => rfl⟩
instance opTImage : Ope TImage := ⟨.int .i64 :: (.int .i64 :: (Ope.ss (List Int) ++ ([]))), fun x => (Lit.int .i64 x.W).wf = true ∧ (Lit.int .i64 x.H).wf = true ∧ Ope.ok x.L, fun can h => by
  obtain ⟨xW, _, rfl, oW, h⟩ := op_int h
  obtain ⟨xH, _, rfl, oH, h⟩ := op_int h
  obtain ⟨xL, _, rfl, oL, h⟩ := op_field (α := List Int) h
  obtain rfl := ces_nil h
  exact ⟨⟨xW, xH, xL⟩, rfl, oW, oH, oL⟩⟩
structure TColor where
  R : Int
  G : Int
  B : Int
  A : Int
instance flTColor : Flat TColor := ⟨4, fun x => [.int .i64 x.R, .int .i64 x.G, .int .i64 x.B, .int .i64 x.A], ⟨0, 0, 0, 0⟩, fun _ => rfl, by decide, fun _ => rfl, fun _ => rfl⟩
instance opTColor : Ope TColor := ⟨.int .i64 :: (.int .i64 :: (.int .i64 :: (.int .i64 :: ([])))), fun x => (Lit.int .i64 x.R).wf = true ∧ (Lit.int .i64 x.G).wf = true ∧ (Lit.int .i64 x.B).wf = true ∧ (Lit.int .i64 x.A).wf = true, fun can h => by
  obtain ⟨xR, _, rfl, oR, h⟩ := op_int h
  obtain ⟨xG, _, rfl, oG, h⟩ := op_int h
  obtain ⟨xB, _, rfl, oB, h⟩ := op_int h
  obtain ⟨xA, _, rfl, oA, h⟩ := op_int h
  obtain rfl := ces_nil h
  exact ⟨⟨xR, xG, xB, xA⟩, rfl, oR, oG, oB, oA⟩⟩
structure TPx where
  C : TColor
  Z : Int
  S : Int
instance flTPx : Flat TPx := ⟨6, fun x => [.int .i64 x.C.R, .int .i64 x.C.G, .int .i64 x.C.B, .int .i64 x.C.A, .int .i64 x.Z, .int .i64 x.S], ⟨⟨0, 0, 0, 0⟩, 0, 0⟩, fun _ => rfl, by decide, fun _ => rfl, fun _ => rfl⟩
instance opTPx : Ope TPx := ⟨Ope.ss (TColor) ++ (.int .i64 :: (.int .i64 :: ([]))), fun x => Ope.ok x.C ∧ (Lit.int .i64 x.Z).wf = true ∧ (Lit.int .i64 x.S).wf = true, fun can h => by
  obtain ⟨xC, _, rfl, oC, h⟩ := op_field (α := TColor) h
  obtain ⟨xZ, _, rfl, oZ, h⟩ := op_int h
  obtain ⟨xS, _, rfl, oS, h⟩ := op_int h
  obtain rfl := ces_nil h
  exact ⟨⟨xC, xZ, xS⟩, rfl, oC, oZ, oS⟩⟩
structure TPoint where
  X : Int
  Y : Int
instance flTPoint : Flat TPoint := ⟨2, fun x => [.int .i64 x.X, .int .i64 x.Y], ⟨0, 0⟩, fun _ => rfl, by decide, fun _ => rfl, fun _ => rfl⟩
instance opTPoint : Ope TPoint := ⟨.int .i64 :: (.int .i64 :: ([])), fun x => (Lit.int .i64 x.X).wf = true ∧ (Lit.int .i64 x.Y).wf = true, fun can h => by
  obtain ⟨xX, _, rfl, oX, h⟩ := op_int h
  obtain ⟨xY, _, rfl, oY, h⟩ := op_int h
  obtain rfl := ces_nil h
  exact ⟨⟨xX, xY⟩, rfl, oX, oY⟩⟩
structure A6I where
  e0 : Int
  e1 : Int
  e2 : Int
  e3 : Int
  e4 : Int
  e5 : Int
instance flA6I : Flat A6I := ⟨6, fun x => [.int .i64 x.e0, .int .i64 x.e1, .int .i64 x.e2, .int .i64 x.e3, .int .i64 x.e4, .int .i64 x.e5], ⟨0, 0, 0, 0, 0, 0⟩, fun _ => rfl, by decide, fun _ => rfl, fun _ => rfl⟩
instance opA6I : Ope A6I := ⟨.int .i64 :: (.int .i64 :: (.int .i64 :: (.int .i64 :: (.int .i64 :: (.int .i64 :: ([])))))), fun x => (Lit.int .i64 x.e0).wf = true ∧ (Lit.int .i64 x.e1).wf = true ∧ (Lit.int .i64 x.e2).wf = true ∧ (Lit.int .i64 x.e3).wf = true ∧ (Lit.int .i64 x.e4).wf = true ∧ (Lit.int .i64 x.e5).wf = true, fun can h => by
  obtain ⟨xe0, _, rfl, oe0, h⟩ := op_int h
  obtain ⟨xe1, _, rfl, oe1, h⟩ := op_int h
  obtain ⟨xe2, _, rfl, oe2, h⟩ := op_int h
  obtain ⟨xe3, _, rfl, oe3, h⟩ := op_int h
  obtain ⟨xe4, _, rfl, oe4, h⟩ := op_int h
  obtain ⟨xe5, _, rfl, oe5, h⟩ := op_int h
  obtain rfl := ces_nil h
  exact ⟨⟨xe0, xe1, xe2, xe3, xe4, xe5⟩, rfl, oe0, oe1, oe2, oe3, oe4, oe5⟩⟩
structure TSpot where
  P : TPoint
  Z : Int
  A : A6I
instance flTSpot : Flat TSpot := ⟨9, fun x => [.int .i64 x.P.X, .int .i64 x.P.Y, .int .i64 x.Z, .int .i64 x.A.e0, .int .i64 x.A.e1, .int .i64 x.A.e2, .int .i64 x.A.e3, .int .i64 x.A.e4, .int .i64 x.A.e5], ⟨⟨0, 0⟩, 0, ⟨0, 0, 0, 0, 0, 0⟩⟩, fun _ => rfl, by decide, fun _ => rfl, fun _ => rfl⟩
instance opTSpot : Ope TSpot := ⟨Ope.ss (TPoint) ++ (.int .i64 :: (Ope.ss (A6I) ++ ([]))), fun x => Ope.ok x.P ∧ (Lit.int .i64 x.Z).wf = true ∧ Ope.ok x.A, fun can h => by
  obtain ⟨xP, _, rfl, oP, h⟩ := op_field (α := TPoint) h
  obtain ⟨xZ, _, rfl, oZ, h⟩ := op_int h
  obtain ⟨xA, _, rfl, oA, h⟩ := op_field (α := A6I) h
  obtain rfl := ces_nil h
  exact ⟨⟨xP, xZ, xA⟩, rfl, oP, oZ, oA⟩⟩
structure A3TSpot where
  e0 : TSpot
  e1 : TSpot
  e2 : TSpot
instance flA3TSpot : Flat A3TSpot := ⟨27, fun x => [.int .i64 x.e0.P.X, .int .i64 x.e0.P.Y, .int .i64 x.e0.Z, .int .i64 x.e0.A.e0, .int .i64 x.e0.A.e1, .int .i64 x.e0.A.e2, .int .i64 x.e0.A.e3, .int .i64 x.e0.A.e4, .int .i64 x.e0.A.e5, .int .i64 x.e1.P.X, .int .i64 x.e1.P.Y, .int .i64 x.e1.Z, .int .i64 x.e1.A.e0, .int .i64 x.e1.A.e1, .int .i64 x.e1.A.e2, .int .i64 x.e1.A.e3, .int .i64 x.e1.A.e4, .int .i64 x.e1.A.e5, .int .i64 x.e2.P.X, .int .i64 x.e2.P.Y, .int .i64 x.e2.Z, .int .i64 x.e2.A.e0, .int .i64 x.e2.A.e1, .int .i64 x.e2.A.e2, .int .i64 x.e2.A.e3, .int .i64 x.e2.A.e4, .int .i64 x.e2.A.e5], ⟨⟨⟨0, 0⟩, 0, ⟨0, 0, 0, 0, 0, 0⟩⟩, ⟨⟨0, 0⟩, 0, ⟨0, 0, 0, 0, 0, 0⟩⟩, ⟨⟨0, 0⟩, 0, ⟨0, 0, 0, 0, 0, 0⟩⟩⟩, fun _ => rfl, by decide, fun _ => rfl, fun _ => rfl⟩
instance opA3TSpot : Ope A3TSpot := ⟨Ope.ss (TSpot) ++ (Ope.ss (TSpot) ++ (Ope.ss (TSpot) ++ ([]))), fun x => Ope.ok x.e0 ∧ Ope.ok x.e1 ∧ Ope.ok x.e2, fun can h => by
  obtain ⟨xe0, _, rfl, oe0, h⟩ := op_field (α := TSpot) h
  obtain ⟨xe1, _, rfl, oe1, h⟩ := op_field (α := TSpot) h
  obtain ⟨xe2, _, rfl, oe2, h⟩ := op_field (α := TSpot) h
  obtain rfl := ces_nil h
  exact ⟨⟨xe0, xe1, xe2⟩, rfl, oe0, oe1, oe2⟩⟩
structure TTri where
  S : A3TSpot
  Area : Int
  Box : TRect
instance flTTri : Flat TTri := ⟨32, fun x => [.int .i64 x.S.e0.P.X, .int .i64 x.S.e0.P.Y, .int .i64 x.S.e0.Z, .int .i64 x.S.e0.A.e0, .int .i64 x.S.e0.A.e1, .int .i64 x.S.e0.A.e2, .int .i64 x.S.e0.A.e3, .int .i64 x.S.e0.A.e4, .int .i64 x.S.e0.A.e5, .int .i64 x.S.e1.P.X, .int .i64 x.S.e1.P.Y, .int .i64 x.S.e1.Z, .int .i64 x.S.e1.A.e0, .int .i64 x.S.e1.A.e1, .int .i64 x.S.e1.A.e2, .int .i64 x.S.e1.A.e3, .int .i64 x.S.e1.A.e4, .int .i64 x.S.e1.A.e5, .int .i64 x.S.e2.P.X, .int .i64 x.S.e2.P.Y, .int .i64 x.S.e2.Z, .int .i64 x.S.e2.A.e0, .int .i64 x.S.e2.A.e1, .int .i64 x.S.e2.A.e2, .int .i64 x.S.e2.A.e3, .int .i64 x.S.e2.A.e4, .int .i64 x.S.e2.A.e5, .int .i64 x.Area, .int .i64 x.Box.X0, .int .i64 x.Box.Y0, .int .i64 x.Box.X1, .int .i64 x.Box.Y1], ⟨⟨⟨⟨0, 0⟩, 0, ⟨0, 0, 0, 0, 0, 0⟩⟩, ⟨⟨0, 0⟩, 0, ⟨0, 0, 0, 0, 0, 0⟩⟩, ⟨⟨0, 0⟩, 0, ⟨0, 0, 0, 0, 0, 0⟩⟩⟩, 0, ⟨0, 0, 0, 0⟩⟩, fun _ => rfl, by decide, fun _ => rfl, fun _ => rfl⟩
instance opTTri : Ope TTri := ⟨Ope.ss (A3TSpot) ++ (.int .i64 :: (Ope.ss (TRect) ++ ([]))), fun x => Ope.ok x.S ∧ (Lit.int .i64 x.Area).wf = true ∧ Ope.ok x.Box, fun can h => by
  obtain ⟨xS, _, rfl, oS, h⟩ := op_field (α := A3TSpot) h
  obtain ⟨xArea, _, rfl, oArea, h⟩ := op_int h
  obtain ⟨xBox, _, rfl, oBox, h⟩ := op_field (α := TRect) h
  obtain rfl := ces_nil h
  exact ⟨⟨xS, xArea, xBox⟩, rfl, oS, oArea, oBox⟩⟩
structure A16I where
  e0 : Int
  e1 : Int
  e2 : Int
  e3 : Int
  e4 : Int
  e5 : Int
  e6 : Int
  e7 : Int
  e8 : Int
  e9 : Int
  e10 : Int
  e11 : Int
  e12 : Int
  e13 : Int
  e14 : Int
  e15 : Int
instance flA16I : Flat A16I := ⟨16, fun x => [.int .i64 x.e0, .int .i64 x.e1, .int .i64 x.e2, .int .i64 x.e3, .int .i64 x.e4, .int .i64 x.e5, .int .i64 x.e6, .int .i64 x.e7, .int .i64 x.e8, .int .i64 x.e9, .int .i64 x.e10, .int .i64 x.e11, .int .i64 x.e12, .int .i64 x.e13, .int .i64 x.e14, .int .i64 x.e15], ⟨0, 0, 0, 0, 0, 0, 0, 0, 0, 0, 0, 0, 0, 0, 0, 0⟩, fun _ => rfl, by decide, fun _ => rfl, fun _ => rfl⟩
instance opA16I : Ope A16I := ⟨.int .i64 :: (.int .i64 :: (.int .i64 :: (.int .i64 :: (.int .i64 :: (.int .i64 :: (.int .i64 :: (.int .i64 :: (.int .i64 :: (.int .i64 :: (.int .i64 :: (.int .i64 :: (.int .i64 :: (.int .i64 :: (.int .i64 :: (.int .i64 :: ([])))))))))))))))), fun x => (Lit.int .i64 x.e0).wf = true ∧ (Lit.int .i64 x.e1).wf = true ∧ (Lit.int .i64 x.e2).wf = true ∧ (Lit.int .i64 x.e3).wf = true ∧ (Lit.int .i64 x.e4).wf = true ∧ (Lit.int .i64 x.e5).wf = true ∧ (Lit.int .i64 x.e6).wf = true ∧ (Lit.int .i64 x.e7).wf = true ∧ (Lit.int .i64 x.e8).wf = true ∧ (Lit.int .i64 x.e9).wf = true ∧ (Lit.int .i64 x.e10).wf = true ∧ (Lit.int .i64 x.e11).wf = true ∧ (Lit.int .i64 x.e12).wf = true ∧ (Lit.int .i64 x.e13).wf = true ∧ (Lit.int .i64 x.e14).wf = true ∧ (Lit.int .i64 x.e15).wf = true, fun can h => by
  obtain ⟨xe0, _, rfl, oe0, h⟩ := op_int h
  obtain ⟨xe1, _, rfl, oe1, h⟩ := op_int h
  obtain ⟨xe2, _, rfl, oe2, h⟩ := op_int h
  obtain ⟨xe3, _, rfl, oe3, h⟩ := op_int h
  obtain ⟨xe4, _, rfl, oe4, h⟩ := op_int h
  obtain ⟨xe5, _, rfl, oe5, h⟩ := op_int h
  obtain ⟨xe6, _, rfl, oe6, h⟩ := op_int h
  obtain ⟨xe7, _, rfl, oe7, h⟩ := op_int h
  obtain ⟨xe8, _, rfl, oe8, h⟩ := op_int h
  obtain ⟨xe9, _, rfl, oe9, h⟩ := op_int h
  obtain ⟨xe10, _, rfl, oe10, h⟩ := op_int h
  obtain ⟨xe11, _, rfl, oe11, h⟩ := op_int h
  obtain ⟨xe12, _, rfl, oe12, h⟩ := op_int h
  obtain ⟨xe13, _, rfl, oe13, h⟩ := op_int h
  obtain ⟨xe14, _, rfl, oe14, h⟩ := op_int h
  obtain ⟨xe15, _, rfl, oe15, h⟩ := op_int h
  obtain rfl := ces_nil h
  exact ⟨⟨xe0, xe1, xe2, xe3, xe4, xe5, xe6, xe7, xe8, xe9, xe10, xe11, xe12, xe13, xe14, xe15⟩, rfl, oe0, oe1, oe2, oe3, oe4, oe5, oe6, oe7, oe8, oe9, oe10, oe11, oe12, oe13, oe14, oe15⟩⟩
structure TMat where
  e0 : Int
  e1 : Int
  e2 : Int
  e3 : Int
  e4 : Int
  e5 : Int
  e6 : Int
  e7 : Int
  e8 : Int
  e9 : Int
  e10 : Int
  e11 : Int
  e12 : Int
  e13 : Int
  e14 : Int
  e15 : Int
instance flTMat : Flat TMat := ⟨16, fun x => [.int .i64 x.e0, .int .i64 x.e1, .int .i64 x.e2, .int .i64 x.e3, .int .i64 x.e4, .int .i64 x.e5, .int .i64 x.e6, .int .i64 x.e7, .int .i64 x.e8, .int .i64 x.e9, .int .i64 x.e10, .int .i64 x.e11, .int .i64 x.e12, .int .i64 x.e13, .int .i64 x.e14, .int .i64 x.e15], ⟨0, 0, 0, 0, 0, 0, 0, 0, 0, 0, 0, 0, 0, 0, 0, 0⟩, fun _ => rfl, by decide, fun _ => rfl, fun _ => rfl⟩
instance opTMat : Ope TMat := ⟨.int .i64 :: (.int .i64 :: (.int .i64 :: (.int .i64 :: (.int .i64 :: (.int .i64 :: (.int .i64 :: (.int .i64 :: (.int .i64 :: (.int .i64 :: (.int .i64 :: (.int .i64 :: (.int .i64 :: (.int .i64 :: (.int .i64 :: (.int .i64 :: ([])))))))))))))))), fun x => (Lit.int .i64 x.e0).wf = true ∧ (Lit.int .i64 x.e1).wf = true ∧ (Lit.int .i64 x.e2).wf = true ∧ (Lit.int .i64 x.e3).wf = true ∧ (Lit.int .i64 x.e4).wf = true ∧ (Lit.int .i64 x.e5).wf = true ∧ (Lit.int .i64 x.e6).wf = true ∧ (Lit.int .i64 x.e7).wf = true ∧ (Lit.int .i64 x.e8).wf = true ∧ (Lit.int .i64 x.e9).wf = true ∧ (Lit.int .i64 x.e10).wf = true ∧ (Lit.int .i64 x.e11).wf = true ∧ (Lit.int .i64 x.e12).wf = true ∧ (Lit.int .i64 x.e13).wf = true ∧ (Lit.int .i64 x.e14).wf = true ∧ (Lit.int .i64 x.e15).wf = true, fun can h => by
  obtain ⟨xe0, _, rfl, oe0, h⟩ := op_int h
  obtain ⟨xe1, _, rfl, oe1, h⟩ := op_int h
  obtain ⟨xe2, _, rfl, oe2, h⟩ := op_int h
  obtain ⟨xe3, _, rfl, oe3, h⟩ := op_int h
  obtain ⟨xe4, _, rfl, oe4, h⟩ := op_int h
  obtain ⟨xe5, _, rfl, oe5, h⟩ := op_int h
  obtain ⟨xe6, _, rfl, oe6, h⟩ := op_int h
  obtain ⟨xe7, _, rfl, oe7, h⟩ := op_int h
  obtain ⟨xe8, _, rfl, oe8, h⟩ := op_int h
  obtain ⟨xe9, _, rfl, oe9, h⟩ := op_int h
  obtain ⟨xe10, _, rfl, oe10, h⟩ := op_int h
  obtain ⟨xe11, _, rfl, oe11, h⟩ := op_int h
  obtain ⟨xe12, _, rfl, oe12, h⟩ := op_int h
  obtain ⟨xe13, _, rfl, oe13, h⟩ := op_int h
  obtain ⟨xe14, _, rfl, oe14, h⟩ := op_int h
  obtain ⟨xe15, _, rfl, oe15, h⟩ := op_int h
  obtain rfl := ces_nil h
  exact ⟨⟨xe0, xe1, xe2, xe3, xe4, xe5, xe6, xe7, xe8, xe9, xe10, xe11, xe12, xe13, xe14, xe15⟩, rfl, oe0, oe1, oe2, oe3, oe4, oe5, oe6, oe7, oe8, oe9, oe10, oe11, oe12, oe13, oe14, oe15⟩⟩
structure TSten where
  Fn : Int
  Ref : Int
  Read : Int
  Write : Int
  Fail : Int
  ZFail : Int
  Pass : Int
instance flTSten : Flat TSten := ⟨7, fun x => [.int .i64 x.Fn, .int .i64 x.Ref, .int .i64 x.Read, .int .i64 x.Write, .int .i64 x.Fail, .int .i64 x.ZFail, .int .i64 x.Pass], ⟨0, 0, 0, 0, 0, 0, 0⟩, fun _ => rfl, by decide, fun _ => rfl, fun _ => rfl⟩
instance opTSten : Ope TSten := ⟨.int .i64 :: (.int .i64 :: (.int .i64 :: (.int .i64 :: (.int .i64 :: (.int .i64 :: (.int .i64 :: ([]))))))), fun x => (Lit.int .i64 x.Fn).wf = true ∧ (Lit.int .i64 x.Ref).wf = true ∧ (Lit.int .i64 x.Read).wf = true ∧ (Lit.int .i64 x.Write).wf = true ∧ (Lit.int .i64 x.Fail).wf = true ∧ (Lit.int .i64 x.ZFail).wf = true ∧ (Lit.int .i64 x.Pass).wf = true, fun can h => by
  obtain ⟨xFn, _, rfl, oFn, h⟩ := op_int h
  obtain ⟨xRef, _, rfl, oRef, h⟩ := op_int h
  obtain ⟨xRead, _, rfl, oRead, h⟩ := op_int h
  obtain ⟨xWrite, _, rfl, oWrite, h⟩ := op_int h
  obtain ⟨xFail, _, rfl, oFail, h⟩ := op_int h
  obtain ⟨xZFail, _, rfl, oZFail, h⟩ := op_int h
  obtain ⟨xPass, _, rfl, oPass, h⟩ := op_int h
  obtain rfl := ces_nil h
  exact ⟨⟨xFn, xRef, xRead, xWrite, xFail, xZFail, xPass⟩, rfl, oFn, oRef, oRead, oWrite, oFail, oZFail, oPass⟩⟩
structure TBlend where
  Src : Int
  Dst : Int
  Eq : Int
  Mask : Int
instance flTBlend : Flat TBlend := ⟨4, fun x => [.int .i64 x.Src, .int .i64 x.Dst, .int .i64 x.Eq, .int .i64 x.Mask], ⟨0, 0, 0, 0⟩, fun _ => rfl, by decide, fun _ => rfl, fun _ => rfl⟩
instance opTBlend : Ope TBlend := ⟨.int .i64 :: (.int .i64 :: (.int .i64 :: (.int .i64 :: ([])))), fun x => (Lit.int .i64 x.Src).wf = true ∧ (Lit.int .i64 x.Dst).wf = true ∧ (Lit.int .i64 x.Eq).wf = true ∧ (Lit.int .i64 x.Mask).wf = true, fun can h => by
  obtain ⟨xSrc, _, rfl, oSrc, h⟩ := op_int h
  obtain ⟨xDst, _, rfl, oDst, h⟩ := op_int h
  obtain ⟨xEq, _, rfl, oEq, h⟩ := op_int h
  obtain ⟨xMask, _, rfl, oMask, h⟩ := op_int h
  obtain rfl := ces_nil h
  exact ⟨⟨xSrc, xDst, xEq, xMask⟩, rfl, oSrc, oDst, oEq, oMask⟩⟩
structure TState where
  M : TMat
  View : TRect
  Sciss : TRect
  DFn : Int
  DPut : Bool
  St : TSten
  Bl : TBlend
  Cull : Int
  Tex : Int
  Wrap : Int
  Soft : Bool
instance flTState : Flat TState := ⟨41, fun x => [.int .i64 x.M.e0, .int .i64 x.M.e1, .int .i64 x.M.e2, .int .i64 x.M.e3, .int .i64 x.M.e4, .int .i64 x.M.e5, .int .i64 x.M.e6, .int .i64 x.M.e7, .int .i64 x.M.e8, .int .i64 x.M.e9, .int .i64 x.M.e10, .int .i64 x.M.e11, .int .i64 x.M.e12, .int .i64 x.M.e13, .int .i64 x.M.e14, .int .i64 x.M.e15, .int .i64 x.View.X0, .int .i64 x.View.Y0, .int .i64 x.View.X1, .int .i64 x.View.Y1, .int .i64 x.Sciss.X0, .int .i64 x.Sciss.Y0, .int .i64 x.Sciss.X1, .int .i64 x.Sciss.Y1, .int .i64 x.DFn, .bool x.DPut, .int .i64 x.St.Fn, .int .i64 x.St.Ref, .int .i64 x.St.Read, .int .i64 x.St.Write, .int .i64 x.St.Fail, .int .i64 x.St.ZFail, .int .i64 x.St.Pass, .int .i64 x.Bl.Src, .int .i64 x.Bl.Dst, .int .i64 x.Bl.Eq, .int .i64 x.Bl.Mask, .int .i64 x.Cull, .int .i64 x.Tex, .int .i64 x.Wrap, .bool x.Soft], ⟨⟨0, 0, 0, 0, 0, 0, 0, 0, 0, 0, 0, 0, 0, 0, 0, 0⟩, ⟨0, 0, 0, 0⟩, ⟨0, 0, 0, 0⟩, 0, false, ⟨0, 0, 0, 0, 0, 0, 0⟩, ⟨0, 0, 0, 0⟩, 0, 0, 0, false⟩, fun _ => rfl, by decide, fun _ => rfl, fun _ => rfl⟩
instance opTState : Ope TState := ⟨Ope.ss (TMat) ++ (Ope.ss (TRect) ++ (Ope.ss (TRect) ++ (.int .i64 :: (Ope.ss (Bool) ++ (Ope.ss (TSten) ++ (Ope.ss (TBlend) ++ (.int .i64 :: (.int .i64 :: (.int .i64 :: (Ope.ss (Bool) ++ ([]))))))))))), fun x => Ope.ok x.M ∧ Ope.ok x.View ∧ Ope.ok x.Sciss ∧ (Lit.int .i64 x.DFn).wf = true ∧ Ope.ok x.DPut ∧ Ope.ok x.St ∧ Ope.ok x.Bl ∧ (Lit.int .i64 x.Cull).wf = true ∧ (Lit.int .i64 x.Tex).wf = true ∧ (Lit.int .i64 x.Wrap).wf = true ∧ Ope.ok x.Soft, fun can h => by
  obtain ⟨xM, _, rfl, oM, h⟩ := op_field (α := TMat) h
  obtain ⟨xView, _, rfl, oView, h⟩ := op_field (α := TRect) h
  obtain ⟨xSciss, _, rfl, oSciss, h⟩ := op_field (α := TRect) h
  obtain ⟨xDFn, _, rfl, oDFn, h⟩ := op_int h
  obtain ⟨xDPut, _, rfl, oDPut, h⟩ := op_field (α := Bool) h
  obtain ⟨xSt, _, rfl, oSt, h⟩ := op_field (α := TSten) h
  obtain ⟨xBl, _, rfl, oBl, h⟩ := op_field (α := TBlend) h
  obtain ⟨xCull, _, rfl, oCull, h⟩ := op_int h
  obtain ⟨xTex, _, rfl, oTex, h⟩ := op_int h
  obtain ⟨xWrap, _, rfl, oWrap, h⟩ := op_int h
  obtain ⟨xSoft, _, rfl, oSoft, h⟩ := op_field (α := Bool) h
  obtain rfl := ces_nil h
  exact ⟨⟨xM, xView, xSciss, xDFn, xDPut, xSt, xBl, xCull, xTex, xWrap, xSoft⟩, rfl, oM, oView, oSciss, oDFn, oDPut, oSt, oBl, oCull, oTex, oWrap, oSoft⟩⟩
structure TTex where
  W : Int
  H : Int
  L : List Int
instance flTTex : Flat TTex := ⟨3, fun x => [.int .i64 x.W, .int .i64 x.H, lst x.L], ⟨0, 0, []⟩, fun _ => rfl, by decide, fun _ => rfl, fun _ => rfl⟩
instance opTTex : Ope TTex := ⟨.int .i64 :: (.int .i64 :: (Ope.ss (List Int) ++ ([]))), fun x => (Lit.int .i64 x.W).wf = true ∧ (Lit.int .i64 x.H).wf = true ∧ Ope.ok x.L, fun can h => by
  obtain ⟨xW, _, rfl, oW, h⟩ := op_int h
  obtain ⟨xH, _, rfl, oH, h⟩ := op_int h
  obtain ⟨xL, _, rfl, oL, h⟩ := op_field (α := List Int) h
  obtain rfl := ces_nil h
  exact ⟨⟨xW, xH, xL⟩, rfl, oW, oH, oL⟩⟩
structure TPrim where
  Kind : Int
  T : TTri
  S : TState
  Img : TTex
  What : Int
  Px : TPx
  Sciss : TRect
instance flTPrim : Flat TPrim := ⟨88, fun x => [.int .i64 x.Kind, .int .i64 x.T.S.e0.P.X, .int .i64 x.T.S.e0.P.Y, .int .i64 x.T.S.e0.Z, .int .i64 x.T.S.e0.A.e0, .int .i64 x.T.S.e0.A.e1, .int .i64 x.T.S.e0.A.e2, .int .i64 x.T.S.e0.A.e3, .int .i64 x.T.S.e0.A.e4, .int .i64 x.T.S.e0.A.e5, .int .i64 x.T.S.e1.P.X, .int .i64 x.T.S.e1.P.Y, .int .i64 x.T.S.e1.Z, .int .i64 x.T.S.e1.A.e0, .int .i64 x.T.S.e1.A.e1, .int .i64 x.T.S.e1.A.e2, .int .i64 x.T.S.e1.A.e3, .int .i64 x.T.S.e1.A.e4, .int .i64 x.T.S.e1.A.e5, .int .i64 x.T.S.e2.P.X, .int .i64 x.T.S.e2.P.Y, .int .i64 x.T.S.e2.Z, .int .i64 x.T.S.e2.A.e0, .int .i64 x.T.S.e2.A.e1, .int .i64 x.T.S.e2.A.e2, .int .i64 x.T.S.e2.A.e3, .int .i64 x.T.S.e2.A.e4, .int .i64 x.T.S.e2.A.e5, .int .i64 x.T.Area, .int .i64 x.T.Box.X0, .int .i64 x.T.Box.Y0, .int .i64 x.T.Box.X1, .int .i64 x.T.Box.Y1, .int .i64 x.S.M.e0, .int .i64 x.S.M.e1, .int .i64 x.S.M.e2, .int .i64 x.S.M.e3, .int .i64 x.S.M.e4, .int .i64 x.S.M.e5, .int .i64 x.S.M.e6, .int .i64 x.S.M.e7, .int .i64 x.S.M.e8, .int .i64 x.S.M.e9, .int .i64 x.S.M.e10, .int .i64 x.S.M.e11, .int .i64 x.S.M.e12, .int .i64 x.S.M.e13, .int .i64 x.S.M.e14, .int .i64 x.S.M.e15, .int .i64 x.S.View.X0, .int .i64 x.S.View.Y0, .int .i64 x.S.View.X1, .int .i64 x.S.View.Y1, .int .i64 x.S.Sciss.X0, .int .i64 x.S.Sciss.Y0, .int .i64 x.S.Sciss.X1, .int .i64 x.S.Sciss.Y1, .int .i64 x.S.DFn, .bool x.S.DPut, .int .i64 x.S.St.Fn, .int .i64 x.S.St.Ref, .int .i64 x.S.St.Read, .int .i64 x.S.St.Write, .int .i64 x.S.St.Fail, .int .i64 x.S.St.ZFail, .int .i64 x.S.St.Pass, .int .i64 x.S.Bl.Src, .int .i64 x.S.Bl.Dst, .int .i64 x.S.Bl.Eq, .int .i64 x.S.Bl.Mask, .int .i64 x.S.Cull, .int .i64 x.S.Tex, .int .i64 x.S.Wrap, .bool x.S.Soft, .int .i64 x.Img.W, .int .i64 x.Img.H, lst x.Img.L, .int .i64 x.What, .int .i64 x.Px.C.R, .int .i64 x.Px.C.G, .int .i64 x.Px.C.B, .int .i64 x.Px.C.A, .int .i64 x.Px.Z, .int .i64 x.Px.S, .int .i64 x.Sciss.X0, .int .i64 x.Sciss.Y0, .int .i64 x.Sciss.X1, .int .i64 x.Sciss.Y1], ⟨0, ⟨⟨⟨⟨0, 0⟩, 0, ⟨0, 0, 0, 0, 0, 0⟩⟩, ⟨⟨0, 0⟩, 0, ⟨0, 0, 0, 0, 0, 0⟩⟩, ⟨⟨0, 0⟩, 0, ⟨0, 0, 0, 0, 0, 0⟩⟩⟩, 0, ⟨0, 0, 0, 0⟩⟩, ⟨⟨0, 0, 0, 0, 0, 0, 0, 0, 0, 0, 0, 0, 0, 0, 0, 0⟩, ⟨0, 0, 0, 0⟩, ⟨0, 0, 0, 0⟩, 0, false, ⟨0, 0, 0, 0, 0, 0, 0⟩, ⟨0, 0, 0, 0⟩, 0, 0, 0, false⟩, ⟨0, 0, []⟩, 0, ⟨⟨0, 0, 0, 0⟩, 0, 0⟩, ⟨0, 0, 0, 0⟩⟩, fun _ => rfl, by decide, fun _ => rfl, fun _ => rfl⟩
instance opTPrim : Ope TPrim := ⟨.int .i64 :: (Ope.ss (TTri) ++ (Ope.ss (TState) ++ (Ope.ss (TTex) ++ (.int .i64 :: (Ope.ss (TPx) ++ (Ope.ss (TRect) ++ ([]))))))), fun x => (Lit.int .i64 x.Kind).wf = true ∧ Ope.ok x.T ∧ Ope.ok x.S ∧ Ope.ok x.Img ∧ (Lit.int .i64 x.What).wf = true ∧ Ope.ok x.Px ∧ Ope.ok x.Sciss, fun can h => by
  obtain ⟨xKind, _, rfl, oKind, h⟩ := op_int h
  obtain ⟨xT, _, rfl, oT, h⟩ := op_field (α := TTri) h
  obtain ⟨xS, _, rfl, oS, h⟩ := op_field (α := TState) h
  obtain ⟨xImg, _, rfl, oImg, h⟩ := op_field (α := TTex) h
  obtain ⟨xWhat, _, rfl, oWhat, h⟩ := op_int h
  obtain ⟨xPx, _, rfl, oPx, h⟩ := op_field (α := TPx) h
  obtain ⟨xSciss, _, rfl, oSciss, h⟩ := op_field (α := TRect) h
  obtain rfl := ces_nil h
  exact ⟨⟨xKind, xT, xS, xImg, xWhat, xPx, xSciss⟩, rfl, oKind, oT, oS, oImg, oWhat, oPx, oSciss⟩⟩
structure TPlainPicture where
  w : Int
  h : Int
  px : List TPx
instance flTPlainPicture : Flat TPlainPicture := ⟨3, fun x => [.int .i64 x.w, .int .i64 x.h, lst x.px], ⟨0, 0, []⟩, fun _ => rfl, by decide, fun _ => rfl, fun _ => rfl⟩
instance opTPlainPicture : Ope TPlainPicture := ⟨.int .i64 :: (.int .i64 :: (Ope.ss (List TPx) ++ ([]))), fun x => (Lit.int .i64 x.w).wf = true ∧ (Lit.int .i64 x.h).wf = true ∧ Ope.ok x.px, fun can h => by
  obtain ⟨xw, _, rfl, ow, h⟩ := op_int h
  obtain ⟨xh, _, rfl, oh, h⟩ := op_int h
  obtain ⟨xpx, _, rfl, opx, h⟩ := op_field (α := List TPx) h
  obtain rfl := ces_nil h
  exact ⟨⟨xw, xh, xpx⟩, rfl, ow, oh, opx⟩⟩
structure TFrag where
  C : TColor
  Z : Int
instance flTFrag : Flat TFrag := ⟨5, fun x => [.int .i64 x.C.R, .int .i64 x.C.G, .int .i64 x.C.B, .int .i64 x.C.A, .int .i64 x.Z], ⟨⟨0, 0, 0, 0⟩, 0⟩, fun _ => rfl, by decide, fun _ => rfl, fun _ => rfl⟩
instance opTFrag : Ope TFrag := ⟨Ope.ss (TColor) ++ (.int .i64 :: ([])), fun x => Ope.ok x.C ∧ (Lit.int .i64 x.Z).wf = true, fun can h => by
  obtain ⟨xC, _, rfl, oC, h⟩ := op_field (α := TColor) h
  obtain ⟨xZ, _, rfl, oZ, h⟩ := op_int h
  obtain rfl := ces_nil h
  exact ⟨⟨xC, xZ⟩, rfl, oC, oZ⟩⟩
structure TVec where
  X : Int
  Y : Int
  Z : Int
  W : Int
instance flTVec : Flat TVec := ⟨4, fun x => [.int .i64 x.X, .int .i64 x.Y, .int .i64 x.Z, .int .i64 x.W], ⟨0, 0, 0, 0⟩, fun _ => rfl, by decide, fun _ => rfl, fun _ => rfl⟩
instance opTVec : Ope TVec := ⟨.int .i64 :: (.int .i64 :: (.int .i64 :: (.int .i64 :: ([])))), fun x => (Lit.int .i64 x.X).wf = true ∧ (Lit.int .i64 x.Y).wf = true ∧ (Lit.int .i64 x.Z).wf = true ∧ (Lit.int .i64 x.W).wf = true, fun can h => by
  obtain ⟨xX, _, rfl, oX, h⟩ := op_int h
  obtain ⟨xY, _, rfl, oY, h⟩ := op_int h
  obtain ⟨xZ, _, rfl, oZ, h⟩ := op_int h
  obtain ⟨xW, _, rfl, oW, h⟩ := op_int h
  obtain rfl := ces_nil h
  exact ⟨⟨xX, xY, xZ, xW⟩, rfl, oX, oY, oZ, oW⟩⟩
structure A3I where
  e0 : Int
  e1 : Int
  e2 : Int
instance flA3I : Flat A3I := ⟨3, fun x => [.int .i64 x.e0, .int .i64 x.e1, .int .i64 x.e2], ⟨0, 0, 0⟩, fun _ => rfl, by decide, fun _ => rfl, fun _ => rfl⟩
instance opA3I : Ope A3I := ⟨.int .i64 :: (.int .i64 :: (.int .i64 :: ([]))), fun x => (Lit.int .i64 x.e0).wf = true ∧ (Lit.int .i64 x.e1).wf = true ∧ (Lit.int .i64 x.e2).wf = true, fun can h => by
  obtain ⟨xe0, _, rfl, oe0, h⟩ := op_int h
  obtain ⟨xe1, _, rfl, oe1, h⟩ := op_int h
  obtain ⟨xe2, _, rfl, oe2, h⟩ := op_int h
  obtain rfl := ces_nil h
  exact ⟨⟨xe0, xe1, xe2⟩, rfl, oe0, oe1, oe2⟩⟩
structure A3TPoint where
  e0 : TPoint
  e1 : TPoint
  e2 : TPoint
instance flA3TPoint : Flat A3TPoint := ⟨6, fun x => [.int .i64 x.e0.X, .int .i64 x.e0.Y, .int .i64 x.e1.X, .int .i64 x.e1.Y, .int .i64 x.e2.X, .int .i64 x.e2.Y], ⟨⟨0, 0⟩, ⟨0, 0⟩, ⟨0, 0⟩⟩, fun _ => rfl, by decide, fun _ => rfl, fun _ => rfl⟩
instance opA3TPoint : Ope A3TPoint := ⟨Ope.ss (TPoint) ++ (Ope.ss (TPoint) ++ (Ope.ss (TPoint) ++ ([]))), fun x => Ope.ok x.e0 ∧ Ope.ok x.e1 ∧ Ope.ok x.e2, fun can h => by
  obtain ⟨xe0, _, rfl, oe0, h⟩ := op_field (α := TPoint) h
  obtain ⟨xe1, _, rfl, oe1, h⟩ := op_field (α := TPoint) h
  obtain ⟨xe2, _, rfl, oe2, h⟩ := op_field (α := TPoint) h
  obtain rfl := ces_nil h
  exact ⟨⟨xe0, xe1, xe2⟩, rfl, oe0, oe1, oe2⟩⟩
structure A4I where
  e0 : Int
  e1 : Int
  e2 : Int
  e3 : Int
instance flA4I : Flat A4I := ⟨4, fun x => [.int .i64 x.e0, .int .i64 x.e1, .int .i64 x.e2, .int .i64 x.e3], ⟨0, 0, 0, 0⟩, fun _ => rfl, by decide, fun _ => rfl, fun _ => rfl⟩
instance opA4I : Ope A4I := ⟨.int .i64 :: (.int .i64 :: (.int .i64 :: (.int .i64 :: ([])))), fun x => (Lit.int .i64 x.e0).wf = true ∧ (Lit.int .i64 x.e1).wf = true ∧ (Lit.int .i64 x.e2).wf = true ∧ (Lit.int .i64 x.e3).wf = true, fun can h => by
  obtain ⟨xe0, _, rfl, oe0, h⟩ := op_int h
  obtain ⟨xe1, _, rfl, oe1, h⟩ := op_int h
  obtain ⟨xe2, _, rfl, oe2, h⟩ := op_int h
  obtain ⟨xe3, _, rfl, oe3, h⟩ := op_int h
  obtain rfl := ces_nil h
  exact ⟨⟨xe0, xe1, xe2, xe3⟩, rfl, oe0, oe1, oe2, oe3⟩⟩
structure TWideInt where
  Hi : Int
  Lo : Int
instance flTWideInt : Flat TWideInt := ⟨2, fun x => [.int .i64 x.Hi, .int .u64 x.Lo], ⟨0, 0⟩, fun _ => rfl, by decide, fun _ => rfl, fun _ => rfl⟩
instance opTWideInt : Ope TWideInt := ⟨.int .i64 :: (.int .u64 :: ([])), fun x => (Lit.int .i64 x.Hi).wf = true ∧ (Lit.int .u64 x.Lo).wf = true, fun can h => by
  obtain ⟨xHi, _, rfl, oHi, h⟩ := op_int h
  obtain ⟨xLo, _, rfl, oLo, h⟩ := op_int h
  obtain rfl := ces_nil h
  exact ⟨⟨xHi, xLo⟩, rfl, oHi, oLo⟩⟩

end

section
open Go Go.Dt Go.Proofs
set_option linter.unusedVariables false

theorem awake_eq : FnEq Try.prog 7 [] [] (.bool true) [] := FnEq.evalH mixed (X := []) (fun f e h => by simp at h) 6000 Try.func7 (by kernel_rfl) rfl (by kernel_rfl)
abbrev Fawake : Bool := true
theorem awake_con : Con Try.prog 7 [] (.bool Fawake) := ⟨awake_eq, ⟨_, Try.func7, by kernel_rfl⟩, by kernel_rfl⟩

end

section
open Go Go.Dt Go.Proofs
set_option linter.unusedVariables false

/-! ### 4 -/
abbrev Eplain_Picture_Read_nilp : TImage × Int → Value := fun r => .tuple ⟨[.agg ⟨[.int .i64 r.1.W, .int .i64 r.1.H, lst r.1.L]⟩, .int .i64 r.2]⟩
def Fplain_Picture_Read_nilp (K : Nat) (a0 : Unit) (a1 : Int) (a2 : TRect) : Option (TImage × Int) :=
  some (((⟨0, 0, ([] : List Int)⟩ : TImage), 1))
theorem cplain_Picture_Read_nilp (K : Nat) (a0 : Unit) (a1 : Int) (a2 : TRect) : ∀ r, Fplain_Picture_Read_nilp K a0 a1 a2 = some r → Con Try.prog 4 [.pointer none, .int .i64 a1, .agg ⟨[.int .i64 a2.X0, .int .i64 a2.Y0, .int .i64 a2.X1, .int .i64 a2.Y1]⟩] (Eplain_Picture_Read_nilp r) := by
  refine Con.lift Try.func4 (by kernel_rfl) rfl (fun _ => rfl) ?_
  unfold Fplain_Picture_Read_nilp
  exact
    L.retN _ mixed Try.func4 (by kernel_rfl)
/-! ### 5 -/
abbrev Eplain_Picture_At_nilp : TPx × Bool → Value := fun r => .tuple ⟨[.agg ⟨[.int .i64 r.1.C.R, .int .i64 r.1.C.G, .int .i64 r.1.C.B, .int .i64 r.1.C.A, .int .i64 r.1.Z, .int .i64 r.1.S]⟩, .bool r.2]⟩
def Fplain_Picture_At_nilp (K : Nat) (a0 : Unit) (a1 : Int) (a2 : Int) : Option (TPx × Bool) :=
  some (((⟨(⟨0, 0, 0, 0⟩ : TColor), 0, 0⟩ : TPx), false))
theorem cplain_Picture_At_nilp (K : Nat) (a0 : Unit) (a1 : Int) (a2 : Int) : ∀ r, Fplain_Picture_At_nilp K a0 a1 a2 = some r → Con Try.prog 5 [.pointer none, .int .i64 a1, .int .i64 a2] (Eplain_Picture_At_nilp r) := by
  refine Con.lift Try.func5 (by kernel_rfl) rfl (fun _ => rfl) ?_
  unfold Fplain_Picture_At_nilp
  exact
    L.ret _ mixed Try.func5 _ (by kernel_rfl) rfl
/-! ### 6 -/
abbrev Eplain_Picture_Do_nilp : Int → Value := fun r => .int .i64 r
def Fplain_Picture_Do_nilp (K : Nat) (a0 : Unit) (a1 : TPrim) : Option Int :=
  some 1
theorem cplain_Picture_Do_nilp (K : Nat) (a0 : Unit) (a1 : TPrim) : ∀ r, Fplain_Picture_Do_nilp K a0 a1 = some r → Con Try.prog 6 [.pointer none, .agg ⟨[.int .i64 a1.Kind, .int .i64 a1.T.S.e0.P.X, .int .i64 a1.T.S.e0.P.Y, .int .i64 a1.T.S.e0.Z, .int .i64 a1.T.S.e0.A.e0, .int .i64 a1.T.S.e0.A.e1, .int .i64 a1.T.S.e0.A.e2, .int .i64 a1.T.S.e0.A.e3, .int .i64 a1.T.S.e0.A.e4, .int .i64 a1.T.S.e0.A.e5, .int .i64 a1.T.S.e1.P.X, .int .i64 a1.T.S.e1.P.Y, .int .i64 a1.T.S.e1.Z, .int .i64 a1.T.S.e1.A.e0, .int .i64 a1.T.S.e1.A.e1, .int .i64 a1.T.S.e1.A.e2, .int .i64 a1.T.S.e1.A.e3, .int .i64 a1.T.S.e1.A.e4, .int .i64 a1.T.S.e1.A.e5, .int .i64 a1.T.S.e2.P.X, .int .i64 a1.T.S.e2.P.Y, .int .i64 a1.T.S.e2.Z, .int .i64 a1.T.S.e2.A.e0, .int .i64 a1.T.S.e2.A.e1, .int .i64 a1.T.S.e2.A.e2, .int .i64 a1.T.S.e2.A.e3, .int .i64 a1.T.S.e2.A.e4, .int .i64 a1.T.S.e2.A.e5, .int .i64 a1.T.Area, .int .i64 a1.T.Box.X0, .int .i64 a1.T.Box.Y0, .int .i64 a1.T.Box.X1, .int .i64 a1.T.Box.Y1, .int .i64 a1.S.M.e0, .int .i64 a1.S.M.e1, .int .i64 a1.S.M.e2, .int .i64 a1.S.M.e3, .int .i64 a1.S.M.e4, .int .i64 a1.S.M.e5, .int .i64 a1.S.M.e6, .int .i64 a1.S.M.e7, .int .i64 a1.S.M.e8, .int .i64 a1.S.M.e9, .int .i64 a1.S.M.e10, .int .i64 a1.S.M.e11, .int .i64 a1.S.M.e12, .int .i64 a1.S.M.e13, .int .i64 a1.S.M.e14, .int .i64 a1.S.M.e15, .int .i64 a1.S.View.X0, .int .i64 a1.S.View.Y0, .int .i64 a1.S.View.X1, .int .i64 a1.S.View.Y1, .int .i64 a1.S.Sciss.X0, .int .i64 a1.S.Sciss.Y0, .int .i64 a1.S.Sciss.X1, .int .i64 a1.S.Sciss.Y1, .int .i64 a1.S.DFn, .bool a1.S.DPut, .int .i64 a1.S.St.Fn, .int .i64 a1.S.St.Ref, .int .i64 a1.S.St.Read, .int .i64 a1.S.St.Write, .int .i64 a1.S.St.Fail, .int .i64 a1.S.St.ZFail, .int .i64 a1.S.St.Pass, .int .i64 a1.S.Bl.Src, .int .i64 a1.S.Bl.Dst, .int .i64 a1.S.Bl.Eq, .int .i64 a1.S.Bl.Mask, .int .i64 a1.S.Cull, .int .i64 a1.S.Tex, .int .i64 a1.S.Wrap, .bool a1.S.Soft, .int .i64 a1.Img.W, .int .i64 a1.Img.H, lst a1.Img.L, .int .i64 a1.What, .int .i64 a1.Px.C.R, .int .i64 a1.Px.C.G, .int .i64 a1.Px.C.B, .int .i64 a1.Px.C.A, .int .i64 a1.Px.Z, .int .i64 a1.Px.S, .int .i64 a1.Sciss.X0, .int .i64 a1.Sciss.Y0, .int .i64 a1.Sciss.X1, .int .i64 a1.Sciss.Y1]⟩] (Eplain_Picture_Do_nilp r) := by
  refine Con.lift Try.func6 (by kernel_rfl) rfl (fun _ => rfl) ?_
  unfold Fplain_Picture_Do_nilp
  exact
    L.ret _ mixed Try.func6 _ (by kernel_rfl) rfl
/-! ### 3 -/
abbrev EL27_PlainNone : Bool → Value := fun r => .bool r
def FL27_PlainNone (K : Nat) (a0 : Int) (a1 : TRect) : Option Bool :=
  (Fplain_Picture_Read_nilp K () a0 a1).bind fun u1 =>
  (Fplain_Picture_At_nilp K () a1.X0 a1.Y0).bind fun u2 =>
  bif ((↑u1.fst.L.length : Int) == 0) then
    bif (bif true then u1.snd == 1 else false) then
      bif (bif true then bif false then !(u2.fst.C.R == 0 && (u2.fst.C.G == 0 && (u2.fst.C.B == 0 && (u2.fst.C.A == 0 && true))) && (u2.fst.Z == 0 && (u2.fst.S == 0 && true))) else u2.fst.C.R == 0 && (u2.fst.C.G == 0 && (u2.fst.C.B == 0 && (u2.fst.C.A == 0 && true))) && (u2.fst.Z == 0 && (u2.fst.S == 0 && true)) else false) then
        bif (bif true then !u2.snd else false) then
          (Fplain_Picture_Do_nilp K () ((⟨0, (⟨(⟨(⟨(⟨0, 0⟩ : TPoint), 0, (⟨0, 0, 0, 0, 0, 0⟩ : A6I)⟩ : TSpot), (⟨(⟨0, 0⟩ : TPoint), 0, (⟨0, 0, 0, 0, 0, 0⟩ : A6I)⟩ : TSpot), (⟨(⟨0, 0⟩ : TPoint), 0, (⟨0, 0, 0, 0, 0, 0⟩ : A6I)⟩ : TSpot)⟩ : A3TSpot), 0, (⟨0, 0, 0, 0⟩ : TRect)⟩ : TTri), (⟨(⟨0, 0, 0, 0, 0, 0, 0, 0, 0, 0, 0, 0, 0, 0, 0, 0⟩ : TMat), (⟨0, 0, 0, 0⟩ : TRect), (⟨0, 0, 0, 0⟩ : TRect), 0, false, (⟨0, 0, 0, 0, 0, 0, 0⟩ : TSten), (⟨0, 0, 0, 0⟩ : TBlend), 0, 0, 0, false⟩ : TState), (⟨0, 0, ([] : List Int)⟩ : TTex), 0, (⟨(⟨0, 0, 0, 0⟩ : TColor), 0, 0⟩ : TPx), (⟨0, 0, 0, 0⟩ : TRect)⟩ : TPrim))).bind fun u7 =>
          bif (bif true then u7 == 1 else false) then
            some (bif true then Fawake else false)
          else
            some false
        else
          some false
      else
        some false
    else
      some false
  else
    some false
theorem cL27_PlainNone (K : Nat) (a0 : Int) (a1 : TRect) : ∀ r, FL27_PlainNone K a0 a1 = some r → Con Try.prog 3 [.int .i64 a0, .agg ⟨[.int .i64 a1.X0, .int .i64 a1.Y0, .int .i64 a1.X1, .int .i64 a1.Y1]⟩] (EL27_PlainNone r) := by
  refine Con.lift Try.func3 (by kernel_rfl) rfl (fun _ => rfl) ?_
  unfold FL27_PlainNone
  exact
    L.callO mixed (fun u1 : TImage × Int => .tuple ⟨[.agg ⟨[.int .i64 u1.1.W, .int .i64 u1.1.H, lst u1.1.L]⟩, .int .i64 u1.2]⟩) (cplain_Picture_Read_nilp K () a0 a1) (by kernel_rfl) (fun u1 hu1 =>
    L.callO mixed (fun u2 : TPx × Bool => .tuple ⟨[.agg ⟨[.int .i64 u2.1.C.R, .int .i64 u2.1.C.G, .int .i64 u2.1.C.B, .int .i64 u2.1.C.A, .int .i64 u2.1.Z, .int .i64 u2.1.S]⟩, .bool u2.2]⟩) (cplain_Picture_At_nilp K () a1.X0 a1.Y0) (by kernel_rfl) (fun u2 hu2 =>
    L.gu mixed 14 _ (by kernel_rfl)
      (fun h3 =>
      L.gu mixed 4 _ (by kernel_rfl)
        (fun h4 =>
        L.gu mixed 5 _ (by kernel_rfl)
          (fun h5 =>
          L.gu mixed 4 _ (by kernel_rfl)
            (fun h6 =>
            L.callN mixed (fun u7 : Int => .int .i64 u7) (cplain_Picture_Do_nilp K () ((⟨0, (⟨(⟨(⟨(⟨0, 0⟩ : TPoint), 0, (⟨0, 0, 0, 0, 0, 0⟩ : A6I)⟩ : TSpot), (⟨(⟨0, 0⟩ : TPoint), 0, (⟨0, 0, 0, 0, 0, 0⟩ : A6I)⟩ : TSpot), (⟨(⟨0, 0⟩ : TPoint), 0, (⟨0, 0, 0, 0, 0, 0⟩ : A6I)⟩ : TSpot)⟩ : A3TSpot), 0, (⟨0, 0, 0, 0⟩ : TRect)⟩ : TTri), (⟨(⟨0, 0, 0, 0, 0, 0, 0, 0, 0, 0, 0, 0, 0, 0, 0, 0⟩ : TMat), (⟨0, 0, 0, 0⟩ : TRect), (⟨0, 0, 0, 0⟩ : TRect), 0, false, (⟨0, 0, 0, 0, 0, 0, 0⟩ : TSten), (⟨0, 0, 0, 0⟩ : TBlend), 0, 0, 0, false⟩ : TState), (⟨0, 0, ([] : List Int)⟩ : TTex), 0, (⟨(⟨0, 0, 0, 0⟩ : TColor), 0, 0⟩ : TPx), (⟨0, 0, 0, 0⟩ : TRect)⟩ : TPrim))) (by kernel_rfl) (fun u7 hu7 =>
            L.gu mixed 3 _ (by kernel_rfl)
              (fun h8 =>
              L.call mixed (awake_con) (by kernel_rfl) <|
              L.ret _ mixed Try.func3 _ (by kernel_rfl) rfl)
              (fun h8 =>
              L.ret _ mixed Try.func3 _ (by kernel_rfl) rfl)))
            (fun h6 =>
            L.ret _ mixed Try.func3 _ (by kernel_rfl) rfl))
          (fun h5 =>
          L.ret _ mixed Try.func3 _ (by kernel_rfl) rfl))
        (fun h4 =>
        L.ret _ mixed Try.func3 _ (by kernel_rfl) rfl))
      (fun h3 =>
      L.ret _ mixed Try.func3 _ (by kernel_rfl) rfl)))

end

end Go.Proofs.Ytefiememffgohaa.Lf
