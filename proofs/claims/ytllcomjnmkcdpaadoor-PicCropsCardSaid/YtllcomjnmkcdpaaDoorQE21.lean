/- Several texts in one: Ty10, Pd. -/
import Derived.Test.YtllcomjnmkcdpaaDoorQE16
import Derived.Test.YtllcomjnmkcdpaaDoorProg
import Derived.Test.YtllcomjnmkcdpaaDoorQE19
import Derived.Test.YtllcomjnmkcdpaaDoorQE20
namespace Go.Proofs.YtllcomjnmkcdpaaDoor.Lf

section
open Go Go.Dt
set_option linter.unusedVariables false

theorem mixed : Tryd.prog.follows .mixedOrders = true := by kernel_rfl
structure TRuntimeboundsError where
  x : Int
  y : Int
  signed : Bool
  code : Int
instance flTRuntimeboundsError : Flat TRuntimeboundsError := ⟨4, fun x => [.int .i64 x.x, .int .i64 x.y, .bool x.signed, .int .u8 x.code], ⟨0, 0, false, 0⟩, fun _ => rfl, by decide, fun _ => rfl, fun _ => rfl⟩
instance opTRuntimeboundsError : Ope TRuntimeboundsError := ⟨.int .i64 :: (.int .i64 :: (Ope.ss (Bool) ++ (.int .u8 :: ([])))), fun x => (Lit.int .i64 x.x).wf = true ∧ (Lit.int .i64 x.y).wf = true ∧ Ope.ok x.signed ∧ (Lit.int .u8 x.code).wf = true, fun can h => by
  obtain ⟨xx, _, rfl, ox, h⟩ := op_int h
  obtain ⟨xy, _, rfl, oy, h⟩ := op_int h
  obtain ⟨xsigned, _, rfl, osigned, h⟩ := op_field (α := Bool) h
  obtain ⟨xcode, _, rfl, ocode, h⟩ := op_int h
  obtain rfl := ces_nil h
  exact ⟨⟨xx, xy, xsigned, xcode⟩, rfl, ox, oy, osigned, ocode⟩⟩
structure TRuntimeerrorAddressString where
  msg : ByteArray
  addr : Int
instance flTRuntimeerrorAddressString : Flat TRuntimeerrorAddressString := ⟨2, fun x => [.string x.msg, .int .u64 x.addr], ⟨ByteArray.empty, 0⟩, fun _ => rfl, by decide, fun _ => rfl, fun _ => rfl⟩
instance opTRuntimeerrorAddressString : Ope TRuntimeerrorAddressString := ⟨Ope.ss (ByteArray) ++ (.int .u64 :: ([])), fun x => Ope.ok x.msg ∧ (Lit.int .u64 x.addr).wf = true, fun can h => by
  obtain ⟨xmsg, _, rfl, omsg, h⟩ := op_field (α := ByteArray) h
  obtain ⟨xaddr, _, rfl, oaddr, h⟩ := op_int h
  obtain rfl := ces_nil h
  exact ⟨⟨xmsg, xaddr⟩, rfl, omsg, oaddr⟩⟩
structure TImage where
  W : Int
  H : Int
  L : List Int
instance flTImage : Flat TImage := ⟨3, fun x => [.int .i64 x.W, .int .i64 x.H, lst x.L], ⟨0, 0, []⟩, fun _ => rfl, by decide, fun _ => rfl, fun _ => rfl⟩
instance opTImage : Ope TImage := ⟨.int .i64 :: (.int .i64 :: (Ope.ss (List Int) ++ ([]))), fun x => (Lit.int .i64 x.W).wf = true ∧ (Lit.int .i64 x.H).wf = true ∧ Ope.ok x.L, fun can h => by
  obtain ⟨xW, _, rfl, oW, h⟩ := op_int h
  obtain ⟨xH, _, rfl, oH, h⟩ := op_int h
  obtain ⟨xL, _, rfl, oL, h⟩ := op_field (α := List Int) h
  obtain rfl := ces_nil h
  exact ⟨⟨xW, xH, xL⟩, rfl, oW, oH, oL⟩⟩
structure TPoint where
  X : Int
  Y : Int
instance flTPoint : Flat TPoint := ⟨2, fun x => [.int .i64 x.X, .int .i64 x.Y], ⟨0, 0⟩, fun _ => rfl, by decide, fun _ => rfl, fun _ => rfl⟩
instance opTPoint : Ope TPoint := ⟨.int .i64 :: (.int .i64 :: ([])), fun x => (Lit.int .i64 x.X).wf = true ∧ (Lit.int .i64 x.Y).wf = true, fun can h => by
  obtain ⟨xX, _, rfl, oX, h⟩ := op_int h
  obtain ⟨xY, _, rfl, oY, h⟩ := op_int h
  obtain rfl := ces_nil h
  exact ⟨⟨xX, xY⟩, rfl, oX, oY⟩⟩
structure TRect where
  X0 : Int
  Y0 : Int
  X1 : Int
  Y1 : Int
instance flTRect : Flat TRect := ⟨4, fun x => [.int .i64 x.X0, .int .i64 x.Y0, .int .i64 x.X1, .int .i64 x.Y1], ⟨0, 0, 0, 0⟩, fun _ => rfl, by decide, fun _ => rfl, fun _ => rfl⟩
instance opTRect : Ope TRect := ⟨.int .i64 :: (.int .i64 :: (.int .i64 :: (.int .i64 :: ([])))), fun x => (Lit.int .i64 x.X0).wf = true ∧ (Lit.int .i64 x.Y0).wf = true ∧ (Lit.int .i64 x.X1).wf = true ∧ (Lit.int .i64 x.Y1).wf = true, fun can h => by
  obtain ⟨xX0, _, rfl, oX0, h⟩ := op_int h
  obtain ⟨xY0, _, rfl, oY0, h⟩ := op_int h
  obtain ⟨xX1, _, rfl, oX1, h⟩ := op_int h
  obtain ⟨xY1, _, rfl, oY1, h⟩ := op_int h
  obtain rfl := ces_nil h
  exact ⟨⟨xX0, xY0, xX1, xY1⟩, rfl, oX0, oY0, oX1, oY1⟩⟩
structure TUtf8acceptRange where
  lo : Int
  hi : Int
instance flTUtf8acceptRange : Flat TUtf8acceptRange := ⟨2, fun x => [.int .u8 x.lo, .int .u8 x.hi], ⟨0, 0⟩, fun _ => rfl, by decide, fun _ => rfl, fun _ => rfl⟩
instance opTUtf8acceptRange : Ope TUtf8acceptRange := ⟨.int .u8 :: (.int .u8 :: ([])), fun x => (Lit.int .u8 x.lo).wf = true ∧ (Lit.int .u8 x.hi).wf = true, fun can h => by
  obtain ⟨xlo, _, rfl, olo, h⟩ := op_int h
  obtain ⟨xhi, _, rfl, ohi, h⟩ := op_int h
  obtain rfl := ces_nil h
  exact ⟨⟨xlo, xhi⟩, rfl, olo, ohi⟩⟩
structure A16TUtf8acceptRange where
  e0 : TUtf8acceptRange
  e1 : TUtf8acceptRange
  e2 : TUtf8acceptRange
  e3 : TUtf8acceptRange
  e4 : TUtf8acceptRange
  e5 : TUtf8acceptRange
  e6 : TUtf8acceptRange
  e7 : TUtf8acceptRange
  e8 : TUtf8acceptRange
  e9 : TUtf8acceptRange
  e10 : TUtf8acceptRange
  e11 : TUtf8acceptRange
  e12 : TUtf8acceptRange
  e13 : TUtf8acceptRange
  e14 : TUtf8acceptRange
  e15 : TUtf8acceptRange
instance flA16TUtf8acceptRange : Flat A16TUtf8acceptRange := ⟨32, fun x => [.int .u8 x.e0.lo, .int .u8 x.e0.hi, .int .u8 x.e1.lo, .int .u8 x.e1.hi, .int .u8 x.e2.lo, .int .u8 x.e2.hi, .int .u8 x.e3.lo, .int .u8 x.e3.hi, .int .u8 x.e4.lo, .int .u8 x.e4.hi, .int .u8 x.e5.lo, .int .u8 x.e5.hi, .int .u8 x.e6.lo, .int .u8 x.e6.hi, .int .u8 x.e7.lo, .int .u8 x.e7.hi, .int .u8 x.e8.lo, .int .u8 x.e8.hi, .int .u8 x.e9.lo, .int .u8 x.e9.hi, .int .u8 x.e10.lo, .int .u8 x.e10.hi, .int .u8 x.e11.lo, .int .u8 x.e11.hi, .int .u8 x.e12.lo, .int .u8 x.e12.hi, .int .u8 x.e13.lo, .int .u8 x.e13.hi, .int .u8 x.e14.lo, .int .u8 x.e14.hi, .int .u8 x.e15.lo, .int .u8 x.e15.hi], ⟨⟨0, 0⟩, ⟨0, 0⟩, ⟨0, 0⟩, ⟨0, 0⟩, ⟨0, 0⟩, ⟨0, 0⟩, ⟨0, 0⟩, ⟨0, 0⟩, ⟨0, 0⟩, ⟨0, 0⟩, ⟨0, 0⟩, ⟨0, 0⟩, ⟨0, 0⟩, ⟨0, 0⟩, ⟨0, 0⟩, ⟨0, 0⟩⟩, fun _ => rfl, by decide, fun _ => rfl, fun _ => rfl⟩
instance opA16TUtf8acceptRange : Ope A16TUtf8acceptRange := ⟨Ope.ss (TUtf8acceptRange) ++ (Ope.ss (TUtf8acceptRange) ++ (Ope.ss (TUtf8acceptRange) ++ (Ope.ss (TUtf8acceptRange) ++ (Ope.ss (TUtf8acceptRange) ++ (Ope.ss (TUtf8acceptRange) ++ (Ope.ss (TUtf8acceptRange) ++ (Ope.ss (TUtf8acceptRange) ++ (Ope.ss (TUtf8acceptRange) ++ (Ope.ss (TUtf8acceptRange) ++ (Ope.ss (TUtf8acceptRange) ++ (Ope.ss (TUtf8acceptRange) ++ (Ope.ss (TUtf8acceptRange) ++ (Ope.ss (TUtf8acceptRange) ++ (Ope.ss (TUtf8acceptRange) ++ (Ope.ss (TUtf8acceptRange) ++ ([])))))))))))))))), fun x => Ope.ok x.e0 ∧ Ope.ok x.e1 ∧ Ope.ok x.e2 ∧ Ope.ok x.e3 ∧ Ope.ok x.e4 ∧ Ope.ok x.e5 ∧ Ope.ok x.e6 ∧ Ope.ok x.e7 ∧ Ope.ok x.e8 ∧ Ope.ok x.e9 ∧ Ope.ok x.e10 ∧ Ope.ok x.e11 ∧ Ope.ok x.e12 ∧ Ope.ok x.e13 ∧ Ope.ok x.e14 ∧ Ope.ok x.e15, fun can h => by
  obtain ⟨xe0, _, rfl, oe0, h⟩ := op_field (α := TUtf8acceptRange) h
  obtain ⟨xe1, _, rfl, oe1, h⟩ := op_field (α := TUtf8acceptRange) h
  obtain ⟨xe2, _, rfl, oe2, h⟩ := op_field (α := TUtf8acceptRange) h
  obtain ⟨xe3, _, rfl, oe3, h⟩ := op_field (α := TUtf8acceptRange) h
  obtain ⟨xe4, _, rfl, oe4, h⟩ := op_field (α := TUtf8acceptRange) h
  obtain ⟨xe5, _, rfl, oe5, h⟩ := op_field (α := TUtf8acceptRange) h
  obtain ⟨xe6, _, rfl, oe6, h⟩ := op_field (α := TUtf8acceptRange) h
  obtain ⟨xe7, _, rfl, oe7, h⟩ := op_field (α := TUtf8acceptRange) h
  obtain ⟨xe8, _, rfl, oe8, h⟩ := op_field (α := TUtf8acceptRange) h
  obtain ⟨xe9, _, rfl, oe9, h⟩ := op_field (α := TUtf8acceptRange) h
  obtain ⟨xe10, _, rfl, oe10, h⟩ := op_field (α := TUtf8acceptRange) h
  obtain ⟨xe11, _, rfl, oe11, h⟩ := op_field (α := TUtf8acceptRange) h
  obtain ⟨xe12, _, rfl, oe12, h⟩ := op_field (α := TUtf8acceptRange) h
  obtain ⟨xe13, _, rfl, oe13, h⟩ := op_field (α := TUtf8acceptRange) h
  obtain ⟨xe14, _, rfl, oe14, h⟩ := op_field (α := TUtf8acceptRange) h
  obtain ⟨xe15, _, rfl, oe15, h⟩ := op_field (α := TUtf8acceptRange) h
  obtain rfl := ces_nil h
  exact ⟨⟨xe0, xe1, xe2, xe3, xe4, xe5, xe6, xe7, xe8, xe9, xe10, xe11, xe12, xe13, xe14, xe15⟩, rfl, oe0, oe1, oe2, oe3, oe4, oe5, oe6, oe7, oe8, oe9, oe10, oe11, oe12, oe13, oe14, oe15⟩⟩
structure TErrorserrorString where
  s : ByteArray
instance flTErrorserrorString : Flat TErrorserrorString := ⟨1, fun x => [.string x.s], ⟨ByteArray.empty⟩, fun _ => rfl, by decide, fun _ => rfl, fun _ => rfl⟩
instance opTErrorserrorString : Ope TErrorserrorString := ⟨Ope.ss (ByteArray) ++ ([]), fun x => Ope.ok x.s, fun can h => by
  obtain ⟨xs, _, rfl, os, h⟩ := op_field (α := ByteArray) h
  obtain rfl := ces_nil h
  exact ⟨⟨xs⟩, rfl, os⟩⟩
structure A24I where
  e0 : Int
  e1 : Int
  e2 : Int
  e3 : Int
  e4 : Int
  e5 : Int
  e6 : Int
  e7 : Int
  e8 : Int
  e9 : Int
  e10 : Int
  e11 : Int
  e12 : Int
  e13 : Int
  e14 : Int
  e15 : Int
  e16 : Int
  e17 : Int
  e18 : Int
  e19 : Int
  e20 : Int
  e21 : Int
  e22 : Int
  e23 : Int
instance flA24I : Flat A24I := ⟨24, fun x => [.int .u8 x.e0, .int .u8 x.e1, .int .u8 x.e2, .int .u8 x.e3, .int .u8 x.e4, .int .u8 x.e5, .int .u8 x.e6, .int .u8 x.e7, .int .u8 x.e8, .int .u8 x.e9, .int .u8 x.e10, .int .u8 x.e11, .int .u8 x.e12, .int .u8 x.e13, .int .u8 x.e14, .int .u8 x.e15, .int .u8 x.e16, .int .u8 x.e17, .int .u8 x.e18, .int .u8 x.e19, .int .u8 x.e20, .int .u8 x.e21, .int .u8 x.e22, .int .u8 x.e23], ⟨0, 0, 0, 0, 0, 0, 0, 0, 0, 0, 0, 0, 0, 0, 0, 0, 0, 0, 0, 0, 0, 0, 0, 0⟩, fun _ => rfl, by decide, fun _ => rfl, fun _ => rfl⟩
instance opA24I : Ope A24I := ⟨.int .u8 :: (.int .u8 :: (.int .u8 :: (.int .u8 :: (.int .u8 :: (.int .u8 :: (.int .u8 :: (.int .u8 :: (.int .u8 :: (.int .u8 :: (.int .u8 :: (.int .u8 :: (.int .u8 :: (.int .u8 :: (.int .u8 :: (.int .u8 :: (.int .u8 :: (.int .u8 :: (.int .u8 :: (.int .u8 :: (.int .u8 :: (.int .u8 :: (.int .u8 :: (.int .u8 :: ([])))))))))))))))))))))))), fun x => (Lit.int .u8 x.e0).wf = true ∧ (Lit.int .u8 x.e1).wf = true ∧ (Lit.int .u8 x.e2).wf = true ∧ (Lit.int .u8 x.e3).wf = true ∧ (Lit.int .u8 x.e4).wf = true ∧ (Lit.int .u8 x.e5).wf = true ∧ (Lit.int .u8 x.e6).wf = true ∧ (Lit.int .u8 x.e7).wf = true ∧ (Lit.int .u8 x.e8).wf = true ∧ (Lit.int .u8 x.e9).wf = true ∧ (Lit.int .u8 x.e10).wf = true ∧ (Lit.int .u8 x.e11).wf = true ∧ (Lit.int .u8 x.e12).wf = true ∧ (Lit.int .u8 x.e13).wf = true ∧ (Lit.int .u8 x.e14).wf = true ∧ (Lit.int .u8 x.e15).wf = true ∧ (Lit.int .u8 x.e16).wf = true ∧ (Lit.int .u8 x.e17).wf = true ∧ (Lit.int .u8 x.e18).wf = true ∧ (Lit.int .u8 x.e19).wf = true ∧ (Lit.int .u8 x.e20).wf = true ∧ (Lit.int .u8 x.e21).wf = true ∧ (Lit.int .u8 x.e22).wf = true ∧ (Lit.int .u8 x.e23).wf = true, fun can h => by
  obtain ⟨xe0, _, rfl, oe0, h⟩ := op_int h
  obtain ⟨xe1, _, rfl, oe1, h⟩ := op_int h
  obtain ⟨xe2, _, rfl, oe2, h⟩ := op_int h
  obtain ⟨xe3, _, rfl, oe3, h⟩ := op_int h
  obtain ⟨xe4, _, rfl, oe4, h⟩ := op_int h
  obtain ⟨xe5, _, rfl, oe5, h⟩ := op_int h
  obtain ⟨xe6, _, rfl, oe6, h⟩ := op_int h
  obtain ⟨xe7, _, rfl, oe7, h⟩ := op_int h
  obtain ⟨xe8, _, rfl, oe8, h⟩ := op_int h
  obtain ⟨xe9, _, rfl, oe9, h⟩ := op_int h
  obtain ⟨xe10, _, rfl, oe10, h⟩ := op_int h
  obtain ⟨xe11, _, rfl, oe11, h⟩ := op_int h
  obtain ⟨xe12, _, rfl, oe12, h⟩ := op_int h
  obtain ⟨xe13, _, rfl, oe13, h⟩ := op_int h
  obtain ⟨xe14, _, rfl, oe14, h⟩ := op_int h
  obtain ⟨xe15, _, rfl, oe15, h⟩ := op_int h
  obtain ⟨xe16, _, rfl, oe16, h⟩ := op_int h
  obtain ⟨xe17, _, rfl, oe17, h⟩ := op_int h
  obtain ⟨xe18, _, rfl, oe18, h⟩ := op_int h
  obtain ⟨xe19, _, rfl, oe19, h⟩ := op_int h
  obtain ⟨xe20, _, rfl, oe20, h⟩ := op_int h
  obtain ⟨xe21, _, rfl, oe21, h⟩ := op_int h
  obtain ⟨xe22, _, rfl, oe22, h⟩ := op_int h
  obtain ⟨xe23, _, rfl, oe23, h⟩ := op_int h
  obtain rfl := ces_nil h
  exact ⟨⟨xe0, xe1, xe2, xe3, xe4, xe5, xe6, xe7, xe8, xe9, xe10, xe11, xe12, xe13, xe14, xe15, xe16, xe17, xe18, xe19, xe20, xe21, xe22, xe23⟩, rfl, oe0, oe1, oe2, oe3, oe4, oe5, oe6, oe7, oe8, oe9, oe10, oe11, oe12, oe13, oe14, oe15, oe16, oe17, oe18, oe19, oe20, oe21, oe22, oe23⟩⟩
structure A20I where
  e0 : Int
  e1 : Int
  e2 : Int
  e3 : Int
  e4 : Int
  e5 : Int
  e6 : Int
  e7 : Int
  e8 : Int
  e9 : Int
  e10 : Int
  e11 : Int
  e12 : Int
  e13 : Int
  e14 : Int
  e15 : Int
  e16 : Int
  e17 : Int
  e18 : Int
  e19 : Int
instance flA20I : Flat A20I := ⟨20, fun x => [.int .u64 x.e0, .int .u64 x.e1, .int .u64 x.e2, .int .u64 x.e3, .int .u64 x.e4, .int .u64 x.e5, .int .u64 x.e6, .int .u64 x.e7, .int .u64 x.e8, .int .u64 x.e9, .int .u64 x.e10, .int .u64 x.e11, .int .u64 x.e12, .int .u64 x.e13, .int .u64 x.e14, .int .u64 x.e15, .int .u64 x.e16, .int .u64 x.e17, .int .u64 x.e18, .int .u64 x.e19], ⟨0, 0, 0, 0, 0, 0, 0, 0, 0, 0, 0, 0, 0, 0, 0, 0, 0, 0, 0, 0⟩, fun _ => rfl, by decide, fun _ => rfl, fun _ => rfl⟩
instance opA20I : Ope A20I := ⟨.int .u64 :: (.int .u64 :: (.int .u64 :: (.int .u64 :: (.int .u64 :: (.int .u64 :: (.int .u64 :: (.int .u64 :: (.int .u64 :: (.int .u64 :: (.int .u64 :: (.int .u64 :: (.int .u64 :: (.int .u64 :: (.int .u64 :: (.int .u64 :: (.int .u64 :: (.int .u64 :: (.int .u64 :: (.int .u64 :: ([])))))))))))))))))))), fun x => (Lit.int .u64 x.e0).wf = true ∧ (Lit.int .u64 x.e1).wf = true ∧ (Lit.int .u64 x.e2).wf = true ∧ (Lit.int .u64 x.e3).wf = true ∧ (Lit.int .u64 x.e4).wf = true ∧ (Lit.int .u64 x.e5).wf = true ∧ (Lit.int .u64 x.e6).wf = true ∧ (Lit.int .u64 x.e7).wf = true ∧ (Lit.int .u64 x.e8).wf = true ∧ (Lit.int .u64 x.e9).wf = true ∧ (Lit.int .u64 x.e10).wf = true ∧ (Lit.int .u64 x.e11).wf = true ∧ (Lit.int .u64 x.e12).wf = true ∧ (Lit.int .u64 x.e13).wf = true ∧ (Lit.int .u64 x.e14).wf = true ∧ (Lit.int .u64 x.e15).wf = true ∧ (Lit.int .u64 x.e16).wf = true ∧ (Lit.int .u64 x.e17).wf = true ∧ (Lit.int .u64 x.e18).wf = true ∧ (Lit.int .u64 x.e19).wf = true, fun can h => by
  obtain ⟨xe0, _, rfl, oe0, h⟩ := op_int h
  obtain ⟨xe1, _, rfl, oe1, h⟩ := op_int h
  obtain ⟨xe2, _, rfl, oe2, h⟩ := op_int h
  obtain ⟨xe3, _, rfl, oe3, h⟩ := op_int h
  obtain ⟨xe4, _, rfl, oe4, h⟩ := op_int h
  obtain ⟨xe5, _, rfl, oe5, h⟩ := op_int h
  obtain ⟨xe6, _, rfl, oe6, h⟩ := op_int h
  obtain ⟨xe7, _, rfl, oe7, h⟩ := op_int h
  obtain ⟨xe8, _, rfl, oe8, h⟩ := op_int h
  obtain ⟨xe9, _, rfl, oe9, h⟩ := op_int h
  obtain ⟨xe10, _, rfl, oe10, h⟩ := op_int h
  obtain ⟨xe11, _, rfl, oe11, h⟩ := op_int h
  obtain ⟨xe12, _, rfl, oe12, h⟩ := op_int h
  obtain ⟨xe13, _, rfl, oe13, h⟩ := op_int h
  obtain ⟨xe14, _, rfl, oe14, h⟩ := op_int h
  obtain ⟨xe15, _, rfl, oe15, h⟩ := op_int h
  obtain ⟨xe16, _, rfl, oe16, h⟩ := op_int h
  obtain ⟨xe17, _, rfl, oe17, h⟩ := op_int h
  obtain ⟨xe18, _, rfl, oe18, h⟩ := op_int h
  obtain ⟨xe19, _, rfl, oe19, h⟩ := op_int h
  obtain rfl := ces_nil h
  exact ⟨⟨xe0, xe1, xe2, xe3, xe4, xe5, xe6, xe7, xe8, xe9, xe10, xe11, xe12, xe13, xe14, xe15, xe16, xe17, xe18, xe19⟩, rfl, oe0, oe1, oe2, oe3, oe4, oe5, oe6, oe7, oe8, oe9, oe10, oe11, oe12, oe13, oe14, oe15, oe16, oe17, oe18, oe19⟩⟩
structure A65I where
  e0 : Int
  e1 : Int
  e2 : Int
  e3 : Int
  e4 : Int
  e5 : Int
  e6 : Int
  e7 : Int
  e8 : Int
  e9 : Int
  e10 : Int
  e11 : Int
  e12 : Int
  e13 : Int
  e14 : Int
  e15 : Int
  e16 : Int
  e17 : Int
  e18 : Int
  e19 : Int
  e20 : Int
  e21 : Int
  e22 : Int
  e23 : Int
  e24 : Int
  e25 : Int
  e26 : Int
  e27 : Int
  e28 : Int
  e29 : Int
  e30 : Int
  e31 : Int
  e32 : Int
  e33 : Int
  e34 : Int
  e35 : Int
  e36 : Int
  e37 : Int
  e38 : Int
  e39 : Int
  e40 : Int
  e41 : Int
  e42 : Int
  e43 : Int
  e44 : Int
  e45 : Int
  e46 : Int
  e47 : Int
  e48 : Int
  e49 : Int
  e50 : Int
  e51 : Int
  e52 : Int
  e53 : Int
  e54 : Int
  e55 : Int
  e56 : Int
  e57 : Int
  e58 : Int
  e59 : Int
  e60 : Int
  e61 : Int
  e62 : Int
  e63 : Int
  e64 : Int
instance flA65I : Flat A65I := ⟨65, fun x => [.int .u8 x.e0, .int .u8 x.e1, .int .u8 x.e2, .int .u8 x.e3, .int .u8 x.e4, .int .u8 x.e5, .int .u8 x.e6, .int .u8 x.e7, .int .u8 x.e8, .int .u8 x.e9, .int .u8 x.e10, .int .u8 x.e11, .int .u8 x.e12, .int .u8 x.e13, .int .u8 x.e14, .int .u8 x.e15, .int .u8 x.e16, .int .u8 x.e17, .int .u8 x.e18, .int .u8 x.e19, .int .u8 x.e20, .int .u8 x.e21, .int .u8 x.e22, .int .u8 x.e23, .int .u8 x.e24, .int .u8 x.e25, .int .u8 x.e26, .int .u8 x.e27, .int .u8 x.e28, .int .u8 x.e29, .int .u8 x.e30, .int .u8 x.e31, .int .u8 x.e32, .int .u8 x.e33, .int .u8 x.e34, .int .u8 x.e35, .int .u8 x.e36, .int .u8 x.e37, .int .u8 x.e38, .int .u8 x.e39, .int .u8 x.e40, .int .u8 x.e41, .int .u8 x.e42, .int .u8 x.e43, .int .u8 x.e44, .int .u8 x.e45, .int .u8 x.e46, .int .u8 x.e47, .int .u8 x.e48, .int .u8 x.e49, .int .u8 x.e50, .int .u8 x.e51, .int .u8 x.e52, .int .u8 x.e53, .int .u8 x.e54, .int .u8 x.e55, .int .u8 x.e56, .int .u8 x.e57, .int .u8 x.e58, .int .u8 x.e59, .int .u8 x.e60, .int .u8 x.e61, .int .u8 x.e62, .int .u8 x.e63, .int .u8 x.e64], ⟨0, 0, 0, 0, 0, 0, 0, 0, 0, 0, 0, 0, 0, 0, 0, 0, 0, 0, 0, 0, 0, 0, 0, 0, 0, 0, 0, 0, 0, 0, 0, 0, 0, 0, 0, 0, 0, 0, 0, 0, 0, 0, 0, 0, 0, 0, 0, 0, 0, 0, 0, 0, 0, 0, 0, 0, 0, 0, 0, 0, 0, 0, 0, 0, 0⟩, fun _ => rfl, by decide, fun _ => rfl, fun _ => rfl⟩
instance opA65I : Ope A65I := ⟨.int .u8 :: (.int .u8 :: (.int .u8 :: (.int .u8 :: (.int .u8 :: (.int .u8 :: (.int .u8 :: (.int .u8 :: (.int .u8 :: (.int .u8 :: (.int .u8 :: (.int .u8 :: (.int .u8 :: (.int .u8 :: (.int .u8 :: (.int .u8 :: (.int .u8 :: (.int .u8 :: (.int .u8 :: (.int .u8 :: (.int .u8 :: (.int .u8 :: (.int .u8 :: (.int .u8 :: (.int .u8 :: (.int .u8 :: (.int .u8 :: (.int .u8 :: (.int .u8 :: (.int .u8 :: (.int .u8 :: (.int .u8 :: (.int .u8 :: (.int .u8 :: (.int .u8 :: (.int .u8 :: (.int .u8 :: (.int .u8 :: (.int .u8 :: (.int .u8 :: (.int .u8 :: (.int .u8 :: (.int .u8 :: (.int .u8 :: (.int .u8 :: (.int .u8 :: (.int .u8 :: (.int .u8 :: (.int .u8 :: (.int .u8 :: (.int .u8 :: (.int .u8 :: (.int .u8 :: (.int .u8 :: (.int .u8 :: (.int .u8 :: (.int .u8 :: (.int .u8 :: (.int .u8 :: (.int .u8 :: (.int .u8 :: (.int .u8 :: (.int .u8 :: (.int .u8 :: (.int .u8 :: ([]))))))))))))))))))))))))))))))))))))))))))))))))))))))))))))))))), fun x => (Lit.int .u8 x.e0).wf = true ∧ (Lit.int .u8 x.e1).wf = true ∧ (Lit.int .u8 x.e2).wf = true ∧ (Lit.int .u8 x.e3).wf = true ∧ (Lit.int .u8 x.e4).wf = true ∧ (Lit.int .u8 x.e5).wf = true ∧ (Lit.int .u8 x.e6).wf = true ∧ (Lit.int .u8 x.e7).wf = true ∧ (Lit.int .u8 x.e8).wf = true ∧ (Lit.int .u8 x.e9).wf = true ∧ (Lit.int .u8 x.e10).wf = true ∧ (Lit.int .u8 x.e11).wf = true ∧ (Lit.int .u8 x.e12).wf = true ∧ (Lit.int .u8 x.e13).wf = true ∧ (Lit.int .u8 x.e14).wf = true ∧ (Lit.int .u8 x.e15).wf = true ∧ (Lit.int .u8 x.e16).wf = true ∧ (Lit.int .u8 x.e17).wf = true ∧ (Lit.int .u8 x.e18).wf = true ∧ (Lit.int .u8 x.e19).wf = true ∧ (Lit.int .u8 x.e20).wf = true ∧ (Lit.int .u8 x.e21).wf = true ∧ (Lit.int .u8 x.e22).wf = true ∧ (Lit.int .u8 x.e23).wf = true ∧ (Lit.int .u8 x.e24).wf = true ∧ (Lit.int .u8 x.e25).wf = true ∧ (Lit.int .u8 x.e26).wf = true ∧ (Lit.int .u8 x.e27).wf = true ∧ (Lit.int .u8 x.e28).wf = true ∧ (Lit.int .u8 x.e29).wf = true ∧ (Lit.int .u8 x.e30).wf = true ∧ (Lit.int .u8 x.e31).wf = true ∧ (Lit.int .u8 x.e32).wf = true ∧ (Lit.int .u8 x.e33).wf = true ∧ (Lit.int .u8 x.e34).wf = true ∧ (Lit.int .u8 x.e35).wf = true ∧ (Lit.int .u8 x.e36).wf = true ∧ (Lit.int .u8 x.e37).wf = true ∧ (Lit.int .u8 x.e38).wf = true ∧ (Lit.int .u8 x.e39).wf = true ∧ (Lit.int .u8 x.e40).wf = true ∧ (Lit.int .u8 x.e41).wf = true ∧ (Lit.int .u8 x.e42).wf = true ∧ (Lit.int .u8 x.e43).wf = true ∧ (Lit.int .u8 x.e44).wf = true ∧ (Lit.int .u8 x.e45).wf = true ∧ (Lit.int .u8 x.e46).wf = true ∧ (Lit.int .u8 x.e47).wf = true ∧ (Lit.int .u8 x.e48).wf = true ∧ (Lit.int .u8 x.e49).wf = true ∧ (Lit.int .u8 x.e50).wf = true ∧ (Lit.int .u8 x.e51).wf = true ∧ (Lit.int .u8 x.e52).wf = true ∧ (Lit.int .u8 x.e53).wf = true ∧ (Lit.int .u8 x.e54).wf = true ∧ (Lit.int .u8 x.e55).wf = true ∧ (Lit.int .u8 x.e56).wf = true ∧ (Lit.int .u8 x.e57).wf = true ∧ (Lit.int .u8 x.e58).wf = true ∧ (Lit.int .u8 x.e59).wf = true ∧ (Lit.int .u8 x.e60).wf = true ∧ (Lit.int .u8 x.e61).wf = true ∧ (Lit.int .u8 x.e62).wf = true ∧ (Lit.int .u8 x.e63).wf = true ∧ (Lit.int .u8 x.e64).wf = true, fun can h => by
  obtain ⟨xe0, _, rfl, oe0, h⟩ := op_int h
  obtain ⟨xe1, _, rfl, oe1, h⟩ := op_int h
  obtain ⟨xe2, _, rfl, oe2, h⟩ := op_int h
  obtain ⟨xe3, _, rfl, oe3, h⟩ := op_int h
  obtain ⟨xe4, _, rfl, oe4, h⟩ := op_int h
  obtain ⟨xe5, _, rfl, oe5, h⟩ := op_int h
  obtain ⟨xe6, _, rfl, oe6, h⟩ := op_int h
  obtain ⟨xe7, _, rfl, oe7, h⟩ := op_int h
  obtain ⟨xe8, _, rfl, oe8, h⟩ := op_int h
  obtain ⟨xe9, _, rfl, oe9, h⟩ := op_int h
  obtain ⟨xe10, _, rfl, oe10, h⟩ := op_int h
  obtain ⟨xe11, _, rfl, oe11, h⟩ := op_int h
  obtain ⟨xe12, _, rfl, oe12, h⟩ := op_int h
  obtain ⟨xe13, _, rfl, oe13, h⟩ := op_int h
  obtain ⟨xe14, _, rfl, oe14, h⟩ := op_int h
  obtain ⟨xe15, _, rfl, oe15, h⟩ := op_int h
  obtain ⟨xe16, _, rfl, oe16, h⟩ := op_int h
  obtain ⟨xe17, _, rfl, oe17, h⟩ := op_int h
  obtain ⟨xe18, _, rfl, oe18, h⟩ := op_int h
  obtain ⟨xe19, _, rfl, oe19, h⟩ := op_int h
  obtain ⟨xe20, _, rfl, oe20, h⟩ := op_int h
  obtain ⟨xe21, _, rfl, oe21, h⟩ := op_int h
  obtain ⟨xe22, _, rfl, oe22, h⟩ := op_int h
  obtain ⟨xe23, _, rfl, oe23, h⟩ := op_int h
  obtain ⟨xe24, _, rfl, oe24, h⟩ := op_int h
  obtain ⟨xe25, _, rfl, oe25, h⟩ := op_int h
  obtain ⟨xe26, _, rfl, oe26, h⟩ := op_int h
  obtain ⟨xe27, _, rfl, oe27, h⟩ := op_int h
  obtain ⟨xe28, _, rfl, oe28, h⟩ := op_int h
  obtain ⟨xe29, _, rfl, oe29, h⟩ := op_int h
  obtain ⟨xe30, _, rfl, oe30, h⟩ := op_int h
  obtain ⟨xe31, _, rfl, oe31, h⟩ := op_int h
  obtain ⟨xe32, _, rfl, oe32, h⟩ := op_int h
  obtain ⟨xe33, _, rfl, oe33, h⟩ := op_int h
  obtain ⟨xe34, _, rfl, oe34, h⟩ := op_int h
  obtain ⟨xe35, _, rfl, oe35, h⟩ := op_int h
  obtain ⟨xe36, _, rfl, oe36, h⟩ := op_int h
  obtain ⟨xe37, _, rfl, oe37, h⟩ := op_int h
  obtain ⟨xe38, _, rfl, oe38, h⟩ := op_int h
  obtain ⟨xe39, _, rfl, oe39, h⟩ := op_int h
  obtain ⟨xe40, _, rfl, oe40, h⟩ := op_int h
  obtain ⟨xe41, _, rfl, oe41, h⟩ := op_int h
  obtain ⟨xe42, _, rfl, oe42, h⟩ := op_int h
  obtain ⟨xe43, _, rfl, oe43, h⟩ := op_int h
  obtain ⟨xe44, _, rfl, oe44, h⟩ := op_int h
  obtain ⟨xe45, _, rfl, oe45, h⟩ := op_int h
  obtain ⟨xe46, _, rfl, oe46, h⟩ := op_int h
  obtain ⟨xe47, _, rfl, oe47, h⟩ := op_int h
  obtain ⟨xe48, _, rfl, oe48, h⟩ := op_int h
  obtain ⟨xe49, _, rfl, oe49, h⟩ := op_int h
  obtain ⟨xe50, _, rfl, oe50, h⟩ := op_int h
  obtain ⟨xe51, _, rfl, oe51, h⟩ := op_int h
  obtain ⟨xe52, _, rfl, oe52, h⟩ := op_int h
  obtain ⟨xe53, _, rfl, oe53, h⟩ := op_int h
  obtain ⟨xe54, _, rfl, oe54, h⟩ := op_int h
  obtain ⟨xe55, _, rfl, oe55, h⟩ := op_int h
  obtain ⟨xe56, _, rfl, oe56, h⟩ := op_int h
  obtain ⟨xe57, _, rfl, oe57, h⟩ := op_int h
  obtain ⟨xe58, _, rfl, oe58, h⟩ := op_int h
  obtain ⟨xe59, _, rfl, oe59, h⟩ := op_int h
  obtain ⟨xe60, _, rfl, oe60, h⟩ := op_int h
  obtain ⟨xe61, _, rfl, oe61, h⟩ := op_int h
  obtain ⟨xe62, _, rfl, oe62, h⟩ := op_int h
  obtain ⟨xe63, _, rfl, oe63, h⟩ := op_int h
  obtain ⟨xe64, _, rfl, oe64, h⟩ := op_int h
  obtain rfl := ces_nil h
  exact ⟨⟨xe0, xe1, xe2, xe3, xe4, xe5, xe6, xe7, xe8, xe9, xe10, xe11, xe12, xe13, xe14, xe15, xe16, xe17, xe18, xe19, xe20, xe21, xe22, xe23, xe24, xe25, xe26, xe27, xe28, xe29, xe30, xe31, xe32, xe33, xe34, xe35, xe36, xe37, xe38, xe39, xe40, xe41, xe42, xe43, xe44, xe45, xe46, xe47, xe48, xe49, xe50, xe51, xe52, xe53, xe54, xe55, xe56, xe57, xe58, xe59, xe60, xe61, xe62, xe63, xe64⟩, rfl, oe0, oe1, oe2, oe3, oe4, oe5, oe6, oe7, oe8, oe9, oe10, oe11, oe12, oe13, oe14, oe15, oe16, oe17, oe18, oe19, oe20, oe21, oe22, oe23, oe24, oe25, oe26, oe27, oe28, oe29, oe30, oe31, oe32, oe33, oe34, oe35, oe36, oe37, oe38, oe39, oe40, oe41, oe42, oe43, oe44, oe45, oe46, oe47, oe48, oe49, oe50, oe51, oe52, oe53, oe54, oe55, oe56, oe57, oe58, oe59, oe60, oe61, oe62, oe63, oe64⟩⟩
structure A32I where
  e0 : Int
  e1 : Int
  e2 : Int
  e3 : Int
  e4 : Int
  e5 : Int
  e6 : Int
  e7 : Int
  e8 : Int
  e9 : Int
  e10 : Int
  e11 : Int
  e12 : Int
  e13 : Int
  e14 : Int
  e15 : Int
  e16 : Int
  e17 : Int
  e18 : Int
  e19 : Int
  e20 : Int
  e21 : Int
  e22 : Int
  e23 : Int
  e24 : Int
  e25 : Int
  e26 : Int
  e27 : Int
  e28 : Int
  e29 : Int
  e30 : Int
  e31 : Int
instance flA32I : Flat A32I := ⟨32, fun x => [.int .u8 x.e0, .int .u8 x.e1, .int .u8 x.e2, .int .u8 x.e3, .int .u8 x.e4, .int .u8 x.e5, .int .u8 x.e6, .int .u8 x.e7, .int .u8 x.e8, .int .u8 x.e9, .int .u8 x.e10, .int .u8 x.e11, .int .u8 x.e12, .int .u8 x.e13, .int .u8 x.e14, .int .u8 x.e15, .int .u8 x.e16, .int .u8 x.e17, .int .u8 x.e18, .int .u8 x.e19, .int .u8 x.e20, .int .u8 x.e21, .int .u8 x.e22, .int .u8 x.e23, .int .u8 x.e24, .int .u8 x.e25, .int .u8 x.e26, .int .u8 x.e27, .int .u8 x.e28, .int .u8 x.e29, .int .u8 x.e30, .int .u8 x.e31], ⟨0, 0, 0, 0, 0, 0, 0, 0, 0, 0, 0, 0, 0, 0, 0, 0, 0, 0, 0, 0, 0, 0, 0, 0, 0, 0, 0, 0, 0, 0, 0, 0⟩, fun _ => rfl, by decide, fun _ => rfl, fun _ => rfl⟩
instance opA32I : Ope A32I := ⟨.int .u8 :: (.int .u8 :: (.int .u8 :: (.int .u8 :: (.int .u8 :: (.int .u8 :: (.int .u8 :: (.int .u8 :: (.int .u8 :: (.int .u8 :: (.int .u8 :: (.int .u8 :: (.int .u8 :: (.int .u8 :: (.int .u8 :: (.int .u8 :: (.int .u8 :: (.int .u8 :: (.int .u8 :: (.int .u8 :: (.int .u8 :: (.int .u8 :: (.int .u8 :: (.int .u8 :: (.int .u8 :: (.int .u8 :: (.int .u8 :: (.int .u8 :: (.int .u8 :: (.int .u8 :: (.int .u8 :: (.int .u8 :: ([])))))))))))))))))))))))))))))))), fun x => (Lit.int .u8 x.e0).wf = true ∧ (Lit.int .u8 x.e1).wf = true ∧ (Lit.int .u8 x.e2).wf = true ∧ (Lit.int .u8 x.e3).wf = true ∧ (Lit.int .u8 x.e4).wf = true ∧ (Lit.int .u8 x.e5).wf = true ∧ (Lit.int .u8 x.e6).wf = true ∧ (Lit.int .u8 x.e7).wf = true ∧ (Lit.int .u8 x.e8).wf = true ∧ (Lit.int .u8 x.e9).wf = true ∧ (Lit.int .u8 x.e10).wf = true ∧ (Lit.int .u8 x.e11).wf = true ∧ (Lit.int .u8 x.e12).wf = true ∧ (Lit.int .u8 x.e13).wf = true ∧ (Lit.int .u8 x.e14).wf = true ∧ (Lit.int .u8 x.e15).wf = true ∧ (Lit.int .u8 x.e16).wf = true ∧ (Lit.int .u8 x.e17).wf = true ∧ (Lit.int .u8 x.e18).wf = true ∧ (Lit.int .u8 x.e19).wf = true ∧ (Lit.int .u8 x.e20).wf = true ∧ (Lit.int .u8 x.e21).wf = true ∧ (Lit.int .u8 x.e22).wf = true ∧ (Lit.int .u8 x.e23).wf = true ∧ (Lit.int .u8 x.e24).wf = true ∧ (Lit.int .u8 x.e25).wf = true ∧ (Lit.int .u8 x.e26).wf = true ∧ (Lit.int .u8 x.e27).wf = true ∧ (Lit.int .u8 x.e28).wf = true ∧ (Lit.int .u8 x.e29).wf = true ∧ (Lit.int .u8 x.e30).wf = true ∧ (Lit.int .u8 x.e31).wf = true, fun can h => by
  obtain ⟨xe0, _, rfl, oe0, h⟩ := op_int h
  obtain ⟨xe1, _, rfl, oe1, h⟩ := op_int h
  obtain ⟨xe2, _, rfl, oe2, h⟩ := op_int h
  obtain ⟨xe3, _, rfl, oe3, h⟩ := op_int h
  obtain ⟨xe4, _, rfl, oe4, h⟩ := op_int h
  obtain ⟨xe5, _, rfl, oe5, h⟩ := op_int h
  obtain ⟨xe6, _, rfl, oe6, h⟩ := op_int h
  obtain ⟨xe7, _, rfl, oe7, h⟩ := op_int h
  obtain ⟨xe8, _, rfl, oe8, h⟩ := op_int h
  obtain ⟨xe9, _, rfl, oe9, h⟩ := op_int h
  obtain ⟨xe10, _, rfl, oe10, h⟩ := op_int h
  obtain ⟨xe11, _, rfl, oe11, h⟩ := op_int h
  obtain ⟨xe12, _, rfl, oe12, h⟩ := op_int h
  obtain ⟨xe13, _, rfl, oe13, h⟩ := op_int h
  obtain ⟨xe14, _, rfl, oe14, h⟩ := op_int h
  obtain ⟨xe15, _, rfl, oe15, h⟩ := op_int h
  obtain ⟨xe16, _, rfl, oe16, h⟩ := op_int h
  obtain ⟨xe17, _, rfl, oe17, h⟩ := op_int h
  obtain ⟨xe18, _, rfl, oe18, h⟩ := op_int h
  obtain ⟨xe19, _, rfl, oe19, h⟩ := op_int h
  obtain ⟨xe20, _, rfl, oe20, h⟩ := op_int h
  obtain ⟨xe21, _, rfl, oe21, h⟩ := op_int h
  obtain ⟨xe22, _, rfl, oe22, h⟩ := op_int h
  obtain ⟨xe23, _, rfl, oe23, h⟩ := op_int h
  obtain ⟨xe24, _, rfl, oe24, h⟩ := op_int h
  obtain ⟨xe25, _, rfl, oe25, h⟩ := op_int h
  obtain ⟨xe26, _, rfl, oe26, h⟩ := op_int h
  obtain ⟨xe27, _, rfl, oe27, h⟩ := op_int h
  obtain ⟨xe28, _, rfl, oe28, h⟩ := op_int h
  obtain ⟨xe29, _, rfl, oe29, h⟩ := op_int h
  obtain ⟨xe30, _, rfl, oe30, h⟩ := op_int h
  obtain ⟨xe31, _, rfl, oe31, h⟩ := op_int h
  obtain rfl := ces_nil h
  exact ⟨⟨xe0, xe1, xe2, xe3, xe4, xe5, xe6, xe7, xe8, xe9, xe10, xe11, xe12, xe13, xe14, xe15, xe16, xe17, xe18, xe19, xe20, xe21, xe22, xe23, xe24, xe25, xe26, xe27, xe28, xe29, xe30, xe31⟩, rfl, oe0, oe1, oe2, oe3, oe4, oe5, oe6, oe7, oe8, oe9, oe10, oe11, oe12, oe13, oe14, oe15, oe16, oe17, oe18, oe19, oe20, oe21, oe22, oe23, oe24, oe25, oe26, oe27, oe28, oe29, oe30, oe31⟩⟩
structure A64I where
  e0 : Int
  e1 : Int
  e2 : Int
  e3 : Int
  e4 : Int
  e5 : Int
  e6 : Int
  e7 : Int
  e8 : Int
  e9 : Int
  e10 : Int
  e11 : Int
  e12 : Int
  e13 : Int
  e14 : Int
  e15 : Int
  e16 : Int
  e17 : Int
  e18 : Int
  e19 : Int
  e20 : Int
  e21 : Int
  e22 : Int
  e23 : Int
  e24 : Int
  e25 : Int
  e26 : Int
  e27 : Int
  e28 : Int
  e29 : Int
  e30 : Int
  e31 : Int
  e32 : Int
  e33 : Int
  e34 : Int
  e35 : Int
  e36 : Int
  e37 : Int
  e38 : Int
  e39 : Int
  e40 : Int
  e41 : Int
  e42 : Int
  e43 : Int
  e44 : Int
  e45 : Int
  e46 : Int
  e47 : Int
  e48 : Int
  e49 : Int
  e50 : Int
  e51 : Int
  e52 : Int
  e53 : Int
  e54 : Int
  e55 : Int
  e56 : Int
  e57 : Int
  e58 : Int
  e59 : Int
  e60 : Int
  e61 : Int
  e62 : Int
  e63 : Int
instance flA64I : Flat A64I := ⟨64, fun x => [.int .u8 x.e0, .int .u8 x.e1, .int .u8 x.e2, .int .u8 x.e3, .int .u8 x.e4, .int .u8 x.e5, .int .u8 x.e6, .int .u8 x.e7, .int .u8 x.e8, .int .u8 x.e9, .int .u8 x.e10, .int .u8 x.e11, .int .u8 x.e12, .int .u8 x.e13, .int .u8 x.e14, .int .u8 x.e15, .int .u8 x.e16, .int .u8 x.e17, .int .u8 x.e18, .int .u8 x.e19, .int .u8 x.e20, .int .u8 x.e21, .int .u8 x.e22, .int .u8 x.e23, .int .u8 x.e24, .int .u8 x.e25, .int .u8 x.e26, .int .u8 x.e27, .int .u8 x.e28, .int .u8 x.e29, .int .u8 x.e30, .int .u8 x.e31, .int .u8 x.e32, .int .u8 x.e33, .int .u8 x.e34, .int .u8 x.e35, .int .u8 x.e36, .int .u8 x.e37, .int .u8 x.e38, .int .u8 x.e39, .int .u8 x.e40, .int .u8 x.e41, .int .u8 x.e42, .int .u8 x.e43, .int .u8 x.e44, .int .u8 x.e45, .int .u8 x.e46, .int .u8 x.e47, .int .u8 x.e48, .int .u8 x.e49, .int .u8 x.e50, .int .u8 x.e51, .int .u8 x.e52, .int .u8 x.e53, .int .u8 x.e54, .int .u8 x.e55, .int .u8 x.e56, .int .u8 x.e57, .int .u8 x.e58, .int .u8 x.e59, .int .u8 x.e60, .int .u8 x.e61, .int .u8 x.e62, .int .u8 x.e63], ⟨0, 0, 0, 0, 0, 0, 0, 0, 0, 0, 0, 0, 0, 0, 0, 0, 0, 0, 0, 0, 0, 0, 0, 0, 0, 0, 0, 0, 0, 0, 0, 0, 0, 0, 0, 0, 0, 0, 0, 0, 0, 0, 0, 0, 0, 0, 0, 0, 0, 0, 0, 0, 0, 0, 0, 0, 0, 0, 0, 0, 0, 0, 0, 0⟩, fun _ => rfl, by decide, fun _ => rfl, fun _ => rfl⟩
instance opA64I : Ope A64I := ⟨.int .u8 :: (.int .u8 :: (.int .u8 :: (.int .u8 :: (.int .u8 :: (.int .u8 :: (.int .u8 :: (.int .u8 :: (.int .u8 :: (.int .u8 :: (.int .u8 :: (.int .u8 :: (.int .u8 :: (.int .u8 :: (.int .u8 :: (.int .u8 :: (.int .u8 :: (.int .u8 :: (.int .u8 :: (.int .u8 :: (.int .u8 :: (.int .u8 :: (.int .u8 :: (.int .u8 :: (.int .u8 :: (.int .u8 :: (.int .u8 :: (.int .u8 :: (.int .u8 :: (.int .u8 :: (.int .u8 :: (.int .u8 :: (.int .u8 :: (.int .u8 :: (.int .u8 :: (.int .u8 :: (.int .u8 :: (.int .u8 :: (.int .u8 :: (.int .u8 :: (.int .u8 :: (.int .u8 :: (.int .u8 :: (.int .u8 :: (.int .u8 :: (.int .u8 :: (.int .u8 :: (.int .u8 :: (.int .u8 :: (.int .u8 :: (.int .u8 :: (.int .u8 :: (.int .u8 :: (.int .u8 :: (.int .u8 :: (.int .u8 :: (.int .u8 :: (.int .u8 :: (.int .u8 :: (.int .u8 :: (.int .u8 :: (.int .u8 :: (.int .u8 :: (.int .u8 :: ([])))))))))))))))))))))))))))))))))))))))))))))))))))))))))))))))), fun x => (Lit.int .u8 x.e0).wf = true ∧ (Lit.int .u8 x.e1).wf = true ∧ (Lit.int .u8 x.e2).wf = true ∧ (Lit.int .u8 x.e3).wf = true ∧ (Lit.int .u8 x.e4).wf = true ∧ (Lit.int .u8 x.e5).wf = true ∧ (Lit.int .u8 x.e6).wf = true ∧ (Lit.int .u8 x.e7).wf = true ∧ (Lit.int .u8 x.e8).wf = true ∧ (Lit.int .u8 x.e9).wf = true ∧ (Lit.int .u8 x.e10).wf = true ∧ (Lit.int .u8 x.e11).wf = true ∧ (Lit.int .u8 x.e12).wf = true ∧ (Lit.int .u8 x.e13).wf = true ∧ (Lit.int .u8 x.e14).wf = true ∧ (Lit.int .u8 x.e15).wf = true ∧ (Lit.int .u8 x.e16).wf = true ∧ (Lit.int .u8 x.e17).wf = true ∧ (Lit.int .u8 x.e18).wf = true ∧ (Lit.int .u8 x.e19).wf = true ∧ (Lit.int .u8 x.e20).wf = true ∧ (Lit.int .u8 x.e21).wf = true ∧ (Lit.int .u8 x.e22).wf = true ∧ (Lit.int .u8 x.e23).wf = true ∧ (Lit.int .u8 x.e24).wf = true ∧ (Lit.int .u8 x.e25).wf = true ∧ (Lit.int .u8 x.e26).wf = true ∧ (Lit.int .u8 x.e27).wf = true ∧ (Lit.int .u8 x.e28).wf = true ∧ (Lit.int .u8 x.e29).wf = true ∧ (Lit.int .u8 x.e30).wf = true ∧ (Lit.int .u8 x.e31).wf = true ∧ (Lit.int .u8 x.e32).wf = true ∧ (Lit.int .u8 x.e33).wf = true ∧ (Lit.int .u8 x.e34).wf = true ∧ (Lit.int .u8 x.e35).wf = true ∧ (Lit.int .u8 x.e36).wf = true ∧ (Lit.int .u8 x.e37).wf = true ∧ (Lit.int .u8 x.e38).wf = true ∧ (Lit.int .u8 x.e39).wf = true ∧ (Lit.int .u8 x.e40).wf = true ∧ (Lit.int .u8 x.e41).wf = true ∧ (Lit.int .u8 x.e42).wf = true ∧ (Lit.int .u8 x.e43).wf = true ∧ (Lit.int .u8 x.e44).wf = true ∧ (Lit.int .u8 x.e45).wf = true ∧ (Lit.int .u8 x.e46).wf = true ∧ (Lit.int .u8 x.e47).wf = true ∧ (Lit.int .u8 x.e48).wf = true ∧ (Lit.int .u8 x.e49).wf = true ∧ (Lit.int .u8 x.e50).wf = true ∧ (Lit.int .u8 x.e51).wf = true ∧ (Lit.int .u8 x.e52).wf = true ∧ (Lit.int .u8 x.e53).wf = true ∧ (Lit.int .u8 x.e54).wf = true ∧ (Lit.int .u8 x.e55).wf = true ∧ (Lit.int .u8 x.e56).wf = true ∧ (Lit.int .u8 x.e57).wf = true ∧ (Lit.int .u8 x.e58).wf = true ∧ (Lit.int .u8 x.e59).wf = true ∧ (Lit.int .u8 x.e60).wf = true ∧ (Lit.int .u8 x.e61).wf = true ∧ (Lit.int .u8 x.e62).wf = true ∧ (Lit.int .u8 x.e63).wf = true, fun can h => by
  obtain ⟨xe0, _, rfl, oe0, h⟩ := op_int h
  obtain ⟨xe1, _, rfl, oe1, h⟩ := op_int h
  obtain ⟨xe2, _, rfl, oe2, h⟩ := op_int h
  obtain ⟨xe3, _, rfl, oe3, h⟩ := op_int h
  obtain ⟨xe4, _, rfl, oe4, h⟩ := op_int h
  obtain ⟨xe5, _, rfl, oe5, h⟩ := op_int h
  obtain ⟨xe6, _, rfl, oe6, h⟩ := op_int h
  obtain ⟨xe7, _, rfl, oe7, h⟩ := op_int h
  obtain ⟨xe8, _, rfl, oe8, h⟩ := op_int h
  obtain ⟨xe9, _, rfl, oe9, h⟩ := op_int h
  obtain ⟨xe10, _, rfl, oe10, h⟩ := op_int h
  obtain ⟨xe11, _, rfl, oe11, h⟩ := op_int h
  obtain ⟨xe12, _, rfl, oe12, h⟩ := op_int h
  obtain ⟨xe13, _, rfl, oe13, h⟩ := op_int h
  obtain ⟨xe14, _, rfl, oe14, h⟩ := op_int h
  obtain ⟨xe15, _, rfl, oe15, h⟩ := op_int h
  obtain ⟨xe16, _, rfl, oe16, h⟩ := op_int h
  obtain ⟨xe17, _, rfl, oe17, h⟩ := op_int h
  obtain ⟨xe18, _, rfl, oe18, h⟩ := op_int h
  obtain ⟨xe19, _, rfl, oe19, h⟩ := op_int h
  obtain ⟨xe20, _, rfl, oe20, h⟩ := op_int h
  obtain ⟨xe21, _, rfl, oe21, h⟩ := op_int h
  obtain ⟨xe22, _, rfl, oe22, h⟩ := op_int h
  obtain ⟨xe23, _, rfl, oe23, h⟩ := op_int h
  obtain ⟨xe24, _, rfl, oe24, h⟩ := op_int h
  obtain ⟨xe25, _, rfl, oe25, h⟩ := op_int h
  obtain ⟨xe26, _, rfl, oe26, h⟩ := op_int h
  obtain ⟨xe27, _, rfl, oe27, h⟩ := op_int h
  obtain ⟨xe28, _, rfl, oe28, h⟩ := op_int h
  obtain ⟨xe29, _, rfl, oe29, h⟩ := op_int h
  obtain ⟨xe30, _, rfl, oe30, h⟩ := op_int h
  obtain ⟨xe31, _, rfl, oe31, h⟩ := op_int h
  obtain ⟨xe32, _, rfl, oe32, h⟩ := op_int h
  obtain ⟨xe33, _, rfl, oe33, h⟩ := op_int h
  obtain ⟨xe34, _, rfl, oe34, h⟩ := op_int h
  obtain ⟨xe35, _, rfl, oe35, h⟩ := op_int h
  obtain ⟨xe36, _, rfl, oe36, h⟩ := op_int h
  obtain ⟨xe37, _, rfl, oe37, h⟩ := op_int h
  obtain ⟨xe38, _, rfl, oe38, h⟩ := op_int h
  obtain ⟨xe39, _, rfl, oe39, h⟩ := op_int h
  obtain ⟨xe40, _, rfl, oe40, h⟩ := op_int h
  obtain ⟨xe41, _, rfl, oe41, h⟩ := op_int h
  obtain ⟨xe42, _, rfl, oe42, h⟩ := op_int h
  obtain ⟨xe43, _, rfl, oe43, h⟩ := op_int h
  obtain ⟨xe44, _, rfl, oe44, h⟩ := op_int h
  obtain ⟨xe45, _, rfl, oe45, h⟩ := op_int h
  obtain ⟨xe46, _, rfl, oe46, h⟩ := op_int h
  obtain ⟨xe47, _, rfl, oe47, h⟩ := op_int h
  obtain ⟨xe48, _, rfl, oe48, h⟩ := op_int h
  obtain ⟨xe49, _, rfl, oe49, h⟩ := op_int h
  obtain ⟨xe50, _, rfl, oe50, h⟩ := op_int h
  obtain ⟨xe51, _, rfl, oe51, h⟩ := op_int h
  obtain ⟨xe52, _, rfl, oe52, h⟩ := op_int h
  obtain ⟨xe53, _, rfl, oe53, h⟩ := op_int h
  obtain ⟨xe54, _, rfl, oe54, h⟩ := op_int h
  obtain ⟨xe55, _, rfl, oe55, h⟩ := op_int h
  obtain ⟨xe56, _, rfl, oe56, h⟩ := op_int h
  obtain ⟨xe57, _, rfl, oe57, h⟩ := op_int h
  obtain ⟨xe58, _, rfl, oe58, h⟩ := op_int h
  obtain ⟨xe59, _, rfl, oe59, h⟩ := op_int h
  obtain ⟨xe60, _, rfl, oe60, h⟩ := op_int h
  obtain ⟨xe61, _, rfl, oe61, h⟩ := op_int h
  obtain ⟨xe62, _, rfl, oe62, h⟩ := op_int h
  obtain ⟨xe63, _, rfl, oe63, h⟩ := op_int h
  obtain rfl := ces_nil h
  exact ⟨⟨xe0, xe1, xe2, xe3, xe4, xe5, xe6, xe7, xe8, xe9, xe10, xe11, xe12, xe13, xe14, xe15, xe16, xe17, xe18, xe19, xe20, xe21, xe22, xe23, xe24, xe25, xe26, xe27, xe28, xe29, xe30, xe31, xe32, xe33, xe34, xe35, xe36, xe37, xe38, xe39, xe40, xe41, xe42, xe43, xe44, xe45, xe46, xe47, xe48, xe49, xe50, xe51, xe52, xe53, xe54, xe55, xe56, xe57, xe58, xe59, xe60, xe61, xe62, xe63⟩, rfl, oe0, oe1, oe2, oe3, oe4, oe5, oe6, oe7, oe8, oe9, oe10, oe11, oe12, oe13, oe14, oe15, oe16, oe17, oe18, oe19, oe20, oe21, oe22, oe23, oe24, oe25, oe26, oe27, oe28, oe29, oe30, oe31, oe32, oe33, oe34, oe35, oe36, oe37, oe38, oe39, oe40, oe41, oe42, oe43, oe44, oe45, oe46, oe47, oe48, oe49, oe50, oe51, oe52, oe53, oe54, oe55, oe56, oe57, oe58, oe59, oe60, oe61, oe62, oe63⟩⟩

end

section
open Go Go.Dt Go.Proofs
set_option linter.unusedVariables false

/-! ### 32 -/
abbrev Epic_Right_1 : Bool → Value := fun r => .bool r
def Fpic_Right_1 (K : Nat) (a0 : Int) : Option Bool :=
  bif (decide (a0 < 0)) then
    some true
  else
    some (bif false then true else decide (a0 > 4294967295))
theorem cpic_Right_1 (K : Nat) (a0 : Int) : ∀ r, Fpic_Right_1 K a0 = some r → Con Tryd.prog 32 [.int .i64 a0] (Epic_Right_1 r) := by
  refine Con.lift Tryd.func32 (by kernel_rfl) rfl (fun _ => rfl) ?_
  unfold Fpic_Right_1
  exact
    L.gu mixed 9 _ (by kernel_rfl)
      (fun h1 =>
      L.ret _ mixed Tryd.func32 _ (by kernel_rfl) rfl)
      (fun h1 =>
      L.ret _ mixed Tryd.func32 _ (by kernel_rfl) rfl)
/-! ### 45 -/
abbrev Eslices_IndexFunc_pic_Right_1 : Int → Value := fun r => .int .i64 r
def Fslices_IndexFunc_pic_Right_1_2 (a0 : List Int) (a1 : Unit) : Nat → Int → Option Int
  | 0, _ => none
  | K + 1, p8 =>
    bif (decide (p8 < (↑a0.length : Int))) then
      bif inR p8 a0.length then
        (Fpic_Right_1 K (getR a0 p8.toNat)).bind fun u3 =>
        bif u3 then
          some p8
        else
          Fslices_IndexFunc_pic_Right_1_2 a0 a1 K (IntKind.i64.wrap (p8 + 1))
      else none
    else
      some (-1)
def Fslices_IndexFunc_pic_Right_1 (K : Nat) (a0 : List Int) (a1 : Unit) : Option Int :=
  Fslices_IndexFunc_pic_Right_1_2 a0 a1 K 0
def Hslices_IndexFunc_pic_Right_1_2 (fn : Func) (a0 : List Int) (a1 : Unit) (p8 : Int) : VS := headS fn 2 [(0, (lst a0)), (1, (Value.func (Fn.func (OfNat.ofNat 32)) (Array.mk []) (Array.mk []))), (7, (Value.int IntKind.i64 ((↑a0.length : Int)))), (8, .int .i64 p8)] []
theorem lslices_IndexFunc_pic_Right_1 (a0 : List Int) (a1 : Unit) : ∀ K : Nat, (∀ (p8 : Int), Lifts Tryd.prog 45 0 Eslices_IndexFunc_pic_Right_1 (Hslices_IndexFunc_pic_Right_1_2 Tryd.f45 a0 a1 p8) (Fslices_IndexFunc_pic_Right_1_2 a0 a1 K p8)) := by
  intro K
  induction K with
  | zero =>
    exact fun p8 => (by rw [Fslices_IndexFunc_pic_Right_1_2]; exact L.no)
  | succ K ih =>
    have IH2 := ih
    refine fun p8 => ?_
    · rw [Fslices_IndexFunc_pic_Right_1_2]
      exact
        L.br mixed 5 _ (by kernel_rfl)
          (fun h1 =>
          L.idx mixed 13 _ (rows a0) 1 IntKind.i64 _ (by kernel_rfl) (fun h2a h2b =>
          L.ld mixed 0 3 (rows a0) (p8.toNat * 1 + 0) (.int .i64 (getR a0 p8.toNat)) (by kernel_rfl) (load1_rows (i := p8.toNat) (d := 0) rfl (toNat_lt h2a h2b) (by kernel_rfl) (Nat.le_of_ble_eq_true (by kernel_rfl)) (by kernel_rfl)) <|
          L.callO mixed (fun u3 : Bool => .bool u3) (cpic_Right_1 K (getR a0 p8.toNat)) (by kernel_rfl) (fun u3 hu3 =>
          L.br mixed 1 _ (by kernel_rfl)
            (fun h4 =>
            L.ret _ mixed Tryd.func45 _ (by kernel_rfl) rfl)
            (fun h4 =>
            L.jump mixed 7 [0, 1, 7, 8] (by kernel_rfl) (IH2 (IntKind.i64.wrap (p8 + 1)))))))
          (fun h1 =>
          L.ret _ mixed Tryd.func45 _ (by kernel_rfl) rfl)
theorem cslices_IndexFunc_pic_Right_1 (K : Nat) (a0 : List Int) (a1 : Unit) : ∀ r, Fslices_IndexFunc_pic_Right_1 K a0 a1 = some r → Con Tryd.prog 45 [lst a0, .func (.func 32) ⟨[]⟩ ⟨[]⟩] (Eslices_IndexFunc_pic_Right_1 r) := by
  have IH2 := lslices_IndexFunc_pic_Right_1 a0 a1 K
  refine Con.lift Tryd.func45 (by kernel_rfl) rfl (fun _ => rfl) ?_
  unfold Fslices_IndexFunc_pic_Right_1
  exact
    L.jump mixed 13 [0, 1, 7, 8] (by kernel_rfl) (IH2 0)
/-! ### 31 -/
abbrev Eslices_ContainsFunc_pic_Right_1 : Bool → Value := fun r => .bool r
def Fslices_ContainsFunc_pic_Right_1 (K : Nat) (a0 : List Int) (a1 : Unit) : Option Bool :=
  (Fslices_IndexFunc_pic_Right_1 K a0 ()).bind fun u1 =>
  some (decide (u1 ≥ 0))
theorem cslices_ContainsFunc_pic_Right_1 (K : Nat) (a0 : List Int) (a1 : Unit) : ∀ r, Fslices_ContainsFunc_pic_Right_1 K a0 a1 = some r → Con Tryd.prog 31 [lst a0, .func (.func 32) ⟨[]⟩ ⟨[]⟩] (Eslices_ContainsFunc_pic_Right_1 r) := by
  refine Con.lift Tryd.func31 (by kernel_rfl) rfl (fun _ => rfl) ?_
  unfold Fslices_ContainsFunc_pic_Right_1
  exact
    L.callO mixed (fun u1 : Int => .int .i64 u1) (cslices_IndexFunc_pic_Right_1 K a0 ()) (by kernel_rfl) (fun u1 hu1 =>
    L.ret _ mixed Tryd.func31 _ (by kernel_rfl) rfl)
/-! ### 11 -/
abbrev Epic_Right : Bool → Value := fun r => .bool r
def Fpic_Right (K : Nat) (a0 : TImage) : Option Bool :=
  bif (decide (a0.W < 0)) then
    some false
  else
    bif (bif false then true else decide (a0.W > 256)) then
      some false
    else
      bif (bif false then true else decide (a0.H < 0)) then
        some false
      else
        bif (bif false then true else decide (a0.H > 256)) then
          some false
        else
          bif (bif false then true else (↑a0.L.length : Int) != IntKind.i64.wrap (a0.W * a0.H)) then
            some false
          else
            (Fslices_ContainsFunc_pic_Right_1 K a0.L ()).bind fun u6 =>
            some !u6
theorem cpic_Right (K : Nat) (a0 : TImage) : ∀ r, Fpic_Right K a0 = some r → Con Tryd.prog 11 [.agg ⟨[.int .i64 a0.W, .int .i64 a0.H, lst a0.L]⟩] (Epic_Right r) := by
  refine Con.lift Tryd.func11 (by kernel_rfl) rfl (fun _ => rfl) ?_
  unfold Fpic_Right
  exact
    L.gu mixed 12 _ (by kernel_rfl)
      (fun h1 =>
      L.ret _ mixed Tryd.func11 _ (by kernel_rfl) rfl)
      (fun h1 =>
      L.gu mixed 5 _ (by kernel_rfl)
        (fun h2 =>
        L.ret _ mixed Tryd.func11 _ (by kernel_rfl) rfl)
        (fun h2 =>
        L.gu mixed 5 _ (by kernel_rfl)
          (fun h3 =>
          L.ret _ mixed Tryd.func11 _ (by kernel_rfl) rfl)
          (fun h3 =>
          L.gu mixed 5 _ (by kernel_rfl)
            (fun h4 =>
            L.ret _ mixed Tryd.func11 _ (by kernel_rfl) rfl)
            (fun h4 =>
            L.br mixed 11 _ (by kernel_rfl)
              (fun h5 =>
              L.ret _ mixed Tryd.func11 _ (by kernel_rfl) rfl)
              (fun h5 =>
              L.callO mixed (fun u6 : Bool => .bool u6) (cslices_ContainsFunc_pic_Right_1 K a0.L ()) (by kernel_rfl) (fun u6 hu6 =>
              L.ret _ mixed Tryd.func11 _ (by kernel_rfl) rfl))))))
/-! ### 12 -/
abbrev ER36_Right : Bool → Value := fun r => .bool r
def FR36_Right_4 (a0 : TImage) : Nat → Int → Option Bool
  | 0, _ => none
  | K + 1, p3 =>
    bif (decide (p3 < (↑a0.L.length : Int))) then
      bif inR p3 a0.L.length then
        bif (decide (getR a0.L p3.toNat < 0)) then
          some false
        else
          bif inR p3 a0.L.length then
            bif (bif false then true else decide (getR a0.L p3.toNat > 4294967295)) then
              some false
            else
              FR36_Right_4 a0 K (IntKind.i64.wrap (p3 + 1))
          else none
      else none
    else
      some true
def FR36_Right (K : Nat) (a0 : TImage) : Option Bool :=
  bif (decide (a0.W < 0)) then
    some false
  else
    bif (bif false then true else decide (a0.W > 256)) then
      some false
    else
      bif (bif false then true else decide (a0.H < 0)) then
        some false
      else
        bif (bif false then true else decide (a0.H > 256)) then
          some false
        else
          bif (bif false then true else (↑a0.L.length : Int) != IntKind.i64.wrap (a0.W * a0.H)) then
            some false
          else
            FR36_Right_4 a0 K 0
def HR36_Right_4 (fn : Func) (a0 : TImage) (p3 : Int) : VS := headS fn 4 [(1, (frp [(Value.int IntKind.i64 a0.W), (Value.int IntKind.i64 a0.H), (lst a0.L)] 0)), (3, .int .i64 p3)] []
theorem lR36_Right (a0 : TImage) : ∀ K : Nat, (∀ (p3 : Int), Lifts Tryd.prog 12 0 ER36_Right (HR36_Right_4 Tryd.f12 a0 p3) (FR36_Right_4 a0 K p3)) := by
  intro K
  induction K with
  | zero =>
    exact fun p3 => (by rw [FR36_Right_4]; exact L.no)
  | succ K ih =>
    have IH4 := ih
    refine fun p3 => ?_
    · rw [FR36_Right_4]
      exact
        L.ld mixed 5 22 [(Value.int IntKind.i64 a0.W), (Value.int IntKind.i64 a0.H), (lst a0.L)] 2 ((lst a0.L)) (by kernel_rfl) (by kernel_rfl) <|
        L.br mixed 3 _ (by kernel_rfl)
          (fun h6 =>
          L.ld mixed 6 22 [(Value.int IntKind.i64 a0.W), (Value.int IntKind.i64 a0.H), (lst a0.L)] 2 ((lst a0.L)) (by kernel_rfl) (by kernel_rfl) <|
          L.idx mixed 1 _ (rows a0.L) 1 IntKind.i64 _ (by kernel_rfl) (fun h7a h7b =>
          L.ld mixed 0 3 (rows a0.L) (p3.toNat * 1 + 0) (.int .i64 (getR a0.L p3.toNat)) (by kernel_rfl) (load1_rows (i := p3.toNat) (d := 0) rfl (toNat_lt h7a h7b) (by kernel_rfl) (Nat.le_of_ble_eq_true (by kernel_rfl)) (by kernel_rfl)) <|
          L.gu mixed 2 _ (by kernel_rfl)
            (fun h8 =>
            L.ret _ mixed Tryd.func12 _ (by kernel_rfl) rfl)
            (fun h8 =>
            L.ld mixed 1 22 [(Value.int IntKind.i64 a0.W), (Value.int IntKind.i64 a0.H), (lst a0.L)] 2 ((lst a0.L)) (by kernel_rfl) (by kernel_rfl) <|
            L.idx mixed 1 _ (rows a0.L) 1 IntKind.i64 _ (by kernel_rfl) (fun h9a h9b =>
            L.ld mixed 0 3 (rows a0.L) (p3.toNat * 1 + 0) (.int .i64 (getR a0.L p3.toNat)) (by kernel_rfl) (load1_rows (i := p3.toNat) (d := 0) rfl (toNat_lt h9a h9b) (by kernel_rfl) (Nat.le_of_ble_eq_true (by kernel_rfl)) (by kernel_rfl)) <|
            L.br mixed 3 _ (by kernel_rfl)
              (fun h10 =>
              L.ret _ mixed Tryd.func12 _ (by kernel_rfl) rfl)
              (fun h10 =>
              L.jump mixed 8 [1, 3] (by kernel_rfl) (IH4 (IntKind.i64.wrap (p3 + 1))))))))
          (fun h6 =>
          L.ret _ mixed Tryd.func12 _ (by kernel_rfl) rfl)
theorem cR36_Right (K : Nat) (a0 : TImage) : ∀ r, FR36_Right K a0 = some r → Con Tryd.prog 12 [.agg ⟨[.int .i64 a0.W, .int .i64 a0.H, lst a0.L]⟩] (ER36_Right r) := by
  have IH4 := lR36_Right a0 K
  refine Con.lift Tryd.func12 (by kernel_rfl) rfl (fun _ => rfl) ?_
  unfold FR36_Right
  exact
    L.gu mixed 12 _ (by kernel_rfl)
      (fun h1 =>
      L.ret _ mixed Tryd.func12 _ (by kernel_rfl) rfl)
      (fun h1 =>
      L.gu mixed 5 _ (by kernel_rfl)
        (fun h2 =>
        L.ret _ mixed Tryd.func12 _ (by kernel_rfl) rfl)
        (fun h2 =>
        L.gu mixed 5 _ (by kernel_rfl)
          (fun h3 =>
          L.ret _ mixed Tryd.func12 _ (by kernel_rfl) rfl)
          (fun h3 =>
          L.gu mixed 5 _ (by kernel_rfl)
            (fun h4 =>
            L.ret _ mixed Tryd.func12 _ (by kernel_rfl) rfl)
            (fun h4 =>
            L.br mixed 11 _ (by kernel_rfl)
              (fun h5 =>
              L.ret _ mixed Tryd.func12 _ (by kernel_rfl) rfl)
              (fun h5 =>
              L.frzP mixed 7 1 0 0 0 [(Value.int IntKind.i64 a0.W), (Value.int IntKind.i64 a0.H), (lst a0.L)] (by kernel_rfl) (by kernel_rfl) (by kernel_rfl) (by kernel_rfl) <|
              L.jumpG mixed 1 [1, 3] [] [] (by kernel_rfl) (by kernel_rfl) (by kernel_rfl) trivial (by kernel_rfl) (by kernel_rfl) (IH4 0))))))
/-! ### 17 -/
abbrev ER27_Within : Bool → Value := fun r => .bool r
def FR27_Within (K : Nat) (a0 : TRect) (a1 : Int) (a2 : Int) : Option Bool :=
  bif (decide (a0.X0 ≥ 0)) then
    bif (bif true then decide (a0.X1 ≥ a0.X0) else false) then
      bif (bif true then decide (a0.X1 ≤ a1) else false) then
        bif (bif true then decide (a0.Y0 ≥ 0) else false) then
          bif (bif true then decide (a0.Y1 ≥ a0.Y0) else false) then
            some (bif true then decide (a0.Y1 ≤ a2) else false)
          else
            some false
        else
          some false
      else
        some false
    else
      some false
  else
    some false
theorem cR27_Within (K : Nat) (a0 : TRect) (a1 : Int) (a2 : Int) : ∀ r, FR27_Within K a0 a1 a2 = some r → Con Tryd.prog 17 [.agg ⟨[.int .i64 a0.X0, .int .i64 a0.Y0, .int .i64 a0.X1, .int .i64 a0.Y1]⟩, .int .i64 a1, .int .i64 a2] (ER27_Within r) := by
  refine Con.lift Tryd.func17 (by kernel_rfl) rfl (fun _ => rfl) ?_
  unfold FR27_Within
  exact
    L.gu mixed 11 _ (by kernel_rfl)
      (fun h1 =>
      L.gu mixed 7 _ (by kernel_rfl)
        (fun h2 =>
        L.gu mixed 6 _ (by kernel_rfl)
          (fun h3 =>
          L.gu mixed 5 _ (by kernel_rfl)
            (fun h4 =>
            L.gu mixed 7 _ (by kernel_rfl)
              (fun h5 =>
              L.ret _ mixed Tryd.func17 _ (by kernel_rfl) rfl)
              (fun h5 =>
              L.ret _ mixed Tryd.func17 _ (by kernel_rfl) rfl))
            (fun h4 =>
            L.ret _ mixed Tryd.func17 _ (by kernel_rfl) rfl))
          (fun h3 =>
          L.ret _ mixed Tryd.func17 _ (by kernel_rfl) rfl))
        (fun h2 =>
        L.ret _ mixed Tryd.func17 _ (by kernel_rfl) rfl))
      (fun h1 =>
      L.ret _ mixed Tryd.func17 _ (by kernel_rfl) rfl)
/-! ### 16 -/
abbrev Epic_At : Int × Bool → Value := fun r => .tuple ⟨[.int .i64 r.1, .bool r.2]⟩
def Fpic_At (K : Nat) (a0 : TImage) (a1 : Int) (a2 : Int) : Option (Int × Bool) :=
  (Fpic_Right K a0).bind fun u1 =>
  bif !u1 then
    some ((0, false))
  else
    bif (bif false then true else decide (a1 < 0)) then
      some ((0, false))
    else
      bif (bif false then true else decide (a1 ≥ a0.W)) then
        some ((0, false))
      else
        bif (bif false then true else decide (a2 < 0)) then
          some ((0, false))
        else
          bif (bif false then true else decide (a2 ≥ a0.H)) then
            some ((0, false))
          else
            bif inR (IntKind.i64.wrap (IntKind.i64.wrap (a2 * a0.W) + a1)) a0.L.length then
              some ((getR a0.L (IntKind.i64.wrap (IntKind.i64.wrap (a2 * a0.W) + a1)).toNat, true))
            else none
theorem cpic_At (K : Nat) (a0 : TImage) (a1 : Int) (a2 : Int) : ∀ r, Fpic_At K a0 a1 a2 = some r → Con Tryd.prog 16 [.agg ⟨[.int .i64 a0.W, .int .i64 a0.H, lst a0.L]⟩, .int .i64 a1, .int .i64 a2] (Epic_At r) := by
  refine Con.lift Tryd.func16 (by kernel_rfl) rfl (fun _ => rfl) ?_
  unfold Fpic_At
  exact
    L.callO mixed (fun u1 : Bool => .bool u1) (cpic_Right K a0) (by kernel_rfl) (fun u1 hu1 =>
    L.gu mixed 2 _ (by kernel_rfl)
      (fun h2 =>
      L.ret _ mixed Tryd.func16 _ (by kernel_rfl) rfl)
      (fun h2 =>
      L.gu mixed 4 _ (by kernel_rfl)
        (fun h3 =>
        L.ret _ mixed Tryd.func16 _ (by kernel_rfl) rfl)
        (fun h3 =>
        L.gu mixed 6 _ (by kernel_rfl)
          (fun h4 =>
          L.ret _ mixed Tryd.func16 _ (by kernel_rfl) rfl)
          (fun h4 =>
          L.gu mixed 4 _ (by kernel_rfl)
            (fun h5 =>
            L.ret _ mixed Tryd.func16 _ (by kernel_rfl) rfl)
            (fun h5 =>
            L.br mixed 6 _ (by kernel_rfl)
              (fun h6 =>
              L.ret _ mixed Tryd.func16 _ (by kernel_rfl) rfl)
              (fun h6 =>
              L.idx mixed 11 _ (rows a0.L) 1 IntKind.i64 _ (by kernel_rfl) (fun h7a h7b =>
              L.ld mixed 0 3 (rows a0.L) ((IntKind.i64.wrap (IntKind.i64.wrap (a2 * a0.W) + a1)).toNat * 1 + 0) (.int .i64 (getR a0.L (IntKind.i64.wrap (IntKind.i64.wrap (a2 * a0.W) + a1)).toNat)) (by kernel_rfl) (load1_rows (i := (IntKind.i64.wrap (IntKind.i64.wrap (a2 * a0.W) + a1)).toNat) (d := 0) rfl (toNat_lt h7a h7b) (by kernel_rfl) (Nat.le_of_ble_eq_true (by kernel_rfl)) (by kernel_rfl)) <|
              L.ret _ mixed Tryd.func16 _ (by kernel_rfl) rfl)))))))
/-! ### 14 -/
end

end Go.Proofs.YtllcomjnmkcdpaaDoor.Lf
