/- Several texts in one: Ty11, EVc, EVd. -/
import Derived.Test.YtdmcdijlpnbghaaGreatDoorQI16
import Derived.Test.YtdmcdijlpnbghaaGreatDoorProg
import Derived.Shelf.Strconv.ParseIntPublic10
import Derived.Shelf.Unicode.ValidAny
import Derived.Shelf.Strings.Split
import Derived.Test.YtdmcdijlpnbghaaGreatDoorQI20
import Derived.WalkKit
import Derived.BigCall
import Derived.BigGuard
import Derived.LoopTactic
import Derived.Laws.RangeString
import Derived.Laws.RangeAny
namespace Go.Proofs.YtdmcdijlpnbghaaGreatDoor.Lf

section
open Go Go.Dt
set_option linter.unusedVariables false

theorem mixed : Tryz.prog.follows .mixedOrders = true := by kernel_rfl
structure TRuntimeboundsError where
  x : Int
  y : Int
  signed : Bool
  code : Int
instance flTRuntimeboundsError : Flat TRuntimeboundsError := ⟨4, fun x => [.int .i64 x.x, .int .i64 x.y, .bool x.signed, .int .u8 x.code], ⟨0, 0, false, 0⟩, fun _ => rfl, by decide, fun _ => rfl, fun _ => rfl⟩
instance opTRuntimeboundsError : Ope TRuntimeboundsError := ⟨.int .i64 :: (.int .i64 :: (Ope.ss (Bool) ++ (.int .u8 :: ([])))), fun x => (Lit.int .i64 x.x).wf = true ∧ (Lit.int .i64 x.y).wf = true ∧ Ope.ok x.signed ∧ (Lit.int .u8 x.code).wf = true, fun can h => by
  obtain ⟨xx, _, rfl, ox, h⟩ := op_int h
  obtain ⟨xy, _, rfl, oy, h⟩ := op_int h
  obtain ⟨xsigned, _, rfl, osigned, h⟩ := op_field (α := Bool) h
  obtain ⟨xcode, _, rfl, ocode, h⟩ := op_int h
  obtain rfl := ces_nil h
  exact ⟨⟨xx, xy, xsigned, xcode⟩, rfl, ox, oy, osigned, ocode⟩⟩
structure TRuntimeerrorAddressString where
  msg : ByteArray
  addr : Int
instance flTRuntimeerrorAddressString : Flat TRuntimeerrorAddressString := ⟨2, fun x => [.string x.msg, .int .u64 x.addr], ⟨ByteArray.empty, 0⟩, fun _ => rfl, by decide, fun _ => rfl, fun _ => rfl⟩
instance opTRuntimeerrorAddressString : Ope TRuntimeerrorAddressString := ⟨Ope.ss (ByteArray) ++ (.int .u64 :: ([])), fun x => Ope.ok x.msg ∧ (Lit.int .u64 x.addr).wf = true, fun can h => by
  obtain ⟨xmsg, _, rfl, omsg, h⟩ := op_field (α := ByteArray) h
  obtain ⟨xaddr, _, rfl, oaddr, h⟩ := op_int h
  obtain rfl := ces_nil h
  exact ⟨⟨xmsg, xaddr⟩, rfl, omsg, oaddr⟩⟩
structure TEvent where
  Who : Int
  Kind : Int
  A : Int
  B : Int
instance flTEvent : Flat TEvent := ⟨4, fun x => [.int .i64 x.Who, .int .i64 x.Kind, .int .i64 x.A, .int .i64 x.B], ⟨0, 0, 0, 0⟩, fun _ => rfl, by decide, fun _ => rfl, fun _ => rfl⟩
instance opTEvent : Ope TEvent := ⟨.int .i64 :: (.int .i64 :: (.int .i64 :: (.int .i64 :: ([])))), fun x => (Lit.int .i64 x.Who).wf = true ∧ (Lit.int .i64 x.Kind).wf = true ∧ (Lit.int .i64 x.A).wf = true ∧ (Lit.int .i64 x.B).wf = true, fun can h => by
  obtain ⟨xWho, _, rfl, oWho, h⟩ := op_int h
  obtain ⟨xKind, _, rfl, oKind, h⟩ := op_int h
  obtain ⟨xA, _, rfl, oA, h⟩ := op_int h
  obtain ⟨xB, _, rfl, oB, h⟩ := op_int h
  obtain rfl := ces_nil h
  exact ⟨⟨xWho, xKind, xA, xB⟩, rfl, oWho, oKind, oA, oB⟩⟩
structure TImage where
  W : Int
  H : Int
  L : List Int
instance flTImage : Flat TImage := ⟨3, fun x => [.int .i64 x.W, .int .i64 x.H, lst x.L], ⟨0, 0, []⟩, fun _ => rfl, by decide, fun _ => rfl, fun _ => rfl⟩
instance opTImage : Ope TImage := ⟨.int .i64 :: (.int .i64 :: (Ope.ss (List Int) ++ ([]))), fun x => (Lit.int .i64 x.W).wf = true ∧ (Lit.int .i64 x.H).wf = true ∧ Ope.ok x.L, fun can h => by
  obtain ⟨xW, _, rfl, oW, h⟩ := op_int h
  obtain ⟨xH, _, rfl, oH, h⟩ := op_int h
  obtain ⟨xL, _, rfl, oL, h⟩ := op_field (α := List Int) h
  obtain rfl := ces_nil h
  exact ⟨⟨xW, xH, xL⟩, rfl, oW, oH, oL⟩⟩
structure TOut where
  Kind : Int
  At : Int
  Code : Int
  N : Int
  Img : TImage
instance flTOut : Flat TOut := ⟨7, fun x => [.int .i64 x.Kind, .int .i64 x.At, .int .i64 x.Code, .int .i64 x.N, .int .i64 x.Img.W, .int .i64 x.Img.H, lst x.Img.L], ⟨0, 0, 0, 0, ⟨0, 0, []⟩⟩, fun _ => rfl, by decide, fun _ => rfl, fun _ => rfl⟩
instance opTOut : Ope TOut := ⟨.int .i64 :: (.int .i64 :: (.int .i64 :: (.int .i64 :: (Ope.ss (TImage) ++ ([]))))), fun x => (Lit.int .i64 x.Kind).wf = true ∧ (Lit.int .i64 x.At).wf = true ∧ (Lit.int .i64 x.Code).wf = true ∧ (Lit.int .i64 x.N).wf = true ∧ Ope.ok x.Img, fun can h => by
  obtain ⟨xKind, _, rfl, oKind, h⟩ := op_int h
  obtain ⟨xAt, _, rfl, oAt, h⟩ := op_int h
  obtain ⟨xCode, _, rfl, oCode, h⟩ := op_int h
  obtain ⟨xN, _, rfl, oN, h⟩ := op_int h
  obtain ⟨xImg, _, rfl, oImg, h⟩ := op_field (α := TImage) h
  obtain rfl := ces_nil h
  exact ⟨⟨xKind, xAt, xCode, xN, xImg⟩, rfl, oKind, oAt, oCode, oN, oImg⟩⟩
structure TTraceshape where
  word : ByteArray
  many : Int
instance flTTraceshape : Flat TTraceshape := ⟨2, fun x => [.string x.word, .int .i64 x.many], ⟨ByteArray.empty, 0⟩, fun _ => rfl, by decide, fun _ => rfl, fun _ => rfl⟩
instance opTTraceshape : Ope TTraceshape := ⟨Ope.ss (ByteArray) ++ (.int .i64 :: ([])), fun x => Ope.ok x.word ∧ (Lit.int .i64 x.many).wf = true, fun can h => by
  obtain ⟨xword, _, rfl, oword, h⟩ := op_field (α := ByteArray) h
  obtain ⟨xmany, _, rfl, omany, h⟩ := op_int h
  obtain rfl := ces_nil h
  exact ⟨⟨xword, xmany⟩, rfl, oword, omany⟩⟩
structure A3I where
  e0 : Int
  e1 : Int
  e2 : Int
instance flA3I : Flat A3I := ⟨3, fun x => [.int .i64 x.e0, .int .i64 x.e1, .int .i64 x.e2], ⟨0, 0, 0⟩, fun _ => rfl, by decide, fun _ => rfl, fun _ => rfl⟩
instance opA3I : Ope A3I := ⟨.int .i64 :: (.int .i64 :: (.int .i64 :: ([]))), fun x => (Lit.int .i64 x.e0).wf = true ∧ (Lit.int .i64 x.e1).wf = true ∧ (Lit.int .i64 x.e2).wf = true, fun can h => by
  obtain ⟨xe0, _, rfl, oe0, h⟩ := op_int h
  obtain ⟨xe1, _, rfl, oe1, h⟩ := op_int h
  obtain ⟨xe2, _, rfl, oe2, h⟩ := op_int h
  obtain rfl := ces_nil h
  exact ⟨⟨xe0, xe1, xe2⟩, rfl, oe0, oe1, oe2⟩⟩
structure A2I where
  e0 : Int
  e1 : Int
instance flA2I : Flat A2I := ⟨2, fun x => [.int .i64 x.e0, .int .i64 x.e1], ⟨0, 0⟩, fun _ => rfl, by decide, fun _ => rfl, fun _ => rfl⟩
instance opA2I : Ope A2I := ⟨.int .i64 :: (.int .i64 :: ([])), fun x => (Lit.int .i64 x.e0).wf = true ∧ (Lit.int .i64 x.e1).wf = true, fun can h => by
  obtain ⟨xe0, _, rfl, oe0, h⟩ := op_int h
  obtain ⟨xe1, _, rfl, oe1, h⟩ := op_int h
  obtain rfl := ces_nil h
  exact ⟨⟨xe0, xe1⟩, rfl, oe0, oe1⟩⟩
structure TUtf8acceptRange where
  lo : Int
  hi : Int
instance flTUtf8acceptRange : Flat TUtf8acceptRange := ⟨2, fun x => [.int .u8 x.lo, .int .u8 x.hi], ⟨0, 0⟩, fun _ => rfl, by decide, fun _ => rfl, fun _ => rfl⟩
instance opTUtf8acceptRange : Ope TUtf8acceptRange := ⟨.int .u8 :: (.int .u8 :: ([])), fun x => (Lit.int .u8 x.lo).wf = true ∧ (Lit.int .u8 x.hi).wf = true, fun can h => by
  obtain ⟨xlo, _, rfl, olo, h⟩ := op_int h
  obtain ⟨xhi, _, rfl, ohi, h⟩ := op_int h
  obtain rfl := ces_nil h
  exact ⟨⟨xlo, xhi⟩, rfl, olo, ohi⟩⟩
structure A16TUtf8acceptRange where
  e0 : TUtf8acceptRange
  e1 : TUtf8acceptRange
  e2 : TUtf8acceptRange
  e3 : TUtf8acceptRange
  e4 : TUtf8acceptRange
  e5 : TUtf8acceptRange
  e6 : TUtf8acceptRange
  e7 : TUtf8acceptRange
  e8 : TUtf8acceptRange
  e9 : TUtf8acceptRange
  e10 : TUtf8acceptRange
  e11 : TUtf8acceptRange
  e12 : TUtf8acceptRange
  e13 : TUtf8acceptRange
  e14 : TUtf8acceptRange
  e15 : TUtf8acceptRange
instance flA16TUtf8acceptRange : Flat A16TUtf8acceptRange := ⟨32, fun x => [.int .u8 x.e0.lo, .int .u8 x.e0.hi, .int .u8 x.e1.lo, .int .u8 x.e1.hi, .int .u8 x.e2.lo, .int .u8 x.e2.hi, .int .u8 x.e3.lo, .int .u8 x.e3.hi, .int .u8 x.e4.lo, .int .u8 x.e4.hi, .int .u8 x.e5.lo, .int .u8 x.e5.hi, .int .u8 x.e6.lo, .int .u8 x.e6.hi, .int .u8 x.e7.lo, .int .u8 x.e7.hi, .int .u8 x.e8.lo, .int .u8 x.e8.hi, .int .u8 x.e9.lo, .int .u8 x.e9.hi, .int .u8 x.e10.lo, .int .u8 x.e10.hi, .int .u8 x.e11.lo, .int .u8 x.e11.hi, .int .u8 x.e12.lo, .int .u8 x.e12.hi, .int .u8 x.e13.lo, .int .u8 x.e13.hi, .int .u8 x.e14.lo, .int .u8 x.e14.hi, .int .u8 x.e15.lo, .int .u8 x.e15.hi], ⟨⟨0, 0⟩, ⟨0, 0⟩, ⟨0, 0⟩, ⟨0, 0⟩, ⟨0, 0⟩, ⟨0, 0⟩, ⟨0, 0⟩, ⟨0, 0⟩, ⟨0, 0⟩, ⟨0, 0⟩, ⟨0, 0⟩, ⟨0, 0⟩, ⟨0, 0⟩, ⟨0, 0⟩, ⟨0, 0⟩, ⟨0, 0⟩⟩, fun _ => rfl, by decide, fun _ => rfl, fun _ => rfl⟩
instance opA16TUtf8acceptRange : Ope A16TUtf8acceptRange := ⟨Ope.ss (TUtf8acceptRange) ++ (Ope.ss (TUtf8acceptRange) ++ (Ope.ss (TUtf8acceptRange) ++ (Ope.ss (TUtf8acceptRange) ++ (Ope.ss (TUtf8acceptRange) ++ (Ope.ss (TUtf8acceptRange) ++ (Ope.ss (TUtf8acceptRange) ++ (Ope.ss (TUtf8acceptRange) ++ (Ope.ss (TUtf8acceptRange) ++ (Ope.ss (TUtf8acceptRange) ++ (Ope.ss (TUtf8acceptRange) ++ (Ope.ss (TUtf8acceptRange) ++ (Ope.ss (TUtf8acceptRange) ++ (Ope.ss (TUtf8acceptRange) ++ (Ope.ss (TUtf8acceptRange) ++ (Ope.ss (TUtf8acceptRange) ++ ([])))))))))))))))), fun x => Ope.ok x.e0 ∧ Ope.ok x.e1 ∧ Ope.ok x.e2 ∧ Ope.ok x.e3 ∧ Ope.ok x.e4 ∧ Ope.ok x.e5 ∧ Ope.ok x.e6 ∧ Ope.ok x.e7 ∧ Ope.ok x.e8 ∧ Ope.ok x.e9 ∧ Ope.ok x.e10 ∧ Ope.ok x.e11 ∧ Ope.ok x.e12 ∧ Ope.ok x.e13 ∧ Ope.ok x.e14 ∧ Ope.ok x.e15, fun can h => by
  obtain ⟨xe0, _, rfl, oe0, h⟩ := op_field (α := TUtf8acceptRange) h
  obtain ⟨xe1, _, rfl, oe1, h⟩ := op_field (α := TUtf8acceptRange) h
  obtain ⟨xe2, _, rfl, oe2, h⟩ := op_field (α := TUtf8acceptRange) h
  obtain ⟨xe3, _, rfl, oe3, h⟩ := op_field (α := TUtf8acceptRange) h
  obtain ⟨xe4, _, rfl, oe4, h⟩ := op_field (α := TUtf8acceptRange) h
  obtain ⟨xe5, _, rfl, oe5, h⟩ := op_field (α := TUtf8acceptRange) h
  obtain ⟨xe6, _, rfl, oe6, h⟩ := op_field (α := TUtf8acceptRange) h
  obtain ⟨xe7, _, rfl, oe7, h⟩ := op_field (α := TUtf8acceptRange) h
  obtain ⟨xe8, _, rfl, oe8, h⟩ := op_field (α := TUtf8acceptRange) h
  obtain ⟨xe9, _, rfl, oe9, h⟩ := op_field (α := TUtf8acceptRange) h
  obtain ⟨xe10, _, rfl, oe10, h⟩ := op_field (α := TUtf8acceptRange) h
  obtain ⟨xe11, _, rfl, oe11, h⟩ := op_field (α := TUtf8acceptRange) h
  obtain ⟨xe12, _, rfl, oe12, h⟩ := op_field (α := TUtf8acceptRange) h
  obtain ⟨xe13, _, rfl, oe13, h⟩ := op_field (α := TUtf8acceptRange) h
  obtain ⟨xe14, _, rfl, oe14, h⟩ := op_field (α := TUtf8acceptRange) h
  obtain ⟨xe15, _, rfl, oe15, h⟩ := op_field (α := TUtf8acceptRange) h
  obtain rfl := ces_nil h
  exact ⟨⟨xe0, xe1, xe2, xe3, xe4, xe5, xe6, xe7, xe8, xe9, xe10, xe11, xe12, xe13, xe14, xe15⟩, rfl, oe0, oe1, oe2, oe3, oe4, oe5, oe6, oe7, oe8, oe9, oe10, oe11, oe12, oe13, oe14, oe15⟩⟩
structure TErrorserrorString where
  s : ByteArray
instance flTErrorserrorString : Flat TErrorserrorString := ⟨1, fun x => [.string x.s], ⟨ByteArray.empty⟩, fun _ => rfl, by decide, fun _ => rfl, fun _ => rfl⟩
instance opTErrorserrorString : Ope TErrorserrorString := ⟨Ope.ss (ByteArray) ++ ([]), fun x => Ope.ok x.s, fun can h => by
  obtain ⟨xs, _, rfl, os, h⟩ := op_field (α := ByteArray) h
  obtain rfl := ces_nil h
  exact ⟨⟨xs⟩, rfl, os⟩⟩
structure A24I where
  e0 : Int
  e1 : Int
  e2 : Int
  e3 : Int
  e4 : Int
  e5 : Int
  e6 : Int
  e7 : Int
  e8 : Int
  e9 : Int
  e10 : Int
  e11 : Int
  e12 : Int
  e13 : Int
  e14 : Int
  e15 : Int
  e16 : Int
  e17 : Int
  e18 : Int
  e19 : Int
  e20 : Int
  e21 : Int
  e22 : Int
  e23 : Int
instance flA24I : Flat A24I := ⟨24, fun x => [.int .u8 x.e0, .int .u8 x.e1, .int .u8 x.e2, .int .u8 x.e3, .int .u8 x.e4, .int .u8 x.e5, .int .u8 x.e6, .int .u8 x.e7, .int .u8 x.e8, .int .u8 x.e9, .int .u8 x.e10, .int .u8 x.e11, .int .u8 x.e12, .int .u8 x.e13, .int .u8 x.e14, .int .u8 x.e15, .int .u8 x.e16, .int .u8 x.e17, .int .u8 x.e18, .int .u8 x.e19, .int .u8 x.e20, .int .u8 x.e21, .int .u8 x.e22, .int .u8 x.e23], ⟨0, 0, 0, 0, 0, 0, 0, 0, 0, 0, 0, 0, 0, 0, 0, 0, 0, 0, 0, 0, 0, 0, 0, 0⟩, fun _ => rfl, by decide, fun _ => rfl, fun _ => rfl⟩
instance opA24I : Ope A24I := ⟨.int .u8 :: (.int .u8 :: (.int .u8 :: (.int .u8 :: (.int .u8 :: (.int .u8 :: (.int .u8 :: (.int .u8 :: (.int .u8 :: (.int .u8 :: (.int .u8 :: (.int .u8 :: (.int .u8 :: (.int .u8 :: (.int .u8 :: (.int .u8 :: (.int .u8 :: (.int .u8 :: (.int .u8 :: (.int .u8 :: (.int .u8 :: (.int .u8 :: (.int .u8 :: (.int .u8 :: ([])))))))))))))))))))))))), fun x => (Lit.int .u8 x.e0).wf = true ∧ (Lit.int .u8 x.e1).wf = true ∧ (Lit.int .u8 x.e2).wf = true ∧ (Lit.int .u8 x.e3).wf = true ∧ (Lit.int .u8 x.e4).wf = true ∧ (Lit.int .u8 x.e5).wf = true ∧ (Lit.int .u8 x.e6).wf = true ∧ (Lit.int .u8 x.e7).wf = true ∧ (Lit.int .u8 x.e8).wf = true ∧ (Lit.int .u8 x.e9).wf = true ∧ (Lit.int .u8 x.e10).wf = true ∧ (Lit.int .u8 x.e11).wf = true ∧ (Lit.int .u8 x.e12).wf = true ∧ (Lit.int .u8 x.e13).wf = true ∧ (Lit.int .u8 x.e14).wf = true ∧ (Lit.int .u8 x.e15).wf = true ∧ (Lit.int .u8 x.e16).wf = true ∧ (Lit.int .u8 x.e17).wf = true ∧ (Lit.int .u8 x.e18).wf = true ∧ (Lit.int .u8 x.e19).wf = true ∧ (Lit.int .u8 x.e20).wf = true ∧ (Lit.int .u8 x.e21).wf = true ∧ (Lit.int .u8 x.e22).wf = true ∧ (Lit.int .u8 x.e23).wf = true, fun can h => by
  obtain ⟨xe0, _, rfl, oe0, h⟩ := op_int h
  obtain ⟨xe1, _, rfl, oe1, h⟩ := op_int h
  obtain ⟨xe2, _, rfl, oe2, h⟩ := op_int h
  obtain ⟨xe3, _, rfl, oe3, h⟩ := op_int h
  obtain ⟨xe4, _, rfl, oe4, h⟩ := op_int h
  obtain ⟨xe5, _, rfl, oe5, h⟩ := op_int h
  obtain ⟨xe6, _, rfl, oe6, h⟩ := op_int h
  obtain ⟨xe7, _, rfl, oe7, h⟩ := op_int h
  obtain ⟨xe8, _, rfl, oe8, h⟩ := op_int h
  obtain ⟨xe9, _, rfl, oe9, h⟩ := op_int h
  obtain ⟨xe10, _, rfl, oe10, h⟩ := op_int h
  obtain ⟨xe11, _, rfl, oe11, h⟩ := op_int h
  obtain ⟨xe12, _, rfl, oe12, h⟩ := op_int h
  obtain ⟨xe13, _, rfl, oe13, h⟩ := op_int h
  obtain ⟨xe14, _, rfl, oe14, h⟩ := op_int h
  obtain ⟨xe15, _, rfl, oe15, h⟩ := op_int h
  obtain ⟨xe16, _, rfl, oe16, h⟩ := op_int h
  obtain ⟨xe17, _, rfl, oe17, h⟩ := op_int h
  obtain ⟨xe18, _, rfl, oe18, h⟩ := op_int h
  obtain ⟨xe19, _, rfl, oe19, h⟩ := op_int h
  obtain ⟨xe20, _, rfl, oe20, h⟩ := op_int h
  obtain ⟨xe21, _, rfl, oe21, h⟩ := op_int h
  obtain ⟨xe22, _, rfl, oe22, h⟩ := op_int h
  obtain ⟨xe23, _, rfl, oe23, h⟩ := op_int h
  obtain rfl := ces_nil h
  exact ⟨⟨xe0, xe1, xe2, xe3, xe4, xe5, xe6, xe7, xe8, xe9, xe10, xe11, xe12, xe13, xe14, xe15, xe16, xe17, xe18, xe19, xe20, xe21, xe22, xe23⟩, rfl, oe0, oe1, oe2, oe3, oe4, oe5, oe6, oe7, oe8, oe9, oe10, oe11, oe12, oe13, oe14, oe15, oe16, oe17, oe18, oe19, oe20, oe21, oe22, oe23⟩⟩
structure A20I where
  e0 : Int
  e1 : Int
  e2 : Int
  e3 : Int
  e4 : Int
  e5 : Int
  e6 : Int
  e7 : Int
  e8 : Int
  e9 : Int
  e10 : Int
  e11 : Int
  e12 : Int
  e13 : Int
  e14 : Int
  e15 : Int
  e16 : Int
  e17 : Int
  e18 : Int
  e19 : Int
instance flA20I : Flat A20I := ⟨20, fun x => [.int .u64 x.e0, .int .u64 x.e1, .int .u64 x.e2, .int .u64 x.e3, .int .u64 x.e4, .int .u64 x.e5, .int .u64 x.e6, .int .u64 x.e7, .int .u64 x.e8, .int .u64 x.e9, .int .u64 x.e10, .int .u64 x.e11, .int .u64 x.e12, .int .u64 x.e13, .int .u64 x.e14, .int .u64 x.e15, .int .u64 x.e16, .int .u64 x.e17, .int .u64 x.e18, .int .u64 x.e19], ⟨0, 0, 0, 0, 0, 0, 0, 0, 0, 0, 0, 0, 0, 0, 0, 0, 0, 0, 0, 0⟩, fun _ => rfl, by decide, fun _ => rfl, fun _ => rfl⟩
instance opA20I : Ope A20I := ⟨.int .u64 :: (.int .u64 :: (.int .u64 :: (.int .u64 :: (.int .u64 :: (.int .u64 :: (.int .u64 :: (.int .u64 :: (.int .u64 :: (.int .u64 :: (.int .u64 :: (.int .u64 :: (.int .u64 :: (.int .u64 :: (.int .u64 :: (.int .u64 :: (.int .u64 :: (.int .u64 :: (.int .u64 :: (.int .u64 :: ([])))))))))))))))))))), fun x => (Lit.int .u64 x.e0).wf = true ∧ (Lit.int .u64 x.e1).wf = true ∧ (Lit.int .u64 x.e2).wf = true ∧ (Lit.int .u64 x.e3).wf = true ∧ (Lit.int .u64 x.e4).wf = true ∧ (Lit.int .u64 x.e5).wf = true ∧ (Lit.int .u64 x.e6).wf = true ∧ (Lit.int .u64 x.e7).wf = true ∧ (Lit.int .u64 x.e8).wf = true ∧ (Lit.int .u64 x.e9).wf = true ∧ (Lit.int .u64 x.e10).wf = true ∧ (Lit.int .u64 x.e11).wf = true ∧ (Lit.int .u64 x.e12).wf = true ∧ (Lit.int .u64 x.e13).wf = true ∧ (Lit.int .u64 x.e14).wf = true ∧ (Lit.int .u64 x.e15).wf = true ∧ (Lit.int .u64 x.e16).wf = true ∧ (Lit.int .u64 x.e17).wf = true ∧ (Lit.int .u64 x.e18).wf = true ∧ (Lit.int .u64 x.e19).wf = true, fun can h => by
  obtain ⟨xe0, _, rfl, oe0, h⟩ := op_int h
  obtain ⟨xe1, _, rfl, oe1, h⟩ := op_int h
  obtain ⟨xe2, _, rfl, oe2, h⟩ := op_int h
  obtain ⟨xe3, _, rfl, oe3, h⟩ := op_int h
  obtain ⟨xe4, _, rfl, oe4, h⟩ := op_int h
  obtain ⟨xe5, _, rfl, oe5, h⟩ := op_int h
  obtain ⟨xe6, _, rfl, oe6, h⟩ := op_int h
  obtain ⟨xe7, _, rfl, oe7, h⟩ := op_int h
  obtain ⟨xe8, _, rfl, oe8, h⟩ := op_int h
  obtain ⟨xe9, _, rfl, oe9, h⟩ := op_int h
  obtain ⟨xe10, _, rfl, oe10, h⟩ := op_int h
  obtain ⟨xe11, _, rfl, oe11, h⟩ := op_int h
  obtain ⟨xe12, _, rfl, oe12, h⟩ := op_int h
  obtain ⟨xe13, _, rfl, oe13, h⟩ := op_int h
  obtain ⟨xe14, _, rfl, oe14, h⟩ := op_int h
  obtain ⟨xe15, _, rfl, oe15, h⟩ := op_int h
  obtain ⟨xe16, _, rfl, oe16, h⟩ := op_int h
  obtain ⟨xe17, _, rfl, oe17, h⟩ := op_int h
  obtain ⟨xe18, _, rfl, oe18, h⟩ := op_int h
  obtain ⟨xe19, _, rfl, oe19, h⟩ := op_int h
  obtain rfl := ces_nil h
  exact ⟨⟨xe0, xe1, xe2, xe3, xe4, xe5, xe6, xe7, xe8, xe9, xe10, xe11, xe12, xe13, xe14, xe15, xe16, xe17, xe18, xe19⟩, rfl, oe0, oe1, oe2, oe3, oe4, oe5, oe6, oe7, oe8, oe9, oe10, oe11, oe12, oe13, oe14, oe15, oe16, oe17, oe18, oe19⟩⟩
structure A65I where
  e0 : Int
  e1 : Int
  e2 : Int
  e3 : Int
  e4 : Int
  e5 : Int
  e6 : Int
  e7 : Int
  e8 : Int
  e9 : Int
  e10 : Int
  e11 : Int
  e12 : Int
  e13 : Int
  e14 : Int
  e15 : Int
  e16 : Int
  e17 : Int
  e18 : Int
  e19 : Int
  e20 : Int
  e21 : Int
  e22 : Int
  e23 : Int
  e24 : Int
  e25 : Int
  e26 : Int
  e27 : Int
  e28 : Int
  e29 : Int
  e30 : Int
  e31 : Int
  e32 : Int
  e33 : Int
  e34 : Int
  e35 : Int
  e36 : Int
  e37 : Int
  e38 : Int
  e39 : Int
  e40 : Int
  e41 : Int
  e42 : Int
  e43 : Int
  e44 : Int
  e45 : Int
  e46 : Int
  e47 : Int
  e48 : Int
  e49 : Int
  e50 : Int
  e51 : Int
  e52 : Int
  e53 : Int
  e54 : Int
  e55 : Int
  e56 : Int
  e57 : Int
  e58 : Int
  e59 : Int
  e60 : Int
  e61 : Int
  e62 : Int
  e63 : Int
  e64 : Int
instance flA65I : Flat A65I := ⟨65, fun x => [.int .u8 x.e0, .int .u8 x.e1, .int .u8 x.e2, .int .u8 x.e3, .int .u8 x.e4, .int .u8 x.e5, .int .u8 x.e6, .int .u8 x.e7, .int .u8 x.e8, .int .u8 x.e9, .int .u8 x.e10, .int .u8 x.e11, .int .u8 x.e12, .int .u8 x.e13, .int .u8 x.e14, .int .u8 x.e15, .int .u8 x.e16, .int .u8 x.e17, .int .u8 x.e18, .int .u8 x.e19, .int .u8 x.e20, .int .u8 x.e21, .int .u8 x.e22, .int .u8 x.e23, .int .u8 x.e24, .int .u8 x.e25, .int .u8 x.e26, .int .u8 x.e27, .int .u8 x.e28, .int .u8 x.e29, .int .u8 x.e30, .int .u8 x.e31, .int .u8 x.e32, .int .u8 x.e33, .int .u8 x.e34, .int .u8 x.e35, .int .u8 x.e36, .int .u8 x.e37, .int .u8 x.e38, .int .u8 x.e39, .int .u8 x.e40, .int .u8 x.e41, .int .u8 x.e42, .int .u8 x.e43, .int .u8 x.e44, .int .u8 x.e45, .int .u8 x.e46, .int .u8 x.e47, .int .u8 x.e48, .int .u8 x.e49, .int .u8 x.e50, .int .u8 x.e51, .int .u8 x.e52, .int .u8 x.e53, .int .u8 x.e54, .int .u8 x.e55, .int .u8 x.e56, .int .u8 x.e57, .int .u8 x.e58, .int .u8 x.e59, .int .u8 x.e60, .int .u8 x.e61, .int .u8 x.e62, .int .u8 x.e63, .int .u8 x.e64], ⟨0, 0, 0, 0, 0, 0, 0, 0, 0, 0, 0, 0, 0, 0, 0, 0, 0, 0, 0, 0, 0, 0, 0, 0, 0, 0, 0, 0, 0, 0, 0, 0, 0, 0, 0, 0, 0, 0, 0, 0, 0, 0, 0, 0, 0, 0, 0, 0, 0, 0, 0, 0, 0, 0, 0, 0, 0, 0, 0, 0, 0, 0, 0, 0, 0⟩, fun _ => rfl, by decide, fun _ => rfl, fun _ => rfl⟩
instance opA65I : Ope A65I := ⟨.int .u8 :: (.int .u8 :: (.int .u8 :: (.int .u8 :: (.int .u8 :: (.int .u8 :: (.int .u8 :: (.int .u8 :: (.int .u8 :: (.int .u8 :: (.int .u8 :: (.int .u8 :: (.int .u8 :: (.int .u8 :: (.int .u8 :: (.int .u8 :: (.int .u8 :: (.int .u8 :: (.int .u8 :: (.int .u8 :: (.int .u8 :: (.int .u8 :: (.int .u8 :: (.int .u8 :: (.int .u8 :: (.int .u8 :: (.int .u8 :: (.int .u8 :: (.int .u8 :: (.int .u8 :: (.int .u8 :: (.int .u8 :: (.int .u8 :: (.int .u8 :: (.int .u8 :: (.int .u8 :: (.int .u8 :: (.int .u8 :: (.int .u8 :: (.int .u8 :: (.int .u8 :: (.int .u8 :: (.int .u8 :: (.int .u8 :: (.int .u8 :: (.int .u8 :: (.int .u8 :: (.int .u8 :: (.int .u8 :: (.int .u8 :: (.int .u8 :: (.int .u8 :: (.int .u8 :: (.int .u8 :: (.int .u8 :: (.int .u8 :: (.int .u8 :: (.int .u8 :: (.int .u8 :: (.int .u8 :: (.int .u8 :: (.int .u8 :: (.int .u8 :: (.int .u8 :: (.int .u8 :: ([]))))))))))))))))))))))))))))))))))))))))))))))))))))))))))))))))), fun x => (Lit.int .u8 x.e0).wf = true ∧ (Lit.int .u8 x.e1).wf = true ∧ (Lit.int .u8 x.e2).wf = true ∧ (Lit.int .u8 x.e3).wf = true ∧ (Lit.int .u8 x.e4).wf = true ∧ (Lit.int .u8 x.e5).wf = true ∧ (Lit.int .u8 x.e6).wf = true ∧ (Lit.int .u8 x.e7).wf = true ∧ (Lit.int .u8 x.e8).wf = true ∧ (Lit.int .u8 x.e9).wf = true ∧ (Lit.int .u8 x.e10).wf = true ∧ (Lit.int .u8 x.e11).wf = true ∧ (Lit.int .u8 x.e12).wf = true ∧ (Lit.int .u8 x.e13).wf = true ∧ (Lit.int .u8 x.e14).wf = true ∧ (Lit.int .u8 x.e15).wf = true ∧ (Lit.int .u8 x.e16).wf = true ∧ (Lit.int .u8 x.e17).wf = true ∧ (Lit.int .u8 x.e18).wf = true ∧ (Lit.int .u8 x.e19).wf = true ∧ (Lit.int .u8 x.e20).wf = true ∧ (Lit.int .u8 x.e21).wf = true ∧ (Lit.int .u8 x.e22).wf = true ∧ (Lit.int .u8 x.e23).wf = true ∧ (Lit.int .u8 x.e24).wf = true ∧ (Lit.int .u8 x.e25).wf = true ∧ (Lit.int .u8 x.e26).wf = true ∧ (Lit.int .u8 x.e27).wf = true ∧ (Lit.int .u8 x.e28).wf = true ∧ (Lit.int .u8 x.e29).wf = true ∧ (Lit.int .u8 x.e30).wf = true ∧ (Lit.int .u8 x.e31).wf = true ∧ (Lit.int .u8 x.e32).wf = true ∧ (Lit.int .u8 x.e33).wf = true ∧ (Lit.int .u8 x.e34).wf = true ∧ (Lit.int .u8 x.e35).wf = true ∧ (Lit.int .u8 x.e36).wf = true ∧ (Lit.int .u8 x.e37).wf = true ∧ (Lit.int .u8 x.e38).wf = true ∧ (Lit.int .u8 x.e39).wf = true ∧ (Lit.int .u8 x.e40).wf = true ∧ (Lit.int .u8 x.e41).wf = true ∧ (Lit.int .u8 x.e42).wf = true ∧ (Lit.int .u8 x.e43).wf = true ∧ (Lit.int .u8 x.e44).wf = true ∧ (Lit.int .u8 x.e45).wf = true ∧ (Lit.int .u8 x.e46).wf = true ∧ (Lit.int .u8 x.e47).wf = true ∧ (Lit.int .u8 x.e48).wf = true ∧ (Lit.int .u8 x.e49).wf = true ∧ (Lit.int .u8 x.e50).wf = true ∧ (Lit.int .u8 x.e51).wf = true ∧ (Lit.int .u8 x.e52).wf = true ∧ (Lit.int .u8 x.e53).wf = true ∧ (Lit.int .u8 x.e54).wf = true ∧ (Lit.int .u8 x.e55).wf = true ∧ (Lit.int .u8 x.e56).wf = true ∧ (Lit.int .u8 x.e57).wf = true ∧ (Lit.int .u8 x.e58).wf = true ∧ (Lit.int .u8 x.e59).wf = true ∧ (Lit.int .u8 x.e60).wf = true ∧ (Lit.int .u8 x.e61).wf = true ∧ (Lit.int .u8 x.e62).wf = true ∧ (Lit.int .u8 x.e63).wf = true ∧ (Lit.int .u8 x.e64).wf = true, fun can h => by
  obtain ⟨xe0, _, rfl, oe0, h⟩ := op_int h
  obtain ⟨xe1, _, rfl, oe1, h⟩ := op_int h
  obtain ⟨xe2, _, rfl, oe2, h⟩ := op_int h
  obtain ⟨xe3, _, rfl, oe3, h⟩ := op_int h
  obtain ⟨xe4, _, rfl, oe4, h⟩ := op_int h
  obtain ⟨xe5, _, rfl, oe5, h⟩ := op_int h
  obtain ⟨xe6, _, rfl, oe6, h⟩ := op_int h
  obtain ⟨xe7, _, rfl, oe7, h⟩ := op_int h
  obtain ⟨xe8, _, rfl, oe8, h⟩ := op_int h
  obtain ⟨xe9, _, rfl, oe9, h⟩ := op_int h
  obtain ⟨xe10, _, rfl, oe10, h⟩ := op_int h
  obtain ⟨xe11, _, rfl, oe11, h⟩ := op_int h
  obtain ⟨xe12, _, rfl, oe12, h⟩ := op_int h
  obtain ⟨xe13, _, rfl, oe13, h⟩ := op_int h
  obtain ⟨xe14, _, rfl, oe14, h⟩ := op_int h
  obtain ⟨xe15, _, rfl, oe15, h⟩ := op_int h
  obtain ⟨xe16, _, rfl, oe16, h⟩ := op_int h
  obtain ⟨xe17, _, rfl, oe17, h⟩ := op_int h
  obtain ⟨xe18, _, rfl, oe18, h⟩ := op_int h
  obtain ⟨xe19, _, rfl, oe19, h⟩ := op_int h
  obtain ⟨xe20, _, rfl, oe20, h⟩ := op_int h
  obtain ⟨xe21, _, rfl, oe21, h⟩ := op_int h
  obtain ⟨xe22, _, rfl, oe22, h⟩ := op_int h
  obtain ⟨xe23, _, rfl, oe23, h⟩ := op_int h
  obtain ⟨xe24, _, rfl, oe24, h⟩ := op_int h
  obtain ⟨xe25, _, rfl, oe25, h⟩ := op_int h
  obtain ⟨xe26, _, rfl, oe26, h⟩ := op_int h
  obtain ⟨xe27, _, rfl, oe27, h⟩ := op_int h
  obtain ⟨xe28, _, rfl, oe28, h⟩ := op_int h
  obtain ⟨xe29, _, rfl, oe29, h⟩ := op_int h
  obtain ⟨xe30, _, rfl, oe30, h⟩ := op_int h
  obtain ⟨xe31, _, rfl, oe31, h⟩ := op_int h
  obtain ⟨xe32, _, rfl, oe32, h⟩ := op_int h
  obtain ⟨xe33, _, rfl, oe33, h⟩ := op_int h
  obtain ⟨xe34, _, rfl, oe34, h⟩ := op_int h
  obtain ⟨xe35, _, rfl, oe35, h⟩ := op_int h
  obtain ⟨xe36, _, rfl, oe36, h⟩ := op_int h
  obtain ⟨xe37, _, rfl, oe37, h⟩ := op_int h
  obtain ⟨xe38, _, rfl, oe38, h⟩ := op_int h
  obtain ⟨xe39, _, rfl, oe39, h⟩ := op_int h
  obtain ⟨xe40, _, rfl, oe40, h⟩ := op_int h
  obtain ⟨xe41, _, rfl, oe41, h⟩ := op_int h
  obtain ⟨xe42, _, rfl, oe42, h⟩ := op_int h
  obtain ⟨xe43, _, rfl, oe43, h⟩ := op_int h
  obtain ⟨xe44, _, rfl, oe44, h⟩ := op_int h
  obtain ⟨xe45, _, rfl, oe45, h⟩ := op_int h
  obtain ⟨xe46, _, rfl, oe46, h⟩ := op_int h
  obtain ⟨xe47, _, rfl, oe47, h⟩ := op_int h
  obtain ⟨xe48, _, rfl, oe48, h⟩ := op_int h
  obtain ⟨xe49, _, rfl, oe49, h⟩ := op_int h
  obtain ⟨xe50, _, rfl, oe50, h⟩ := op_int h
  obtain ⟨xe51, _, rfl, oe51, h⟩ := op_int h
  obtain ⟨xe52, _, rfl, oe52, h⟩ := op_int h
  obtain ⟨xe53, _, rfl, oe53, h⟩ := op_int h
  obtain ⟨xe54, _, rfl, oe54, h⟩ := op_int h
  obtain ⟨xe55, _, rfl, oe55, h⟩ := op_int h
  obtain ⟨xe56, _, rfl, oe56, h⟩ := op_int h
  obtain ⟨xe57, _, rfl, oe57, h⟩ := op_int h
  obtain ⟨xe58, _, rfl, oe58, h⟩ := op_int h
  obtain ⟨xe59, _, rfl, oe59, h⟩ := op_int h
  obtain ⟨xe60, _, rfl, oe60, h⟩ := op_int h
  obtain ⟨xe61, _, rfl, oe61, h⟩ := op_int h
  obtain ⟨xe62, _, rfl, oe62, h⟩ := op_int h
  obtain ⟨xe63, _, rfl, oe63, h⟩ := op_int h
  obtain ⟨xe64, _, rfl, oe64, h⟩ := op_int h
  obtain rfl := ces_nil h
  exact ⟨⟨xe0, xe1, xe2, xe3, xe4, xe5, xe6, xe7, xe8, xe9, xe10, xe11, xe12, xe13, xe14, xe15, xe16, xe17, xe18, xe19, xe20, xe21, xe22, xe23, xe24, xe25, xe26, xe27, xe28, xe29, xe30, xe31, xe32, xe33, xe34, xe35, xe36, xe37, xe38, xe39, xe40, xe41, xe42, xe43, xe44, xe45, xe46, xe47, xe48, xe49, xe50, xe51, xe52, xe53, xe54, xe55, xe56, xe57, xe58, xe59, xe60, xe61, xe62, xe63, xe64⟩, rfl, oe0, oe1, oe2, oe3, oe4, oe5, oe6, oe7, oe8, oe9, oe10, oe11, oe12, oe13, oe14, oe15, oe16, oe17, oe18, oe19, oe20, oe21, oe22, oe23, oe24, oe25, oe26, oe27, oe28, oe29, oe30, oe31, oe32, oe33, oe34, oe35, oe36, oe37, oe38, oe39, oe40, oe41, oe42, oe43, oe44, oe45, oe46, oe47, oe48, oe49, oe50, oe51, oe52, oe53, oe54, oe55, oe56, oe57, oe58, oe59, oe60, oe61, oe62, oe63, oe64⟩⟩
structure A32I where
  e0 : Int
  e1 : Int
  e2 : Int
  e3 : Int
  e4 : Int
  e5 : Int
  e6 : Int
  e7 : Int
  e8 : Int
  e9 : Int
  e10 : Int
  e11 : Int
  e12 : Int
  e13 : Int
  e14 : Int
  e15 : Int
  e16 : Int
  e17 : Int
  e18 : Int
  e19 : Int
  e20 : Int
  e21 : Int
  e22 : Int
  e23 : Int
  e24 : Int
  e25 : Int
  e26 : Int
  e27 : Int
  e28 : Int
  e29 : Int
  e30 : Int
  e31 : Int
instance flA32I : Flat A32I := ⟨32, fun x => [.int .u8 x.e0, .int .u8 x.e1, .int .u8 x.e2, .int .u8 x.e3, .int .u8 x.e4, .int .u8 x.e5, .int .u8 x.e6, .int .u8 x.e7, .int .u8 x.e8, .int .u8 x.e9, .int .u8 x.e10, .int .u8 x.e11, .int .u8 x.e12, .int .u8 x.e13, .int .u8 x.e14, .int .u8 x.e15, .int .u8 x.e16, .int .u8 x.e17, .int .u8 x.e18, .int .u8 x.e19, .int .u8 x.e20, .int .u8 x.e21, .int .u8 x.e22, .int .u8 x.e23, .int .u8 x.e24, .int .u8 x.e25, .int .u8 x.e26, .int .u8 x.e27, .int .u8 x.e28, .int .u8 x.e29, .int .u8 x.e30, .int .u8 x.e31], ⟨0, 0, 0, 0, 0, 0, 0, 0, 0, 0, 0, 0, 0, 0, 0, 0, 0, 0, 0, 0, 0, 0, 0, 0, 0, 0, 0, 0, 0, 0, 0, 0⟩, fun _ => rfl, by decide, fun _ => rfl, fun _ => rfl⟩
instance opA32I : Ope A32I := ⟨.int .u8 :: (.int .u8 :: (.int .u8 :: (.int .u8 :: (.int .u8 :: (.int .u8 :: (.int .u8 :: (.int .u8 :: (.int .u8 :: (.int .u8 :: (.int .u8 :: (.int .u8 :: (.int .u8 :: (.int .u8 :: (.int .u8 :: (.int .u8 :: (.int .u8 :: (.int .u8 :: (.int .u8 :: (.int .u8 :: (.int .u8 :: (.int .u8 :: (.int .u8 :: (.int .u8 :: (.int .u8 :: (.int .u8 :: (.int .u8 :: (.int .u8 :: (.int .u8 :: (.int .u8 :: (.int .u8 :: (.int .u8 :: ([])))))))))))))))))))))))))))))))), fun x => (Lit.int .u8 x.e0).wf = true ∧ (Lit.int .u8 x.e1).wf = true ∧ (Lit.int .u8 x.e2).wf = true ∧ (Lit.int .u8 x.e3).wf = true ∧ (Lit.int .u8 x.e4).wf = true ∧ (Lit.int .u8 x.e5).wf = true ∧ (Lit.int .u8 x.e6).wf = true ∧ (Lit.int .u8 x.e7).wf = true ∧ (Lit.int .u8 x.e8).wf = true ∧ (Lit.int .u8 x.e9).wf = true ∧ (Lit.int .u8 x.e10).wf = true ∧ (Lit.int .u8 x.e11).wf = true ∧ (Lit.int .u8 x.e12).wf = true ∧ (Lit.int .u8 x.e13).wf = true ∧ (Lit.int .u8 x.e14).wf = true ∧ (Lit.int .u8 x.e15).wf = true ∧ (Lit.int .u8 x.e16).wf = true ∧ (Lit.int .u8 x.e17).wf = true ∧ (Lit.int .u8 x.e18).wf = true ∧ (Lit.int .u8 x.e19).wf = true ∧ (Lit.int .u8 x.e20).wf = true ∧ (Lit.int .u8 x.e21).wf = true ∧ (Lit.int .u8 x.e22).wf = true ∧ (Lit.int .u8 x.e23).wf = true ∧ (Lit.int .u8 x.e24).wf = true ∧ (Lit.int .u8 x.e25).wf = true ∧ (Lit.int .u8 x.e26).wf = true ∧ (Lit.int .u8 x.e27).wf = true ∧ (Lit.int .u8 x.e28).wf = true ∧ (Lit.int .u8 x.e29).wf = true ∧ (Lit.int .u8 x.e30).wf = true ∧ (Lit.int .u8 x.e31).wf = true, fun can h => by
  obtain ⟨xe0, _, rfl, oe0, h⟩ := op_int h
  obtain ⟨xe1, _, rfl, oe1, h⟩ := op_int h
  obtain ⟨xe2, _, rfl, oe2, h⟩ := op_int h
  obtain ⟨xe3, _, rfl, oe3, h⟩ := op_int h
  obtain ⟨xe4, _, rfl, oe4, h⟩ := op_int h
  obtain ⟨xe5, _, rfl, oe5, h⟩ := op_int h
  obtain ⟨xe6, _, rfl, oe6, h⟩ := op_int h
  obtain ⟨xe7, _, rfl, oe7, h⟩ := op_int h
  obtain ⟨xe8, _, rfl, oe8, h⟩ := op_int h
  obtain ⟨xe9, _, rfl, oe9, h⟩ := op_int h
  obtain ⟨xe10, _, rfl, oe10, h⟩ := op_int h
  obtain ⟨xe11, _, rfl, oe11, h⟩ := op_int h
  obtain ⟨xe12, _, rfl, oe12, h⟩ := op_int h
  obtain ⟨xe13, _, rfl, oe13, h⟩ := op_int h
  obtain ⟨xe14, _, rfl, oe14, h⟩ := op_int h
  obtain ⟨xe15, _, rfl, oe15, h⟩ := op_int h
  obtain ⟨xe16, _, rfl, oe16, h⟩ := op_int h
  obtain ⟨xe17, _, rfl, oe17, h⟩ := op_int h
  obtain ⟨xe18, _, rfl, oe18, h⟩ := op_int h
  obtain ⟨xe19, _, rfl, oe19, h⟩ := op_int h
  obtain ⟨xe20, _, rfl, oe20, h⟩ := op_int h
  obtain ⟨xe21, _, rfl, oe21, h⟩ := op_int h
  obtain ⟨xe22, _, rfl, oe22, h⟩ := op_int h
  obtain ⟨xe23, _, rfl, oe23, h⟩ := op_int h
  obtain ⟨xe24, _, rfl, oe24, h⟩ := op_int h
  obtain ⟨xe25, _, rfl, oe25, h⟩ := op_int h
  obtain ⟨xe26, _, rfl, oe26, h⟩ := op_int h
  obtain ⟨xe27, _, rfl, oe27, h⟩ := op_int h
  obtain ⟨xe28, _, rfl, oe28, h⟩ := op_int h
  obtain ⟨xe29, _, rfl, oe29, h⟩ := op_int h
  obtain ⟨xe30, _, rfl, oe30, h⟩ := op_int h
  obtain ⟨xe31, _, rfl, oe31, h⟩ := op_int h
  obtain rfl := ces_nil h
  exact ⟨⟨xe0, xe1, xe2, xe3, xe4, xe5, xe6, xe7, xe8, xe9, xe10, xe11, xe12, xe13, xe14, xe15, xe16, xe17, xe18, xe19, xe20, xe21, xe22, xe23, xe24, xe25, xe26, xe27, xe28, xe29, xe30, xe31⟩, rfl, oe0, oe1, oe2, oe3, oe4, oe5, oe6, oe7, oe8, oe9, oe10, oe11, oe12, oe13, oe14, oe15, oe16, oe17, oe18, oe19, oe20, oe21, oe22, oe23, oe24, oe25, oe26, oe27, oe28, oe29, oe30, oe31⟩⟩
structure A64I where
  e0 : Int
  e1 : Int
  e2 : Int
  e3 : Int
  e4 : Int
  e5 : Int
  e6 : Int
  e7 : Int
  e8 : Int
  e9 : Int
  e10 : Int
  e11 : Int
  e12 : Int
  e13 : Int
  e14 : Int
  e15 : Int
  e16 : Int
  e17 : Int
  e18 : Int
  e19 : Int
  e20 : Int
  e21 : Int
  e22 : Int
  e23 : Int
  e24 : Int
  e25 : Int
  e26 : Int
  e27 : Int
  e28 : Int
  e29 : Int
  e30 : Int
  e31 : Int
  e32 : Int
  e33 : Int
  e34 : Int
  e35 : Int
  e36 : Int
  e37 : Int
  e38 : Int
  e39 : Int
  e40 : Int
  e41 : Int
  e42 : Int
  e43 : Int
  e44 : Int
  e45 : Int
  e46 : Int
  e47 : Int
  e48 : Int
  e49 : Int
  e50 : Int
  e51 : Int
  e52 : Int
  e53 : Int
  e54 : Int
  e55 : Int
  e56 : Int
  e57 : Int
  e58 : Int
  e59 : Int
  e60 : Int
  e61 : Int
  e62 : Int
  e63 : Int
instance flA64I : Flat A64I := ⟨64, fun x => [.int .u8 x.e0, .int .u8 x.e1, .int .u8 x.e2, .int .u8 x.e3, .int .u8 x.e4, .int .u8 x.e5, .int .u8 x.e6, .int .u8 x.e7, .int .u8 x.e8, .int .u8 x.e9, .int .u8 x.e10, .int .u8 x.e11, .int .u8 x.e12, .int .u8 x.e13, .int .u8 x.e14, .int .u8 x.e15, .int .u8 x.e16, .int .u8 x.e17, .int .u8 x.e18, .int .u8 x.e19, .int .u8 x.e20, .int .u8 x.e21, .int .u8 x.e22, .int .u8 x.e23, .int .u8 x.e24, .int .u8 x.e25, .int .u8 x.e26, .int .u8 x.e27, .int .u8 x.e28, .int .u8 x.e29, .int .u8 x.e30, .int .u8 x.e31, .int .u8 x.e32, .int .u8 x.e33, .int .u8 x.e34, .int .u8 x.e35, .int .u8 x.e36, .int .u8 x.e37, .int .u8 x.e38, .int .u8 x.e39, .int .u8 x.e40, .int .u8 x.e41, .int .u8 x.e42, .int .u8 x.e43, .int .u8 x.e44, .int .u8 x.e45, .int .u8 x.e46, .int .u8 x.e47, .int .u8 x.e48, .int .u8 x.e49, .int .u8 x.e50, .int .u8 x.e51, .int .u8 x.e52, .int .u8 x.e53, .int .u8 x.e54, .int .u8 x.e55, .int .u8 x.e56, .int .u8 x.e57, .int .u8 x.e58, .int .u8 x.e59, .int .u8 x.e60, .int .u8 x.e61, .int .u8 x.e62, .int .u8 x.e63], ⟨0, 0, 0, 0, 0, 0, 0, 0, 0, 0, 0, 0, 0, 0, 0, 0, 0, 0, 0, 0, 0, 0, 0, 0, 0, 0, 0, 0, 0, 0, 0, 0, 0, 0, 0, 0, 0, 0, 0, 0, 0, 0, 0, 0, 0, 0, 0, 0, 0, 0, 0, 0, 0, 0, 0, 0, 0, 0, 0, 0, 0, 0, 0, 0⟩, fun _ => rfl, by decide, fun _ => rfl, fun _ => rfl⟩
instance opA64I : Ope A64I := ⟨.int .u8 :: (.int .u8 :: (.int .u8 :: (.int .u8 :: (.int .u8 :: (.int .u8 :: (.int .u8 :: (.int .u8 :: (.int .u8 :: (.int .u8 :: (.int .u8 :: (.int .u8 :: (.int .u8 :: (.int .u8 :: (.int .u8 :: (.int .u8 :: (.int .u8 :: (.int .u8 :: (.int .u8 :: (.int .u8 :: (.int .u8 :: (.int .u8 :: (.int .u8 :: (.int .u8 :: (.int .u8 :: (.int .u8 :: (.int .u8 :: (.int .u8 :: (.int .u8 :: (.int .u8 :: (.int .u8 :: (.int .u8 :: (.int .u8 :: (.int .u8 :: (.int .u8 :: (.int .u8 :: (.int .u8 :: (.int .u8 :: (.int .u8 :: (.int .u8 :: (.int .u8 :: (.int .u8 :: (.int .u8 :: (.int .u8 :: (.int .u8 :: (.int .u8 :: (.int .u8 :: (.int .u8 :: (.int .u8 :: (.int .u8 :: (.int .u8 :: (.int .u8 :: (.int .u8 :: (.int .u8 :: (.int .u8 :: (.int .u8 :: (.int .u8 :: (.int .u8 :: (.int .u8 :: (.int .u8 :: (.int .u8 :: (.int .u8 :: (.int .u8 :: (.int .u8 :: ([])))))))))))))))))))))))))))))))))))))))))))))))))))))))))))))))), fun x => (Lit.int .u8 x.e0).wf = true ∧ (Lit.int .u8 x.e1).wf = true ∧ (Lit.int .u8 x.e2).wf = true ∧ (Lit.int .u8 x.e3).wf = true ∧ (Lit.int .u8 x.e4).wf = true ∧ (Lit.int .u8 x.e5).wf = true ∧ (Lit.int .u8 x.e6).wf = true ∧ (Lit.int .u8 x.e7).wf = true ∧ (Lit.int .u8 x.e8).wf = true ∧ (Lit.int .u8 x.e9).wf = true ∧ (Lit.int .u8 x.e10).wf = true ∧ (Lit.int .u8 x.e11).wf = true ∧ (Lit.int .u8 x.e12).wf = true ∧ (Lit.int .u8 x.e13).wf = true ∧ (Lit.int .u8 x.e14).wf = true ∧ (Lit.int .u8 x.e15).wf = true ∧ (Lit.int .u8 x.e16).wf = true ∧ (Lit.int .u8 x.e17).wf = true ∧ (Lit.int .u8 x.e18).wf = true ∧ (Lit.int .u8 x.e19).wf = true ∧ (Lit.int .u8 x.e20).wf = true ∧ (Lit.int .u8 x.e21).wf = true ∧ (Lit.int .u8 x.e22).wf = true ∧ (Lit.int .u8 x.e23).wf = true ∧ (Lit.int .u8 x.e24).wf = true ∧ (Lit.int .u8 x.e25).wf = true ∧ (Lit.int .u8 x.e26).wf = true ∧ (Lit.int .u8 x.e27).wf = true ∧ (Lit.int .u8 x.e28).wf = true ∧ (Lit.int .u8 x.e29).wf = true ∧ (Lit.int .u8 x.e30).wf = true ∧ (Lit.int .u8 x.e31).wf = true ∧ (Lit.int .u8 x.e32).wf = true ∧ (Lit.int .u8 x.e33).wf = true ∧ (Lit.int .u8 x.e34).wf = true ∧ (Lit.int .u8 x.e35).wf = true ∧ (Lit.int .u8 x.e36).wf = true ∧ (Lit.int .u8 x.e37).wf = true ∧ (Lit.int .u8 x.e38).wf = true ∧ (Lit.int .u8 x.e39).wf = true ∧ (Lit.int .u8 x.e40).wf = true ∧ (Lit.int .u8 x.e41).wf = true ∧ (Lit.int .u8 x.e42).wf = true ∧ (Lit.int .u8 x.e43).wf = true ∧ (Lit.int .u8 x.e44).wf = true ∧ (Lit.int .u8 x.e45).wf = true ∧ (Lit.int .u8 x.e46).wf = true ∧ (Lit.int .u8 x.e47).wf = true ∧ (Lit.int .u8 x.e48).wf = true ∧ (Lit.int .u8 x.e49).wf = true ∧ (Lit.int .u8 x.e50).wf = true ∧ (Lit.int .u8 x.e51).wf = true ∧ (Lit.int .u8 x.e52).wf = true ∧ (Lit.int .u8 x.e53).wf = true ∧ (Lit.int .u8 x.e54).wf = true ∧ (Lit.int .u8 x.e55).wf = true ∧ (Lit.int .u8 x.e56).wf = true ∧ (Lit.int .u8 x.e57).wf = true ∧ (Lit.int .u8 x.e58).wf = true ∧ (Lit.int .u8 x.e59).wf = true ∧ (Lit.int .u8 x.e60).wf = true ∧ (Lit.int .u8 x.e61).wf = true ∧ (Lit.int .u8 x.e62).wf = true ∧ (Lit.int .u8 x.e63).wf = true, fun can h => by
  obtain ⟨xe0, _, rfl, oe0, h⟩ := op_int h
  obtain ⟨xe1, _, rfl, oe1, h⟩ := op_int h
  obtain ⟨xe2, _, rfl, oe2, h⟩ := op_int h
  obtain ⟨xe3, _, rfl, oe3, h⟩ := op_int h
  obtain ⟨xe4, _, rfl, oe4, h⟩ := op_int h
  obtain ⟨xe5, _, rfl, oe5, h⟩ := op_int h
  obtain ⟨xe6, _, rfl, oe6, h⟩ := op_int h
  obtain ⟨xe7, _, rfl, oe7, h⟩ := op_int h
  obtain ⟨xe8, _, rfl, oe8, h⟩ := op_int h
  obtain ⟨xe9, _, rfl, oe9, h⟩ := op_int h
  obtain ⟨xe10, _, rfl, oe10, h⟩ := op_int h
  obtain ⟨xe11, _, rfl, oe11, h⟩ := op_int h
  obtain ⟨xe12, _, rfl, oe12, h⟩ := op_int h
  obtain ⟨xe13, _, rfl, oe13, h⟩ := op_int h
  obtain ⟨xe14, _, rfl, oe14, h⟩ := op_int h
  obtain ⟨xe15, _, rfl, oe15, h⟩ := op_int h
  obtain ⟨xe16, _, rfl, oe16, h⟩ := op_int h
  obtain ⟨xe17, _, rfl, oe17, h⟩ := op_int h
  obtain ⟨xe18, _, rfl, oe18, h⟩ := op_int h
  obtain ⟨xe19, _, rfl, oe19, h⟩ := op_int h
  obtain ⟨xe20, _, rfl, oe20, h⟩ := op_int h
  obtain ⟨xe21, _, rfl, oe21, h⟩ := op_int h
  obtain ⟨xe22, _, rfl, oe22, h⟩ := op_int h
  obtain ⟨xe23, _, rfl, oe23, h⟩ := op_int h
  obtain ⟨xe24, _, rfl, oe24, h⟩ := op_int h
  obtain ⟨xe25, _, rfl, oe25, h⟩ := op_int h
  obtain ⟨xe26, _, rfl, oe26, h⟩ := op_int h
  obtain ⟨xe27, _, rfl, oe27, h⟩ := op_int h
  obtain ⟨xe28, _, rfl, oe28, h⟩ := op_int h
  obtain ⟨xe29, _, rfl, oe29, h⟩ := op_int h
  obtain ⟨xe30, _, rfl, oe30, h⟩ := op_int h
  obtain ⟨xe31, _, rfl, oe31, h⟩ := op_int h
  obtain ⟨xe32, _, rfl, oe32, h⟩ := op_int h
  obtain ⟨xe33, _, rfl, oe33, h⟩ := op_int h
  obtain ⟨xe34, _, rfl, oe34, h⟩ := op_int h
  obtain ⟨xe35, _, rfl, oe35, h⟩ := op_int h
  obtain ⟨xe36, _, rfl, oe36, h⟩ := op_int h
  obtain ⟨xe37, _, rfl, oe37, h⟩ := op_int h
  obtain ⟨xe38, _, rfl, oe38, h⟩ := op_int h
  obtain ⟨xe39, _, rfl, oe39, h⟩ := op_int h
  obtain ⟨xe40, _, rfl, oe40, h⟩ := op_int h
  obtain ⟨xe41, _, rfl, oe41, h⟩ := op_int h
  obtain ⟨xe42, _, rfl, oe42, h⟩ := op_int h
  obtain ⟨xe43, _, rfl, oe43, h⟩ := op_int h
  obtain ⟨xe44, _, rfl, oe44, h⟩ := op_int h
  obtain ⟨xe45, _, rfl, oe45, h⟩ := op_int h
  obtain ⟨xe46, _, rfl, oe46, h⟩ := op_int h
  obtain ⟨xe47, _, rfl, oe47, h⟩ := op_int h
  obtain ⟨xe48, _, rfl, oe48, h⟩ := op_int h
  obtain ⟨xe49, _, rfl, oe49, h⟩ := op_int h
  obtain ⟨xe50, _, rfl, oe50, h⟩ := op_int h
  obtain ⟨xe51, _, rfl, oe51, h⟩ := op_int h
  obtain ⟨xe52, _, rfl, oe52, h⟩ := op_int h
  obtain ⟨xe53, _, rfl, oe53, h⟩ := op_int h
  obtain ⟨xe54, _, rfl, oe54, h⟩ := op_int h
  obtain ⟨xe55, _, rfl, oe55, h⟩ := op_int h
  obtain ⟨xe56, _, rfl, oe56, h⟩ := op_int h
  obtain ⟨xe57, _, rfl, oe57, h⟩ := op_int h
  obtain ⟨xe58, _, rfl, oe58, h⟩ := op_int h
  obtain ⟨xe59, _, rfl, oe59, h⟩ := op_int h
  obtain ⟨xe60, _, rfl, oe60, h⟩ := op_int h
  obtain ⟨xe61, _, rfl, oe61, h⟩ := op_int h
  obtain ⟨xe62, _, rfl, oe62, h⟩ := op_int h
  obtain ⟨xe63, _, rfl, oe63, h⟩ := op_int h
  obtain rfl := ces_nil h
  exact ⟨⟨xe0, xe1, xe2, xe3, xe4, xe5, xe6, xe7, xe8, xe9, xe10, xe11, xe12, xe13, xe14, xe15, xe16, xe17, xe18, xe19, xe20, xe21, xe22, xe23, xe24, xe25, xe26, xe27, xe28, xe29, xe30, xe31, xe32, xe33, xe34, xe35, xe36, xe37, xe38, xe39, xe40, xe41, xe42, xe43, xe44, xe45, xe46, xe47, xe48, xe49, xe50, xe51, xe52, xe53, xe54, xe55, xe56, xe57, xe58, xe59, xe60, xe61, xe62, xe63⟩, rfl, oe0, oe1, oe2, oe3, oe4, oe5, oe6, oe7, oe8, oe9, oe10, oe11, oe12, oe13, oe14, oe15, oe16, oe17, oe18, oe19, oe20, oe21, oe22, oe23, oe24, oe25, oe26, oe27, oe28, oe29, oe30, oe31, oe32, oe33, oe34, oe35, oe36, oe37, oe38, oe39, oe40, oe41, oe42, oe43, oe44, oe45, oe46, oe47, oe48, oe49, oe50, oe51, oe52, oe53, oe54, oe55, oe56, oe57, oe58, oe59, oe60, oe61, oe62, oe63⟩⟩

end

section
open Go Go.Dt Go.Proofs Go.Shelf Go.RowKit
set_option linter.unusedVariables false

def laysPI_ren : Go.Shelf.Ren := ⟨fun | 174 => 46 | 247 => 65 | 245 => 66 | 287 => 84 | 279 => 85 | 280 => 86 | 281 => 87 | 282 => 88 | 321 => 102 | 322 => 103 | 316 => 104 | 171 => 106 | 205 => 105 | 243 => 115 | 246 => 121 | 283 => 123 | 284 => 124 | 285 => 125 | 286 => 126 | 129 => 128 | 317 => 127 | 318 => 129 | 319 => 130 | 320 => 131 | 337 => 132 | 338 => 133 | n => n, fun | 9 => 9 | 3 => 3 | 2 => 2 | 75 => 86 | 85 => 100 | 4 => 4 | 167 => 136 | 5 => 5 | 53 => 104 | 175 => 137 | 46 => 139 | 168 => 140 | 37 => 82 | 0 => 0 | 210 => 160 | 21 => 21 | 127 => 115 | 145 => 169 | 143 => 167 | 171 => 177 | 173 => 180 | 212 => 183 | 51 => 170 | 20 => 20 | 213 => 184 | 232 => 187 | 233 => 188 | 80 => 89 | n => n, fun | 15 => 2 | 16 => 3 | 17 => 5 | 18 => 6 | 19 => 7 | n => n⟩
theorem laysPI : Go.Proofs.LaysC.n174 Tryz.prog laysPI_ren := {
  mixed := by kernel_rfl
  f129 := Tryz.func128.trans (congrArg some (by kernel_rfl))
  f171 := Tryz.func106.trans (congrArg some (by kernel_rfl))
  f174 := Tryz.func46.trans (congrArg some (by kernel_rfl))
  f205 := Tryz.func105.trans (congrArg some (by kernel_rfl))
  f243 := Tryz.func115.trans (congrArg some (by kernel_rfl))
  f245 := Tryz.func66.trans (congrArg some (by kernel_rfl))
  f246 := Tryz.func121.trans (congrArg some (by kernel_rfl))
  f247 := Tryz.func65.trans (congrArg some (by kernel_rfl))
  f279 := Tryz.func85.trans (congrArg some (by kernel_rfl))
  f280 := Tryz.func86.trans (congrArg some (by kernel_rfl))
  f281 := Tryz.func87.trans (congrArg some (by kernel_rfl))
  f282 := Tryz.func88.trans (congrArg some (by kernel_rfl))
  f283 := Tryz.func123.trans (congrArg some (by kernel_rfl))
  f284 := Tryz.func124.trans (congrArg some (by kernel_rfl))
  f285 := Tryz.func125.trans (congrArg some (by kernel_rfl))
  f286 := Tryz.func126.trans (congrArg some (by kernel_rfl))
  f287 := Tryz.func84.trans (congrArg some (by kernel_rfl))
  f316 := Tryz.func104.trans (congrArg some (by kernel_rfl))
  f317 := Tryz.func127.trans (congrArg some (by kernel_rfl))
  f318 := Tryz.func129.trans (congrArg some (by kernel_rfl))
  f319 := Tryz.func130.trans (congrArg some (by kernel_rfl))
  f320 := Tryz.func131.trans (congrArg some (by kernel_rfl))
  f321 := Tryz.func102.trans (congrArg some (by kernel_rfl))
  f322 := Tryz.func103.trans (congrArg some (by kernel_rfl))
  f337 := Tryz.func132.trans (congrArg some (by kernel_rfl))
  f338 := Tryz.func133.trans (congrArg some (by kernel_rfl))
  t0 := Tryz.underlying0
  a0 := Tryz.isAgg0
  z0 := Tryz.sizeOf0
  v0 := Tryz.zeroValue0
  t2 := Tryz.underlying2
  a2 := Tryz.isAgg2
  z2 := Tryz.sizeOf2
  v2 := Tryz.zeroValue2
  t3 := Tryz.underlying3
  a3 := Tryz.isAgg3
  z3 := Tryz.sizeOf3
  v3 := Tryz.zeroValue3
  t4 := Tryz.underlying4
  a4 := Tryz.isAgg4
  z4 := Tryz.sizeOf4
  v4 := Tryz.zeroValue4
  t5 := Tryz.underlying5
  a5 := Tryz.isAgg5
  z5 := Tryz.sizeOf5
  v5 := Tryz.zeroValue5
  t9 := Tryz.underlying9
  a9 := Tryz.isAgg9
  z9 := Tryz.sizeOf9
  v9 := Tryz.zeroValue9
  t20 := Tryz.underlying20
  a20 := Tryz.isAgg20
  z20 := Tryz.sizeOf20
  v20 := Tryz.zeroValue20
  t21 := Tryz.underlying21
  a21 := Tryz.isAgg21
  z21 := Tryz.sizeOf21
  v21 := Tryz.zeroValue21
  t37 := Tryz.underlying82
  a37 := Tryz.isAgg82
  z37 := Tryz.sizeOf82
  v37 := Tryz.zeroValue82
  t46 := Tryz.underlying139
  a46 := Tryz.isAgg139
  z46 := Tryz.sizeOf139
  v46 := Tryz.zeroValue139
  t51 := Tryz.underlying170
  a51 := Tryz.isAgg170
  z51 := Tryz.sizeOf170
  v51 := Tryz.zeroValue170
  t53 := Tryz.underlying104
  a53 := Tryz.isAgg104
  z53 := Tryz.sizeOf104
  v53 := Tryz.zeroValue104
  t75 := Tryz.underlying86
  a75 := Tryz.isAgg86
  z75 := Tryz.sizeOf86
  v75 := Tryz.zeroValue86
  t85 := Tryz.underlying100
  a85 := Tryz.isAgg100
  z85 := Tryz.sizeOf100
  v85 := Tryz.zeroValue100
  t127 := Tryz.underlying115
  a127 := Tryz.isAgg115
  z127 := Tryz.sizeOf115
  v127 := Tryz.zeroValue115
  t143 := Tryz.underlying167
  a143 := Tryz.isAgg167
  z143 := Tryz.sizeOf167
  v143 := Tryz.zeroValue167
  t145 := Tryz.underlying169
  a145 := Tryz.isAgg169
  z145 := Tryz.sizeOf169
  v145 := Tryz.zeroValue169
  t167 := Tryz.underlying136
  a167 := Tryz.isAgg136
  z167 := Tryz.sizeOf136
  v167 := Tryz.zeroValue136
  t168 := Tryz.underlying140
  a168 := Tryz.isAgg140
  z168 := Tryz.sizeOf140
  v168 := Tryz.zeroValue140
  t171 := Tryz.underlying177
  a171 := Tryz.isAgg177
  z171 := Tryz.sizeOf177
  v171 := Tryz.zeroValue177
  t173 := Tryz.underlying180
  a173 := Tryz.isAgg180
  z173 := Tryz.sizeOf180
  v173 := Tryz.zeroValue180
  t175 := Tryz.underlying137
  a175 := Tryz.isAgg137
  z175 := Tryz.sizeOf137
  v175 := Tryz.zeroValue137
  t210 := Tryz.underlying160
  a210 := Tryz.isAgg160
  z210 := Tryz.sizeOf160
  v210 := Tryz.zeroValue160
  t212 := Tryz.underlying183
  a212 := Tryz.isAgg183
  z212 := Tryz.sizeOf183
  v212 := Tryz.zeroValue183
  t213 := Tryz.underlying184
  a213 := Tryz.isAgg184
  z213 := Tryz.sizeOf184
  t232 := Tryz.underlying187
  a232 := Tryz.isAgg187
  z232 := Tryz.sizeOf187
  v232 := Tryz.zeroValue187
  t233 := Tryz.underlying188
  a233 := Tryz.isAgg188
  z233 := Tryz.sizeOf188
  v233 := Tryz.zeroValue188
  g15 := by kernel_rfl
  g16 := by kernel_rfl
  g17 := by kernel_rfl
  g18 := by kernel_rfl
  g19 := by kernel_rfl
  t80 := Tryz.underlying89
  a80 := Tryz.isAgg89
  z80 := Tryz.sizeOf89
  v80 := Tryz.zeroValue89
  i0 := by kernel_rfl
  i2 := by kernel_rfl
  i3 := by kernel_rfl
  i4 := by kernel_rfl
  i5 := by kernel_rfl
  i9 := by kernel_rfl
  i20 := by kernel_rfl
  i21 := by kernel_rfl
  i37 := by kernel_rfl
  i46 := by kernel_rfl
  i51 := by kernel_rfl
  i53 := by kernel_rfl
  i75 := by kernel_rfl
  i80 := by kernel_rfl
  i85 := by kernel_rfl
  i127 := by kernel_rfl
  i143 := by kernel_rfl
  i145 := by kernel_rfl
  i167 := by kernel_rfl
  i168 := by kernel_rfl
  i171 := by kernel_rfl
  i173 := by kernel_rfl
  i175 := by kernel_rfl
  i210 := by kernel_rfl
  i212 := by kernel_rfl
  i232 := by kernel_rfl
  i233 := by kernel_rfl
  m15 := by kernel_rfl
  m16 := by kernel_rfl
  m17 := by kernel_rfl
  m18 := by kernel_rfl
  m19 := by kernel_rfl
  c0 := by kernel_rfl
  c2 := by kernel_rfl
  c3 := by kernel_rfl
  c4 := by kernel_rfl
  c5 := by kernel_rfl
  c9 := by kernel_rfl
  c20 := by kernel_rfl
  c21 := by kernel_rfl
  c37 := by kernel_rfl
  c46 := by kernel_rfl
  c51 := by kernel_rfl
  c53 := by kernel_rfl
  c75 := by kernel_rfl
  c80 := by kernel_rfl
  c85 := by kernel_rfl
  c127 := by kernel_rfl
  c143 := by kernel_rfl
  c145 := by kernel_rfl
  c167 := by kernel_rfl
  c168 := by kernel_rfl
  c171 := by kernel_rfl
  c173 := by kernel_rfl
  c175 := by kernel_rfl
  c210 := by kernel_rfl
  c212 := by kernel_rfl
  c213 := by kernel_rfl
  c232 := by kernel_rfl
  c233 := by kernel_rfl }
def laysV_ren : Go.Shelf.Ren := ⟨fun | 196 => 80 | 259 => 97 | n => n, fun | 9 => 9 | 4 => 4 | 3 => 3 | 5 => 5 | 12 => 12 | 119 => 150 | 0 => 0 | 46 => 139 | 139 => 153 | 138 => 152 | 53 => 104 | n => n, fun | 3 => 0 | 4 => 1 | n => n⟩
theorem laysV : Go.Proofs.Lays.n196 Tryz.prog laysV_ren := {
  mixed := by kernel_rfl
  f196 := Tryz.func80.trans (congrArg some (by kernel_rfl))
  f259 := Tryz.func97.trans (congrArg some (by kernel_rfl))
  t0 := Tryz.underlying0
  a0 := Tryz.isAgg0
  z0 := Tryz.sizeOf0
  v0 := Tryz.zeroValue0
  t3 := Tryz.underlying3
  a3 := Tryz.isAgg3
  z3 := Tryz.sizeOf3
  v3 := Tryz.zeroValue3
  t4 := Tryz.underlying4
  a4 := Tryz.isAgg4
  z4 := Tryz.sizeOf4
  v4 := Tryz.zeroValue4
  t5 := Tryz.underlying5
  a5 := Tryz.isAgg5
  z5 := Tryz.sizeOf5
  v5 := Tryz.zeroValue5
  t9 := Tryz.underlying9
  a9 := Tryz.isAgg9
  z9 := Tryz.sizeOf9
  v9 := Tryz.zeroValue9
  t12 := Tryz.underlying12
  a12 := Tryz.isAgg12
  z12 := Tryz.sizeOf12
  v12 := Tryz.zeroValue12
  t46 := Tryz.underlying139
  a46 := Tryz.isAgg139
  z46 := Tryz.sizeOf139
  v46 := Tryz.zeroValue139
  t53 := Tryz.underlying104
  a53 := Tryz.isAgg104
  z53 := Tryz.sizeOf104
  v53 := Tryz.zeroValue104
  t119 := Tryz.underlying150
  a119 := Tryz.isAgg150
  z119 := Tryz.sizeOf150
  t138 := Tryz.underlying152
  a138 := Tryz.isAgg152
  z138 := Tryz.sizeOf152
  v138 := Tryz.zeroValue152
  t139 := Tryz.underlying153
  a139 := Tryz.isAgg153
  z139 := Tryz.sizeOf153
  v139 := Tryz.zeroValue153
  g3 := by kernel_rfl
  g4 := by kernel_rfl }
def laysS_ren : Go.Shelf.Ren := ⟨fun | 146 => 44 | 221 => 63 | 268 => 81 | 138 => 82 | 143 => 83 | 195 => 98 | 197 => 99 | 218 => 100 | 219 => 101 | 260 => 111 | 217 => 78 | 225 => 112 | 224 => 113 | 267 => 114 | 266 => 96 | 314 => 120 | n => n, fun | 9 => 9 | 31 => 53 | 3 => 3 | 4 => 4 | 0 => 0 | 105 => 155 | 21 => 21 | 5 => 5 | 46 => 139 | 119 => 150 | 139 => 153 | 138 => 152 | 146 => 171 | 51 => 170 | n => n, fun | 1 => 4 | 3 => 0 | 4 => 1 | n => n⟩
theorem laysS : Go.Proofs.Lays.n146 Tryz.prog laysS_ren := {
  mixed := by kernel_rfl
  f138 := Tryz.func82.trans (congrArg some (by kernel_rfl))
  f143 := Tryz.func83.trans (congrArg some (by kernel_rfl))
  f146 := Tryz.func44.trans (congrArg some (by kernel_rfl))
  f195 := Tryz.func98.trans (congrArg some (by kernel_rfl))
  f197 := Tryz.func99.trans (congrArg some (by kernel_rfl))
  f217 := Tryz.func78.trans (congrArg some (by kernel_rfl))
  f218 := Tryz.func100.trans (congrArg some (by kernel_rfl))
  f219 := Tryz.func101.trans (congrArg some (by kernel_rfl))
  f221 := Tryz.func63.trans (congrArg some (by kernel_rfl))
  f224 := Tryz.func113.trans (congrArg some (by kernel_rfl))
  f225 := Tryz.func112.trans (congrArg some (by kernel_rfl))
  f260 := Tryz.func111.trans (congrArg some (by kernel_rfl))
  f266 := Tryz.func96.trans (congrArg some (by kernel_rfl))
  f267 := Tryz.func114.trans (congrArg some (by kernel_rfl))
  f268 := Tryz.func81.trans (congrArg some (by kernel_rfl))
  f314 := Tryz.func120.trans (congrArg some (by kernel_rfl))
  t0 := Tryz.underlying0
  a0 := Tryz.isAgg0
  z0 := Tryz.sizeOf0
  v0 := Tryz.zeroValue0
  t3 := Tryz.underlying3
  a3 := Tryz.isAgg3
  z3 := Tryz.sizeOf3
  v3 := Tryz.zeroValue3
  t4 := Tryz.underlying4
  a4 := Tryz.isAgg4
  z4 := Tryz.sizeOf4
  v4 := Tryz.zeroValue4
  t5 := Tryz.underlying5
  a5 := Tryz.isAgg5
  z5 := Tryz.sizeOf5
  v5 := Tryz.zeroValue5
  t9 := Tryz.underlying9
  a9 := Tryz.isAgg9
  z9 := Tryz.sizeOf9
  v9 := Tryz.zeroValue9
  t21 := Tryz.underlying21
  a21 := Tryz.isAgg21
  z21 := Tryz.sizeOf21
  v21 := Tryz.zeroValue21
  t31 := Tryz.underlying53
  a31 := Tryz.isAgg53
  z31 := Tryz.sizeOf53
  v31 := Tryz.zeroValue53
  t46 := Tryz.underlying139
  a46 := Tryz.isAgg139
  z46 := Tryz.sizeOf139
  v46 := Tryz.zeroValue139
  t51 := Tryz.underlying170
  a51 := Tryz.isAgg170
  z51 := Tryz.sizeOf170
  v51 := Tryz.zeroValue170
  t105 := Tryz.underlying155
  a105 := Tryz.isAgg155
  z105 := Tryz.sizeOf155
  v105 := Tryz.zeroValue155
  t119 := Tryz.underlying150
  a119 := Tryz.isAgg150
  z119 := Tryz.sizeOf150
  t138 := Tryz.underlying152
  a138 := Tryz.isAgg152
  z138 := Tryz.sizeOf152
  v138 := Tryz.zeroValue152
  t139 := Tryz.underlying153
  a139 := Tryz.isAgg153
  z139 := Tryz.sizeOf153
  v139 := Tryz.zeroValue153
  t146 := Tryz.underlying171
  a146 := Tryz.isAgg171
  z146 := Tryz.sizeOf171
  v146 := Tryz.zeroValue171
  g1 := by kernel_rfl
  g3 := by kernel_rfl
  g4 := by kernel_rfl }

end

section
open Go Go.Dt Go.Proofs Go.Shelf Go.RowKit
set_option linter.unusedVariables false
set_option linter.unusedSimpArgs false

/-- A text of plain signs. -/
def Plain (s : ByteArray) : Prop := ∀ i (h : i < s.size), 32 ≤ (s[i]'h).toNat ∧ (s[i]'h).toNat < 127
/-- The library's tables, in a world. -/
def Tabs (w : World) : Prop := Lib.Utf8Tabs 0 1 w ∧ ∃ m, w.cell? ⟨4, 0, none⟩ = some (.int .i64 m)
theorem validD_plain {s : ByteArray} (h : Plain s) : Lib.validD s.data.toList = true := by
  have ha : Lib.Asc s s.size := fun b hb => by
    obtain ⟨i, hi, rfl⟩ := List.getElem_of_mem (List.mem_of_mem_take hb)
    have hi' : i < s.size := by rw [Lib.size_eq]; exact hi
    have := (h i hi').2
    show (s.data.toList[i]).toNat < 128
    have e : s.data.toList[i] = s[i]'hi' := rfl
    rw [e]; omega
  have := Lib.valid_skip s s.size ha
  rw [← this, Lib.ext_list, List.drop_eq_nil_of_le (by rw [Lib.size_eq]; exact Nat.le_refl _)]
  rfl
set_option maxHeartbeats 4000000 in
set_option maxRecDepth 100000 in
theorem right_calls (s : ByteArray) (hs : s.size ≤ 100000) (w : World) (ht : Tabs w) :
    Calls Tryz.prog 62 #[.string s] w fun e w' => e = .returned (.bool (Lib.validD s.data.toList)) ∧ Below w.heap.size w w' := by
  have h := Any.utf8_ValidString laysV s w (by omega) ht.1
  have h : Calls Tryz.prog 80 #[.string s] w fun e w' => e = .returned (.bool (Lib.validD s.data.toList)) ∧ Below w.heap.size w w' := h
  go_enter Tryz.func62, Tryz.ntmps62
  go_wp2_with (go_at_call 80; refine h.mono ?_; rintro e W1 ⟨rfl, hb⟩)
  go_ret
  exact ⟨rfl, hb⟩
theorem Tabs.below {w w' : World} {n : Nat} (h : Tabs w) (k : Below w.heap.size w w') : Tabs w' := by
  obtain ⟨h1, m, h2⟩ := h
  exact ⟨Utf8Tabs_below h1 k, m, (k.cell (World.block_lt_of_cell? _ _ h2)).trans h2⟩

/-- Is a line right, from a place on? -/
def lineF (s : ByteArray) : Nat → Nat → Bool
  | 0, _ => true
  | k + 1, p => if p < s.size then (if (Utf8.decode s p).1 < 32 ∨ (Utf8.decode s p).1 = 127 then false else lineF s k (p + (Utf8.decode s p).2)) else Lib.validD s.data.toList
def lineB (s : ByteArray) : Bool := lineF s (s.size + 1) 0
theorem decode_wide (s : ByteArray) (pos : Nat) (hp : pos < s.size) : 1 ≤ (Utf8.decode s pos).2 := by
  rcases Nat.lt_or_ge (s[pos]'hp).toNat 128 with h | h
  · rw [decode_ascii s pos hp h]; exact Nat.le_refl 1
  · exact (decode_high s pos hp h).2
theorem lineF_plain {s : ByteArray} (h : Plain s) : ∀ k p, lineF s k p = true
  | 0, _ => rfl
  | k + 1, p => by
    rw [lineF]
    split
    · rename_i hp
      have hb := h p hp
      rw [decode_ascii s p hp (by omega)]
      rw [if_neg (by simp only; omega)]
      exact lineF_plain h k _
    · exact validD_plain h
theorem lineB_plain {s : ByteArray} (h : Plain s) : lineB s = true := lineF_plain h _ _

set_option maxHeartbeats 4000000 in
set_option maxRecDepth 100000 in
theorem line_calls (s : ByteArray) (hs : s.size ≤ 100000) (w : World) (ht : Tabs w) :
    Calls Tryz.prog 43 #[.string s] w fun e w' => e = .returned (.bool (lineB s)) ∧ Below w.heap.size w w' := by
  obtain ⟨B, hB⟩ : ∃ B, lineB s = B := ⟨_, rfl⟩
  rw [hB]
  go_enter Tryz.func43, Tryz.ntmps43
  go_wp2
  go_loopw [4] (fun c w' => ∃ pos k : Nat, w' = w.iter s pos ∧ lineF s k pos = B ∧ s.size < pos + k ∧ 1 ≤ k) (fun _ w' => s.size - w'.iterPos w.heap.size)
  case atStart => exact ⟨0, s.size + 1, rfl, hB, by omega, by omega⟩
  case round =>
    obtain ⟨pos, k, rfl, hk, hpk, hk1⟩ := hrel
    clear hB
    have h0 : ∀ p, Below w.heap.size w (w.iter s p) := fun p => (Below.refl _ w).alloc (Nat.le_refl _) _
    obtain ⟨k, rfl⟩ : ∃ j, k = j + 1 := ⟨k - 1, by omega⟩
    rw [lineF] at hk
    by_cases hp : pos < s.size
    · have hw := decode_wide s pos hp
      rw [if_pos hp] at hk
      have hnx : ∀ ty, (Instr.next (.pointer (some ⟨w.heap.size, 0, none⟩)) true ty).run Tryz.prog (w.iter s pos) = _ := fun ty => run_next_any w s pos ty hp
      generalize (Utf8.decode s pos).1 = c at hnx hk
      generalize (Utf8.decode s pos).2 = n at hnx hw hk
      rcases Decidable.em (c < 32 ∨ c = 127) with hc | hc
      · rw [if_pos hc] at hk
        subst hk
        clear hw
        by_cases hz1 : (c : Int) < 32
        · clear hc
          go_wp2
          all_goals
            go_ret
            exact ⟨rfl, h0 _⟩
        · have hz2 : ((c : Int) == 127) = true := by
            have : c = 127 := by omega
            subst this; rfl
          clear hc
          go_wp2
          all_goals
            go_ret
            exact ⟨rfl, h0 _⟩
      · rw [if_neg hc] at hk
        have hz1 : ¬ (c : Int) < 32 := by omega
        have hz2 : ((c : Int) == 127) = false := by rw [beq_eq_false_iff_ne]; omega
        clear hc
        go_wp2
        case roundEnd =>
          go_roundw
          case rel => exact ⟨pos + n, k, rfl, hk, by omega, by omega⟩
          case measure =>
            simp
            omega
    · rw [if_neg hp] at hk
      have hnx : ∀ ty, (Instr.next (.pointer (some ⟨w.heap.size, 0, none⟩)) true ty).run Tryz.prog (w.iter s pos) = _ := fun ty => run_next_end w s pos ty hp
      have hR := right_calls s hs (w.iter s pos) (ht.below (n := 0) (h0 _))
      rw [hk] at hR
      go_wp2_with (go_at_call 62; refine hR.mono ?_; rintro e W1 ⟨rfl, hb⟩)
      go_ret
      exact ⟨rfl, (h0 _).trans (hb.mono (h0 _).size)⟩

end

end Go.Proofs.YtdmcdijlpnbghaaGreatDoor.Lf
