/- Several texts in one: Ty6, LNa, LNb. -/
import Derived.Test.YtnkahfikkpmcbaaDoorQB16
import Derived.Test.YtnkahfikkpmcbaaDoorProg
import Derived.Test.YtnkahfikkpmcbaaDoorQB18
namespace Go.Proofs.YtnkahfikkpmcbaaDoor.Lf

section
open Go Go.Dt
set_option linter.unusedVariables false

theorem mixed : Tryd.prog.follows .mixedOrders = true := by kernel_rfl
structure TRuntimeboundsError where
  x : Int
  y : Int
  signed : Bool
  code : Int
instance flTRuntimeboundsError : Flat TRuntimeboundsError := ⟨4, fun x => [.int .i64 x.x, .int .i64 x.y, .bool x.signed, .int .u8 x.code], ⟨0, 0, false, 0⟩, fun _ => rfl, by decide, fun _ => rfl, fun _ => rfl⟩
instance opTRuntimeboundsError : Ope TRuntimeboundsError := ⟨.int .i64 :: (.int .i64 :: (Ope.ss (Bool) ++ (.int .u8 :: ([])))), fun x => (Lit.int .i64 x.x).wf = true ∧ (Lit.int .i64 x.y).wf = true ∧ Ope.ok x.signed ∧ (Lit.int .u8 x.code).wf = true, fun can h => by
  obtain ⟨xx, _, rfl, ox, h⟩ := op_int h
  obtain ⟨xy, _, rfl, oy, h⟩ := op_int h
  obtain ⟨xsigned, _, rfl, osigned, h⟩ := op_field (α := Bool) h
  obtain ⟨xcode, _, rfl, ocode, h⟩ := op_int h
  obtain rfl := ces_nil h
  exact ⟨⟨xx, xy, xsigned, xcode⟩, rfl, ox, oy, osigned, ocode⟩⟩
structure TRuntimeerrorAddressString where
  msg : ByteArray
  addr : Int
instance flTRuntimeerrorAddressString : Flat TRuntimeerrorAddressString := ⟨2, fun x => [.string x.msg, .int .u64 x.addr], ⟨ByteArray.empty, 0⟩, fun _ => rfl, by decide, fun _ => rfl, fun _ => rfl⟩
instance opTRuntimeerrorAddressString : Ope TRuntimeerrorAddressString := ⟨Ope.ss (ByteArray) ++ (.int .u64 :: ([])), fun x => Ope.ok x.msg ∧ (Lit.int .u64 x.addr).wf = true, fun can h => by
  obtain ⟨xmsg, _, rfl, omsg, h⟩ := op_field (α := ByteArray) h
  obtain ⟨xaddr, _, rfl, oaddr, h⟩ := op_int h
  obtain rfl := ces_nil h
  exact ⟨⟨xmsg, xaddr⟩, rfl, omsg, oaddr⟩⟩
structure TErrorserrorString where
  s : ByteArray
instance flTErrorserrorString : Flat TErrorserrorString := ⟨1, fun x => [.string x.s], ⟨ByteArray.empty⟩, fun _ => rfl, by decide, fun _ => rfl, fun _ => rfl⟩
instance opTErrorserrorString : Ope TErrorserrorString := ⟨Ope.ss (ByteArray) ++ ([]), fun x => Ope.ok x.s, fun can h => by
  obtain ⟨xs, _, rfl, os, h⟩ := op_field (α := ByteArray) h
  obtain rfl := ces_nil h
  exact ⟨⟨xs⟩, rfl, os⟩⟩
structure A24I where
  e0 : Int
  e1 : Int
  e2 : Int
  e3 : Int
  e4 : Int
  e5 : Int
  e6 : Int
  e7 : Int
  e8 : Int
  e9 : Int
  e10 : Int
  e11 : Int
  e12 : Int
  e13 : Int
  e14 : Int
  e15 : Int
  e16 : Int
  e17 : Int
  e18 : Int
  e19 : Int
  e20 : Int
  e21 : Int
  e22 : Int
  e23 : Int
instance flA24I : Flat A24I := ⟨24, fun x => [.int .u8 x.e0, .int .u8 x.e1, .int .u8 x.e2, .int .u8 x.e3, .int .u8 x.e4, .int .u8 x.e5, .int .u8 x.e6, .int .u8 x.e7, .int .u8 x.e8, .int .u8 x.e9, .int .u8 x.e10, .int .u8 x.e11, .int .u8 x.e12, .int .u8 x.e13, .int .u8 x.e14, .int .u8 x.e15, .int .u8 x.e16, .int .u8 x.e17, .int .u8 x.e18, .int .u8 x.e19, .int .u8 x.e20, .int .u8 x.e21, .int .u8 x.e22, .int .u8 x.e23], ⟨0, 0, 0, 0, 0, 0, 0, 0, 0, 0, 0, 0, 0, 0, 0, 0, 0, 0, 0, 0, 0, 0, 0, 0⟩, fun _ => rfl, by decide, fun _ => rfl, fun _ => rfl⟩
instance opA24I : Ope A24I := ⟨.int .u8 :: (.int .u8 :: (.int .u8 :: (.int .u8 :: (.int .u8 :: (.int .u8 :: (.int .u8 :: (.int .u8 :: (.int .u8 :: (.int .u8 :: (.int .u8 :: (.int .u8 :: (.int .u8 :: (.int .u8 :: (.int .u8 :: (.int .u8 :: (.int .u8 :: (.int .u8 :: (.int .u8 :: (.int .u8 :: (.int .u8 :: (.int .u8 :: (.int .u8 :: (.int .u8 :: ([])))))))))))))))))))))))), fun x => (Lit.int .u8 x.e0).wf = true ∧ (Lit.int .u8 x.e1).wf = true ∧ (Lit.int .u8 x.e2).wf = true ∧ (Lit.int .u8 x.e3).wf = true ∧ (Lit.int .u8 x.e4).wf = true ∧ (Lit.int .u8 x.e5).wf = true ∧ (Lit.int .u8 x.e6).wf = true ∧ (Lit.int .u8 x.e7).wf = true ∧ (Lit.int .u8 x.e8).wf = true ∧ (Lit.int .u8 x.e9).wf = true ∧ (Lit.int .u8 x.e10).wf = true ∧ (Lit.int .u8 x.e11).wf = true ∧ (Lit.int .u8 x.e12).wf = true ∧ (Lit.int .u8 x.e13).wf = true ∧ (Lit.int .u8 x.e14).wf = true ∧ (Lit.int .u8 x.e15).wf = true ∧ (Lit.int .u8 x.e16).wf = true ∧ (Lit.int .u8 x.e17).wf = true ∧ (Lit.int .u8 x.e18).wf = true ∧ (Lit.int .u8 x.e19).wf = true ∧ (Lit.int .u8 x.e20).wf = true ∧ (Lit.int .u8 x.e21).wf = true ∧ (Lit.int .u8 x.e22).wf = true ∧ (Lit.int .u8 x.e23).wf = true, fun can h => by
  obtain ⟨xe0, _, rfl, oe0, h⟩ := op_int h
  obtain ⟨xe1, _, rfl, oe1, h⟩ := op_int h
  obtain ⟨xe2, _, rfl, oe2, h⟩ := op_int h
  obtain ⟨xe3, _, rfl, oe3, h⟩ := op_int h
  obtain ⟨xe4, _, rfl, oe4, h⟩ := op_int h
  obtain ⟨xe5, _, rfl, oe5, h⟩ := op_int h
  obtain ⟨xe6, _, rfl, oe6, h⟩ := op_int h
  obtain ⟨xe7, _, rfl, oe7, h⟩ := op_int h
  obtain ⟨xe8, _, rfl, oe8, h⟩ := op_int h
  obtain ⟨xe9, _, rfl, oe9, h⟩ := op_int h
  obtain ⟨xe10, _, rfl, oe10, h⟩ := op_int h
  obtain ⟨xe11, _, rfl, oe11, h⟩ := op_int h
  obtain ⟨xe12, _, rfl, oe12, h⟩ := op_int h
  obtain ⟨xe13, _, rfl, oe13, h⟩ := op_int h
  obtain ⟨xe14, _, rfl, oe14, h⟩ := op_int h
  obtain ⟨xe15, _, rfl, oe15, h⟩ := op_int h
  obtain ⟨xe16, _, rfl, oe16, h⟩ := op_int h
  obtain ⟨xe17, _, rfl, oe17, h⟩ := op_int h
  obtain ⟨xe18, _, rfl, oe18, h⟩ := op_int h
  obtain ⟨xe19, _, rfl, oe19, h⟩ := op_int h
  obtain ⟨xe20, _, rfl, oe20, h⟩ := op_int h
  obtain ⟨xe21, _, rfl, oe21, h⟩ := op_int h
  obtain ⟨xe22, _, rfl, oe22, h⟩ := op_int h
  obtain ⟨xe23, _, rfl, oe23, h⟩ := op_int h
  obtain rfl := ces_nil h
  exact ⟨⟨xe0, xe1, xe2, xe3, xe4, xe5, xe6, xe7, xe8, xe9, xe10, xe11, xe12, xe13, xe14, xe15, xe16, xe17, xe18, xe19, xe20, xe21, xe22, xe23⟩, rfl, oe0, oe1, oe2, oe3, oe4, oe5, oe6, oe7, oe8, oe9, oe10, oe11, oe12, oe13, oe14, oe15, oe16, oe17, oe18, oe19, oe20, oe21, oe22, oe23⟩⟩
structure A20I where
  e0 : Int
  e1 : Int
  e2 : Int
  e3 : Int
  e4 : Int
  e5 : Int
  e6 : Int
  e7 : Int
  e8 : Int
  e9 : Int
  e10 : Int
  e11 : Int
  e12 : Int
  e13 : Int
  e14 : Int
  e15 : Int
  e16 : Int
  e17 : Int
  e18 : Int
  e19 : Int
instance flA20I : Flat A20I := ⟨20, fun x => [.int .u64 x.e0, .int .u64 x.e1, .int .u64 x.e2, .int .u64 x.e3, .int .u64 x.e4, .int .u64 x.e5, .int .u64 x.e6, .int .u64 x.e7, .int .u64 x.e8, .int .u64 x.e9, .int .u64 x.e10, .int .u64 x.e11, .int .u64 x.e12, .int .u64 x.e13, .int .u64 x.e14, .int .u64 x.e15, .int .u64 x.e16, .int .u64 x.e17, .int .u64 x.e18, .int .u64 x.e19], ⟨0, 0, 0, 0, 0, 0, 0, 0, 0, 0, 0, 0, 0, 0, 0, 0, 0, 0, 0, 0⟩, fun _ => rfl, by decide, fun _ => rfl, fun _ => rfl⟩
instance opA20I : Ope A20I := ⟨.int .u64 :: (.int .u64 :: (.int .u64 :: (.int .u64 :: (.int .u64 :: (.int .u64 :: (.int .u64 :: (.int .u64 :: (.int .u64 :: (.int .u64 :: (.int .u64 :: (.int .u64 :: (.int .u64 :: (.int .u64 :: (.int .u64 :: (.int .u64 :: (.int .u64 :: (.int .u64 :: (.int .u64 :: (.int .u64 :: ([])))))))))))))))))))), fun x => (Lit.int .u64 x.e0).wf = true ∧ (Lit.int .u64 x.e1).wf = true ∧ (Lit.int .u64 x.e2).wf = true ∧ (Lit.int .u64 x.e3).wf = true ∧ (Lit.int .u64 x.e4).wf = true ∧ (Lit.int .u64 x.e5).wf = true ∧ (Lit.int .u64 x.e6).wf = true ∧ (Lit.int .u64 x.e7).wf = true ∧ (Lit.int .u64 x.e8).wf = true ∧ (Lit.int .u64 x.e9).wf = true ∧ (Lit.int .u64 x.e10).wf = true ∧ (Lit.int .u64 x.e11).wf = true ∧ (Lit.int .u64 x.e12).wf = true ∧ (Lit.int .u64 x.e13).wf = true ∧ (Lit.int .u64 x.e14).wf = true ∧ (Lit.int .u64 x.e15).wf = true ∧ (Lit.int .u64 x.e16).wf = true ∧ (Lit.int .u64 x.e17).wf = true ∧ (Lit.int .u64 x.e18).wf = true ∧ (Lit.int .u64 x.e19).wf = true, fun can h => by
  obtain ⟨xe0, _, rfl, oe0, h⟩ := op_int h
  obtain ⟨xe1, _, rfl, oe1, h⟩ := op_int h
  obtain ⟨xe2, _, rfl, oe2, h⟩ := op_int h
  obtain ⟨xe3, _, rfl, oe3, h⟩ := op_int h
  obtain ⟨xe4, _, rfl, oe4, h⟩ := op_int h
  obtain ⟨xe5, _, rfl, oe5, h⟩ := op_int h
  obtain ⟨xe6, _, rfl, oe6, h⟩ := op_int h
  obtain ⟨xe7, _, rfl, oe7, h⟩ := op_int h
  obtain ⟨xe8, _, rfl, oe8, h⟩ := op_int h
  obtain ⟨xe9, _, rfl, oe9, h⟩ := op_int h
  obtain ⟨xe10, _, rfl, oe10, h⟩ := op_int h
  obtain ⟨xe11, _, rfl, oe11, h⟩ := op_int h
  obtain ⟨xe12, _, rfl, oe12, h⟩ := op_int h
  obtain ⟨xe13, _, rfl, oe13, h⟩ := op_int h
  obtain ⟨xe14, _, rfl, oe14, h⟩ := op_int h
  obtain ⟨xe15, _, rfl, oe15, h⟩ := op_int h
  obtain ⟨xe16, _, rfl, oe16, h⟩ := op_int h
  obtain ⟨xe17, _, rfl, oe17, h⟩ := op_int h
  obtain ⟨xe18, _, rfl, oe18, h⟩ := op_int h
  obtain ⟨xe19, _, rfl, oe19, h⟩ := op_int h
  obtain rfl := ces_nil h
  exact ⟨⟨xe0, xe1, xe2, xe3, xe4, xe5, xe6, xe7, xe8, xe9, xe10, xe11, xe12, xe13, xe14, xe15, xe16, xe17, xe18, xe19⟩, rfl, oe0, oe1, oe2, oe3, oe4, oe5, oe6, oe7, oe8, oe9, oe10, oe11, oe12, oe13, oe14, oe15, oe16, oe17, oe18, oe19⟩⟩
structure A65I where
  e0 : Int
  e1 : Int
  e2 : Int
  e3 : Int
  e4 : Int
  e5 : Int
  e6 : Int
  e7 : Int
  e8 : Int
  e9 : Int
  e10 : Int
  e11 : Int
  e12 : Int
  e13 : Int
  e14 : Int
  e15 : Int
  e16 : Int
  e17 : Int
  e18 : Int
  e19 : Int
  e20 : Int
  e21 : Int
  e22 : Int
  e23 : Int
  e24 : Int
  e25 : Int
  e26 : Int
  e27 : Int
  e28 : Int
  e29 : Int
  e30 : Int
  e31 : Int
  e32 : Int
  e33 : Int
  e34 : Int
  e35 : Int
  e36 : Int
  e37 : Int
  e38 : Int
  e39 : Int
  e40 : Int
  e41 : Int
  e42 : Int
  e43 : Int
  e44 : Int
  e45 : Int
  e46 : Int
  e47 : Int
  e48 : Int
  e49 : Int
  e50 : Int
  e51 : Int
  e52 : Int
  e53 : Int
  e54 : Int
  e55 : Int
  e56 : Int
  e57 : Int
  e58 : Int
  e59 : Int
  e60 : Int
  e61 : Int
  e62 : Int
  e63 : Int
  e64 : Int
instance flA65I : Flat A65I := ⟨65, fun x => [.int .u8 x.e0, .int .u8 x.e1, .int .u8 x.e2, .int .u8 x.e3, .int .u8 x.e4, .int .u8 x.e5, .int .u8 x.e6, .int .u8 x.e7, .int .u8 x.e8, .int .u8 x.e9, .int .u8 x.e10, .int .u8 x.e11, .int .u8 x.e12, .int .u8 x.e13, .int .u8 x.e14, .int .u8 x.e15, .int .u8 x.e16, .int .u8 x.e17, .int .u8 x.e18, .int .u8 x.e19, .int .u8 x.e20, .int .u8 x.e21, .int .u8 x.e22, .int .u8 x.e23, .int .u8 x.e24, .int .u8 x.e25, .int .u8 x.e26, .int .u8 x.e27, .int .u8 x.e28, .int .u8 x.e29, .int .u8 x.e30, .int .u8 x.e31, .int .u8 x.e32, .int .u8 x.e33, .int .u8 x.e34, .int .u8 x.e35, .int .u8 x.e36, .int .u8 x.e37, .int .u8 x.e38, .int .u8 x.e39, .int .u8 x.e40, .int .u8 x.e41, .int .u8 x.e42, .int .u8 x.e43, .int .u8 x.e44, .int .u8 x.e45, .int .u8 x.e46, .int .u8 x.e47, .int .u8 x.e48, .int .u8 x.e49, .int .u8 x.e50, .int .u8 x.e51, .int .u8 x.e52, .int .u8 x.e53, .int .u8 x.e54, .int .u8 x.e55, .int .u8 x.e56, .int .u8 x.e57, .int .u8 x.e58, .int .u8 x.e59, .int .u8 x.e60, .int .u8 x.e61, .int .u8 x.e62, .int .u8 x.e63, .int .u8 x.e64], ⟨0, 0, 0, 0, 0, 0, 0, 0, 0, 0, 0, 0, 0, 0, 0, 0, 0, 0, 0, 0, 0, 0, 0, 0, 0, 0, 0, 0, 0, 0, 0, 0, 0, 0, 0, 0, 0, 0, 0, 0, 0, 0, 0, 0, 0, 0, 0, 0, 0, 0, 0, 0, 0, 0, 0, 0, 0, 0, 0, 0, 0, 0, 0, 0, 0⟩, fun _ => rfl, by decide, fun _ => rfl, fun _ => rfl⟩
instance opA65I : Ope A65I := ⟨.int .u8 :: (.int .u8 :: (.int .u8 :: (.int .u8 :: (.int .u8 :: (.int .u8 :: (.int .u8 :: (.int .u8 :: (.int .u8 :: (.int .u8 :: (.int .u8 :: (.int .u8 :: (.int .u8 :: (.int .u8 :: (.int .u8 :: (.int .u8 :: (.int .u8 :: (.int .u8 :: (.int .u8 :: (.int .u8 :: (.int .u8 :: (.int .u8 :: (.int .u8 :: (.int .u8 :: (.int .u8 :: (.int .u8 :: (.int .u8 :: (.int .u8 :: (.int .u8 :: (.int .u8 :: (.int .u8 :: (.int .u8 :: (.int .u8 :: (.int .u8 :: (.int .u8 :: (.int .u8 :: (.int .u8 :: (.int .u8 :: (.int .u8 :: (.int .u8 :: (.int .u8 :: (.int .u8 :: (.int .u8 :: (.int .u8 :: (.int .u8 :: (.int .u8 :: (.int .u8 :: (.int .u8 :: (.int .u8 :: (.int .u8 :: (.int .u8 :: (.int .u8 :: (.int .u8 :: (.int .u8 :: (.int .u8 :: (.int .u8 :: (.int .u8 :: (.int .u8 :: (.int .u8 :: (.int .u8 :: (.int .u8 :: (.int .u8 :: (.int .u8 :: (.int .u8 :: (.int .u8 :: ([]))))))))))))))))))))))))))))))))))))))))))))))))))))))))))))))))), fun x => (Lit.int .u8 x.e0).wf = true ∧ (Lit.int .u8 x.e1).wf = true ∧ (Lit.int .u8 x.e2).wf = true ∧ (Lit.int .u8 x.e3).wf = true ∧ (Lit.int .u8 x.e4).wf = true ∧ (Lit.int .u8 x.e5).wf = true ∧ (Lit.int .u8 x.e6).wf = true ∧ (Lit.int .u8 x.e7).wf = true ∧ (Lit.int .u8 x.e8).wf = true ∧ (Lit.int .u8 x.e9).wf = true ∧ (Lit.int .u8 x.e10).wf = true ∧ (Lit.int .u8 x.e11).wf = true ∧ (Lit.int .u8 x.e12).wf = true ∧ (Lit.int .u8 x.e13).wf = true ∧ (Lit.int .u8 x.e14).wf = true ∧ (Lit.int .u8 x.e15).wf = true ∧ (Lit.int .u8 x.e16).wf = true ∧ (Lit.int .u8 x.e17).wf = true ∧ (Lit.int .u8 x.e18).wf = true ∧ (Lit.int .u8 x.e19).wf = true ∧ (Lit.int .u8 x.e20).wf = true ∧ (Lit.int .u8 x.e21).wf = true ∧ (Lit.int .u8 x.e22).wf = true ∧ (Lit.int .u8 x.e23).wf = true ∧ (Lit.int .u8 x.e24).wf = true ∧ (Lit.int .u8 x.e25).wf = true ∧ (Lit.int .u8 x.e26).wf = true ∧ (Lit.int .u8 x.e27).wf = true ∧ (Lit.int .u8 x.e28).wf = true ∧ (Lit.int .u8 x.e29).wf = true ∧ (Lit.int .u8 x.e30).wf = true ∧ (Lit.int .u8 x.e31).wf = true ∧ (Lit.int .u8 x.e32).wf = true ∧ (Lit.int .u8 x.e33).wf = true ∧ (Lit.int .u8 x.e34).wf = true ∧ (Lit.int .u8 x.e35).wf = true ∧ (Lit.int .u8 x.e36).wf = true ∧ (Lit.int .u8 x.e37).wf = true ∧ (Lit.int .u8 x.e38).wf = true ∧ (Lit.int .u8 x.e39).wf = true ∧ (Lit.int .u8 x.e40).wf = true ∧ (Lit.int .u8 x.e41).wf = true ∧ (Lit.int .u8 x.e42).wf = true ∧ (Lit.int .u8 x.e43).wf = true ∧ (Lit.int .u8 x.e44).wf = true ∧ (Lit.int .u8 x.e45).wf = true ∧ (Lit.int .u8 x.e46).wf = true ∧ (Lit.int .u8 x.e47).wf = true ∧ (Lit.int .u8 x.e48).wf = true ∧ (Lit.int .u8 x.e49).wf = true ∧ (Lit.int .u8 x.e50).wf = true ∧ (Lit.int .u8 x.e51).wf = true ∧ (Lit.int .u8 x.e52).wf = true ∧ (Lit.int .u8 x.e53).wf = true ∧ (Lit.int .u8 x.e54).wf = true ∧ (Lit.int .u8 x.e55).wf = true ∧ (Lit.int .u8 x.e56).wf = true ∧ (Lit.int .u8 x.e57).wf = true ∧ (Lit.int .u8 x.e58).wf = true ∧ (Lit.int .u8 x.e59).wf = true ∧ (Lit.int .u8 x.e60).wf = true ∧ (Lit.int .u8 x.e61).wf = true ∧ (Lit.int .u8 x.e62).wf = true ∧ (Lit.int .u8 x.e63).wf = true ∧ (Lit.int .u8 x.e64).wf = true, fun can h => by
  obtain ⟨xe0, _, rfl, oe0, h⟩ := op_int h
  obtain ⟨xe1, _, rfl, oe1, h⟩ := op_int h
  obtain ⟨xe2, _, rfl, oe2, h⟩ := op_int h
  obtain ⟨xe3, _, rfl, oe3, h⟩ := op_int h
  obtain ⟨xe4, _, rfl, oe4, h⟩ := op_int h
  obtain ⟨xe5, _, rfl, oe5, h⟩ := op_int h
  obtain ⟨xe6, _, rfl, oe6, h⟩ := op_int h
  obtain ⟨xe7, _, rfl, oe7, h⟩ := op_int h
  obtain ⟨xe8, _, rfl, oe8, h⟩ := op_int h
  obtain ⟨xe9, _, rfl, oe9, h⟩ := op_int h
  obtain ⟨xe10, _, rfl, oe10, h⟩ := op_int h
  obtain ⟨xe11, _, rfl, oe11, h⟩ := op_int h
  obtain ⟨xe12, _, rfl, oe12, h⟩ := op_int h
  obtain ⟨xe13, _, rfl, oe13, h⟩ := op_int h
  obtain ⟨xe14, _, rfl, oe14, h⟩ := op_int h
  obtain ⟨xe15, _, rfl, oe15, h⟩ := op_int h
  obtain ⟨xe16, _, rfl, oe16, h⟩ := op_int h
  obtain ⟨xe17, _, rfl, oe17, h⟩ := op_int h
  obtain ⟨xe18, _, rfl, oe18, h⟩ := op_int h
  obtain ⟨xe19, _, rfl, oe19, h⟩ := op_int h
  obtain ⟨xe20, _, rfl, oe20, h⟩ := op_int h
  obtain ⟨xe21, _, rfl, oe21, h⟩ := op_int h
  obtain ⟨xe22, _, rfl, oe22, h⟩ := op_int h
  obtain ⟨xe23, _, rfl, oe23, h⟩ := op_int h
  obtain ⟨xe24, _, rfl, oe24, h⟩ := op_int h
  obtain ⟨xe25, _, rfl, oe25, h⟩ := op_int h
  obtain ⟨xe26, _, rfl, oe26, h⟩ := op_int h
  obtain ⟨xe27, _, rfl, oe27, h⟩ := op_int h
  obtain ⟨xe28, _, rfl, oe28, h⟩ := op_int h
  obtain ⟨xe29, _, rfl, oe29, h⟩ := op_int h
  obtain ⟨xe30, _, rfl, oe30, h⟩ := op_int h
  obtain ⟨xe31, _, rfl, oe31, h⟩ := op_int h
  obtain ⟨xe32, _, rfl, oe32, h⟩ := op_int h
  obtain ⟨xe33, _, rfl, oe33, h⟩ := op_int h
  obtain ⟨xe34, _, rfl, oe34, h⟩ := op_int h
  obtain ⟨xe35, _, rfl, oe35, h⟩ := op_int h
  obtain ⟨xe36, _, rfl, oe36, h⟩ := op_int h
  obtain ⟨xe37, _, rfl, oe37, h⟩ := op_int h
  obtain ⟨xe38, _, rfl, oe38, h⟩ := op_int h
  obtain ⟨xe39, _, rfl, oe39, h⟩ := op_int h
  obtain ⟨xe40, _, rfl, oe40, h⟩ := op_int h
  obtain ⟨xe41, _, rfl, oe41, h⟩ := op_int h
  obtain ⟨xe42, _, rfl, oe42, h⟩ := op_int h
  obtain ⟨xe43, _, rfl, oe43, h⟩ := op_int h
  obtain ⟨xe44, _, rfl, oe44, h⟩ := op_int h
  obtain ⟨xe45, _, rfl, oe45, h⟩ := op_int h
  obtain ⟨xe46, _, rfl, oe46, h⟩ := op_int h
  obtain ⟨xe47, _, rfl, oe47, h⟩ := op_int h
  obtain ⟨xe48, _, rfl, oe48, h⟩ := op_int h
  obtain ⟨xe49, _, rfl, oe49, h⟩ := op_int h
  obtain ⟨xe50, _, rfl, oe50, h⟩ := op_int h
  obtain ⟨xe51, _, rfl, oe51, h⟩ := op_int h
  obtain ⟨xe52, _, rfl, oe52, h⟩ := op_int h
  obtain ⟨xe53, _, rfl, oe53, h⟩ := op_int h
  obtain ⟨xe54, _, rfl, oe54, h⟩ := op_int h
  obtain ⟨xe55, _, rfl, oe55, h⟩ := op_int h
  obtain ⟨xe56, _, rfl, oe56, h⟩ := op_int h
  obtain ⟨xe57, _, rfl, oe57, h⟩ := op_int h
  obtain ⟨xe58, _, rfl, oe58, h⟩ := op_int h
  obtain ⟨xe59, _, rfl, oe59, h⟩ := op_int h
  obtain ⟨xe60, _, rfl, oe60, h⟩ := op_int h
  obtain ⟨xe61, _, rfl, oe61, h⟩ := op_int h
  obtain ⟨xe62, _, rfl, oe62, h⟩ := op_int h
  obtain ⟨xe63, _, rfl, oe63, h⟩ := op_int h
  obtain ⟨xe64, _, rfl, oe64, h⟩ := op_int h
  obtain rfl := ces_nil h
  exact ⟨⟨xe0, xe1, xe2, xe3, xe4, xe5, xe6, xe7, xe8, xe9, xe10, xe11, xe12, xe13, xe14, xe15, xe16, xe17, xe18, xe19, xe20, xe21, xe22, xe23, xe24, xe25, xe26, xe27, xe28, xe29, xe30, xe31, xe32, xe33, xe34, xe35, xe36, xe37, xe38, xe39, xe40, xe41, xe42, xe43, xe44, xe45, xe46, xe47, xe48, xe49, xe50, xe51, xe52, xe53, xe54, xe55, xe56, xe57, xe58, xe59, xe60, xe61, xe62, xe63, xe64⟩, rfl, oe0, oe1, oe2, oe3, oe4, oe5, oe6, oe7, oe8, oe9, oe10, oe11, oe12, oe13, oe14, oe15, oe16, oe17, oe18, oe19, oe20, oe21, oe22, oe23, oe24, oe25, oe26, oe27, oe28, oe29, oe30, oe31, oe32, oe33, oe34, oe35, oe36, oe37, oe38, oe39, oe40, oe41, oe42, oe43, oe44, oe45, oe46, oe47, oe48, oe49, oe50, oe51, oe52, oe53, oe54, oe55, oe56, oe57, oe58, oe59, oe60, oe61, oe62, oe63, oe64⟩⟩
structure A32I where
  e0 : Int
  e1 : Int
  e2 : Int
  e3 : Int
  e4 : Int
  e5 : Int
  e6 : Int
  e7 : Int
  e8 : Int
  e9 : Int
  e10 : Int
  e11 : Int
  e12 : Int
  e13 : Int
  e14 : Int
  e15 : Int
  e16 : Int
  e17 : Int
  e18 : Int
  e19 : Int
  e20 : Int
  e21 : Int
  e22 : Int
  e23 : Int
  e24 : Int
  e25 : Int
  e26 : Int
  e27 : Int
  e28 : Int
  e29 : Int
  e30 : Int
  e31 : Int
instance flA32I : Flat A32I := ⟨32, fun x => [.int .u8 x.e0, .int .u8 x.e1, .int .u8 x.e2, .int .u8 x.e3, .int .u8 x.e4, .int .u8 x.e5, .int .u8 x.e6, .int .u8 x.e7, .int .u8 x.e8, .int .u8 x.e9, .int .u8 x.e10, .int .u8 x.e11, .int .u8 x.e12, .int .u8 x.e13, .int .u8 x.e14, .int .u8 x.e15, .int .u8 x.e16, .int .u8 x.e17, .int .u8 x.e18, .int .u8 x.e19, .int .u8 x.e20, .int .u8 x.e21, .int .u8 x.e22, .int .u8 x.e23, .int .u8 x.e24, .int .u8 x.e25, .int .u8 x.e26, .int .u8 x.e27, .int .u8 x.e28, .int .u8 x.e29, .int .u8 x.e30, .int .u8 x.e31], ⟨0, 0, 0, 0, 0, 0, 0, 0, 0, 0, 0, 0, 0, 0, 0, 0, 0, 0, 0, 0, 0, 0, 0, 0, 0, 0, 0, 0, 0, 0, 0, 0⟩, fun _ => rfl, by decide, fun _ => rfl, fun _ => rfl⟩
instance opA32I : Ope A32I := ⟨.int .u8 :: (.int .u8 :: (.int .u8 :: (.int .u8 :: (.int .u8 :: (.int .u8 :: (.int .u8 :: (.int .u8 :: (.int .u8 :: (.int .u8 :: (.int .u8 :: (.int .u8 :: (.int .u8 :: (.int .u8 :: (.int .u8 :: (.int .u8 :: (.int .u8 :: (.int .u8 :: (.int .u8 :: (.int .u8 :: (.int .u8 :: (.int .u8 :: (.int .u8 :: (.int .u8 :: (.int .u8 :: (.int .u8 :: (.int .u8 :: (.int .u8 :: (.int .u8 :: (.int .u8 :: (.int .u8 :: (.int .u8 :: ([])))))))))))))))))))))))))))))))), fun x => (Lit.int .u8 x.e0).wf = true ∧ (Lit.int .u8 x.e1).wf = true ∧ (Lit.int .u8 x.e2).wf = true ∧ (Lit.int .u8 x.e3).wf = true ∧ (Lit.int .u8 x.e4).wf = true ∧ (Lit.int .u8 x.e5).wf = true ∧ (Lit.int .u8 x.e6).wf = true ∧ (Lit.int .u8 x.e7).wf = true ∧ (Lit.int .u8 x.e8).wf = true ∧ (Lit.int .u8 x.e9).wf = true ∧ (Lit.int .u8 x.e10).wf = true ∧ (Lit.int .u8 x.e11).wf = true ∧ (Lit.int .u8 x.e12).wf = true ∧ (Lit.int .u8 x.e13).wf = true ∧ (Lit.int .u8 x.e14).wf = true ∧ (Lit.int .u8 x.e15).wf = true ∧ (Lit.int .u8 x.e16).wf = true ∧ (Lit.int .u8 x.e17).wf = true ∧ (Lit.int .u8 x.e18).wf = true ∧ (Lit.int .u8 x.e19).wf = true ∧ (Lit.int .u8 x.e20).wf = true ∧ (Lit.int .u8 x.e21).wf = true ∧ (Lit.int .u8 x.e22).wf = true ∧ (Lit.int .u8 x.e23).wf = true ∧ (Lit.int .u8 x.e24).wf = true ∧ (Lit.int .u8 x.e25).wf = true ∧ (Lit.int .u8 x.e26).wf = true ∧ (Lit.int .u8 x.e27).wf = true ∧ (Lit.int .u8 x.e28).wf = true ∧ (Lit.int .u8 x.e29).wf = true ∧ (Lit.int .u8 x.e30).wf = true ∧ (Lit.int .u8 x.e31).wf = true, fun can h => by
  obtain ⟨xe0, _, rfl, oe0, h⟩ := op_int h
  obtain ⟨xe1, _, rfl, oe1, h⟩ := op_int h
  obtain ⟨xe2, _, rfl, oe2, h⟩ := op_int h
  obtain ⟨xe3, _, rfl, oe3, h⟩ := op_int h
  obtain ⟨xe4, _, rfl, oe4, h⟩ := op_int h
  obtain ⟨xe5, _, rfl, oe5, h⟩ := op_int h
  obtain ⟨xe6, _, rfl, oe6, h⟩ := op_int h
  obtain ⟨xe7, _, rfl, oe7, h⟩ := op_int h
  obtain ⟨xe8, _, rfl, oe8, h⟩ := op_int h
  obtain ⟨xe9, _, rfl, oe9, h⟩ := op_int h
  obtain ⟨xe10, _, rfl, oe10, h⟩ := op_int h
  obtain ⟨xe11, _, rfl, oe11, h⟩ := op_int h
  obtain ⟨xe12, _, rfl, oe12, h⟩ := op_int h
  obtain ⟨xe13, _, rfl, oe13, h⟩ := op_int h
  obtain ⟨xe14, _, rfl, oe14, h⟩ := op_int h
  obtain ⟨xe15, _, rfl, oe15, h⟩ := op_int h
  obtain ⟨xe16, _, rfl, oe16, h⟩ := op_int h
  obtain ⟨xe17, _, rfl, oe17, h⟩ := op_int h
  obtain ⟨xe18, _, rfl, oe18, h⟩ := op_int h
  obtain ⟨xe19, _, rfl, oe19, h⟩ := op_int h
  obtain ⟨xe20, _, rfl, oe20, h⟩ := op_int h
  obtain ⟨xe21, _, rfl, oe21, h⟩ := op_int h
  obtain ⟨xe22, _, rfl, oe22, h⟩ := op_int h
  obtain ⟨xe23, _, rfl, oe23, h⟩ := op_int h
  obtain ⟨xe24, _, rfl, oe24, h⟩ := op_int h
  obtain ⟨xe25, _, rfl, oe25, h⟩ := op_int h
  obtain ⟨xe26, _, rfl, oe26, h⟩ := op_int h
  obtain ⟨xe27, _, rfl, oe27, h⟩ := op_int h
  obtain ⟨xe28, _, rfl, oe28, h⟩ := op_int h
  obtain ⟨xe29, _, rfl, oe29, h⟩ := op_int h
  obtain ⟨xe30, _, rfl, oe30, h⟩ := op_int h
  obtain ⟨xe31, _, rfl, oe31, h⟩ := op_int h
  obtain rfl := ces_nil h
  exact ⟨⟨xe0, xe1, xe2, xe3, xe4, xe5, xe6, xe7, xe8, xe9, xe10, xe11, xe12, xe13, xe14, xe15, xe16, xe17, xe18, xe19, xe20, xe21, xe22, xe23, xe24, xe25, xe26, xe27, xe28, xe29, xe30, xe31⟩, rfl, oe0, oe1, oe2, oe3, oe4, oe5, oe6, oe7, oe8, oe9, oe10, oe11, oe12, oe13, oe14, oe15, oe16, oe17, oe18, oe19, oe20, oe21, oe22, oe23, oe24, oe25, oe26, oe27, oe28, oe29, oe30, oe31⟩⟩
structure A64I where
  e0 : Int
  e1 : Int
  e2 : Int
  e3 : Int
  e4 : Int
  e5 : Int
  e6 : Int
  e7 : Int
  e8 : Int
  e9 : Int
  e10 : Int
  e11 : Int
  e12 : Int
  e13 : Int
  e14 : Int
  e15 : Int
  e16 : Int
  e17 : Int
  e18 : Int
  e19 : Int
  e20 : Int
  e21 : Int
  e22 : Int
  e23 : Int
  e24 : Int
  e25 : Int
  e26 : Int
  e27 : Int
  e28 : Int
  e29 : Int
  e30 : Int
  e31 : Int
  e32 : Int
  e33 : Int
  e34 : Int
  e35 : Int
  e36 : Int
  e37 : Int
  e38 : Int
  e39 : Int
  e40 : Int
  e41 : Int
  e42 : Int
  e43 : Int
  e44 : Int
  e45 : Int
  e46 : Int
  e47 : Int
  e48 : Int
  e49 : Int
  e50 : Int
  e51 : Int
  e52 : Int
  e53 : Int
  e54 : Int
  e55 : Int
  e56 : Int
  e57 : Int
  e58 : Int
  e59 : Int
  e60 : Int
  e61 : Int
  e62 : Int
  e63 : Int
instance flA64I : Flat A64I := ⟨64, fun x => [.int .u8 x.e0, .int .u8 x.e1, .int .u8 x.e2, .int .u8 x.e3, .int .u8 x.e4, .int .u8 x.e5, .int .u8 x.e6, .int .u8 x.e7, .int .u8 x.e8, .int .u8 x.e9, .int .u8 x.e10, .int .u8 x.e11, .int .u8 x.e12, .int .u8 x.e13, .int .u8 x.e14, .int .u8 x.e15, .int .u8 x.e16, .int .u8 x.e17, .int .u8 x.e18, .int .u8 x.e19, .int .u8 x.e20, .int .u8 x.e21, .int .u8 x.e22, .int .u8 x.e23, .int .u8 x.e24, .int .u8 x.e25, .int .u8 x.e26, .int .u8 x.e27, .int .u8 x.e28, .int .u8 x.e29, .int .u8 x.e30, .int .u8 x.e31, .int .u8 x.e32, .int .u8 x.e33, .int .u8 x.e34, .int .u8 x.e35, .int .u8 x.e36, .int .u8 x.e37, .int .u8 x.e38, .int .u8 x.e39, .int .u8 x.e40, .int .u8 x.e41, .int .u8 x.e42, .int .u8 x.e43, .int .u8 x.e44, .int .u8 x.e45, .int .u8 x.e46, .int .u8 x.e47, .int .u8 x.e48, .int .u8 x.e49, .int .u8 x.e50, .int .u8 x.e51, .int .u8 x.e52, .int .u8 x.e53, .int .u8 x.e54, .int .u8 x.e55, .int .u8 x.e56, .int .u8 x.e57, .int .u8 x.e58, .int .u8 x.e59, .int .u8 x.e60, .int .u8 x.e61, .int .u8 x.e62, .int .u8 x.e63], ⟨0, 0, 0, 0, 0, 0, 0, 0, 0, 0, 0, 0, 0, 0, 0, 0, 0, 0, 0, 0, 0, 0, 0, 0, 0, 0, 0, 0, 0, 0, 0, 0, 0, 0, 0, 0, 0, 0, 0, 0, 0, 0, 0, 0, 0, 0, 0, 0, 0, 0, 0, 0, 0, 0, 0, 0, 0, 0, 0, 0, 0, 0, 0, 0⟩, fun _ => rfl, by decide, fun _ => rfl, fun _ => rfl⟩
instance opA64I : Ope A64I := ⟨.int .u8 :: (.int .u8 :: (.int .u8 :: (.int .u8 :: (.int .u8 :: (.int .u8 :: (.int .u8 :: (.int .u8 :: (.int .u8 :: (.int .u8 :: (.int .u8 :: (.int .u8 :: (.int .u8 :: (.int .u8 :: (.int .u8 :: (.int .u8 :: (.int .u8 :: (.int .u8 :: (.int .u8 :: (.int .u8 :: (.int .u8 :: (.int .u8 :: (.int .u8 :: (.int .u8 :: (.int .u8 :: (.int .u8 :: (.int .u8 :: (.int .u8 :: (.int .u8 :: (.int .u8 :: (.int .u8 :: (.int .u8 :: (.int .u8 :: (.int .u8 :: (.int .u8 :: (.int .u8 :: (.int .u8 :: (.int .u8 :: (.int .u8 :: (.int .u8 :: (.int .u8 :: (.int .u8 :: (.int .u8 :: (.int .u8 :: (.int .u8 :: (.int .u8 :: (.int .u8 :: (.int .u8 :: (.int .u8 :: (.int .u8 :: (.int .u8 :: (.int .u8 :: (.int .u8 :: (.int .u8 :: (.int .u8 :: (.int .u8 :: (.int .u8 :: (.int .u8 :: (.int .u8 :: (.int .u8 :: (.int .u8 :: (.int .u8 :: (.int .u8 :: (.int .u8 :: ([])))))))))))))))))))))))))))))))))))))))))))))))))))))))))))))))), fun x => (Lit.int .u8 x.e0).wf = true ∧ (Lit.int .u8 x.e1).wf = true ∧ (Lit.int .u8 x.e2).wf = true ∧ (Lit.int .u8 x.e3).wf = true ∧ (Lit.int .u8 x.e4).wf = true ∧ (Lit.int .u8 x.e5).wf = true ∧ (Lit.int .u8 x.e6).wf = true ∧ (Lit.int .u8 x.e7).wf = true ∧ (Lit.int .u8 x.e8).wf = true ∧ (Lit.int .u8 x.e9).wf = true ∧ (Lit.int .u8 x.e10).wf = true ∧ (Lit.int .u8 x.e11).wf = true ∧ (Lit.int .u8 x.e12).wf = true ∧ (Lit.int .u8 x.e13).wf = true ∧ (Lit.int .u8 x.e14).wf = true ∧ (Lit.int .u8 x.e15).wf = true ∧ (Lit.int .u8 x.e16).wf = true ∧ (Lit.int .u8 x.e17).wf = true ∧ (Lit.int .u8 x.e18).wf = true ∧ (Lit.int .u8 x.e19).wf = true ∧ (Lit.int .u8 x.e20).wf = true ∧ (Lit.int .u8 x.e21).wf = true ∧ (Lit.int .u8 x.e22).wf = true ∧ (Lit.int .u8 x.e23).wf = true ∧ (Lit.int .u8 x.e24).wf = true ∧ (Lit.int .u8 x.e25).wf = true ∧ (Lit.int .u8 x.e26).wf = true ∧ (Lit.int .u8 x.e27).wf = true ∧ (Lit.int .u8 x.e28).wf = true ∧ (Lit.int .u8 x.e29).wf = true ∧ (Lit.int .u8 x.e30).wf = true ∧ (Lit.int .u8 x.e31).wf = true ∧ (Lit.int .u8 x.e32).wf = true ∧ (Lit.int .u8 x.e33).wf = true ∧ (Lit.int .u8 x.e34).wf = true ∧ (Lit.int .u8 x.e35).wf = true ∧ (Lit.int .u8 x.e36).wf = true ∧ (Lit.int .u8 x.e37).wf = true ∧ (Lit.int .u8 x.e38).wf = true ∧ (Lit.int .u8 x.e39).wf = true ∧ (Lit.int .u8 x.e40).wf = true ∧ (Lit.int .u8 x.e41).wf = true ∧ (Lit.int .u8 x.e42).wf = true ∧ (Lit.int .u8 x.e43).wf = true ∧ (Lit.int .u8 x.e44).wf = true ∧ (Lit.int .u8 x.e45).wf = true ∧ (Lit.int .u8 x.e46).wf = true ∧ (Lit.int .u8 x.e47).wf = true ∧ (Lit.int .u8 x.e48).wf = true ∧ (Lit.int .u8 x.e49).wf = true ∧ (Lit.int .u8 x.e50).wf = true ∧ (Lit.int .u8 x.e51).wf = true ∧ (Lit.int .u8 x.e52).wf = true ∧ (Lit.int .u8 x.e53).wf = true ∧ (Lit.int .u8 x.e54).wf = true ∧ (Lit.int .u8 x.e55).wf = true ∧ (Lit.int .u8 x.e56).wf = true ∧ (Lit.int .u8 x.e57).wf = true ∧ (Lit.int .u8 x.e58).wf = true ∧ (Lit.int .u8 x.e59).wf = true ∧ (Lit.int .u8 x.e60).wf = true ∧ (Lit.int .u8 x.e61).wf = true ∧ (Lit.int .u8 x.e62).wf = true ∧ (Lit.int .u8 x.e63).wf = true, fun can h => by
  obtain ⟨xe0, _, rfl, oe0, h⟩ := op_int h
  obtain ⟨xe1, _, rfl, oe1, h⟩ := op_int h
  obtain ⟨xe2, _, rfl, oe2, h⟩ := op_int h
  obtain ⟨xe3, _, rfl, oe3, h⟩ := op_int h
  obtain ⟨xe4, _, rfl, oe4, h⟩ := op_int h
  obtain ⟨xe5, _, rfl, oe5, h⟩ := op_int h
  obtain ⟨xe6, _, rfl, oe6, h⟩ := op_int h
  obtain ⟨xe7, _, rfl, oe7, h⟩ := op_int h
  obtain ⟨xe8, _, rfl, oe8, h⟩ := op_int h
  obtain ⟨xe9, _, rfl, oe9, h⟩ := op_int h
  obtain ⟨xe10, _, rfl, oe10, h⟩ := op_int h
  obtain ⟨xe11, _, rfl, oe11, h⟩ := op_int h
  obtain ⟨xe12, _, rfl, oe12, h⟩ := op_int h
  obtain ⟨xe13, _, rfl, oe13, h⟩ := op_int h
  obtain ⟨xe14, _, rfl, oe14, h⟩ := op_int h
  obtain ⟨xe15, _, rfl, oe15, h⟩ := op_int h
  obtain ⟨xe16, _, rfl, oe16, h⟩ := op_int h
  obtain ⟨xe17, _, rfl, oe17, h⟩ := op_int h
  obtain ⟨xe18, _, rfl, oe18, h⟩ := op_int h
  obtain ⟨xe19, _, rfl, oe19, h⟩ := op_int h
  obtain ⟨xe20, _, rfl, oe20, h⟩ := op_int h
  obtain ⟨xe21, _, rfl, oe21, h⟩ := op_int h
  obtain ⟨xe22, _, rfl, oe22, h⟩ := op_int h
  obtain ⟨xe23, _, rfl, oe23, h⟩ := op_int h
  obtain ⟨xe24, _, rfl, oe24, h⟩ := op_int h
  obtain ⟨xe25, _, rfl, oe25, h⟩ := op_int h
  obtain ⟨xe26, _, rfl, oe26, h⟩ := op_int h
  obtain ⟨xe27, _, rfl, oe27, h⟩ := op_int h
  obtain ⟨xe28, _, rfl, oe28, h⟩ := op_int h
  obtain ⟨xe29, _, rfl, oe29, h⟩ := op_int h
  obtain ⟨xe30, _, rfl, oe30, h⟩ := op_int h
  obtain ⟨xe31, _, rfl, oe31, h⟩ := op_int h
  obtain ⟨xe32, _, rfl, oe32, h⟩ := op_int h
  obtain ⟨xe33, _, rfl, oe33, h⟩ := op_int h
  obtain ⟨xe34, _, rfl, oe34, h⟩ := op_int h
  obtain ⟨xe35, _, rfl, oe35, h⟩ := op_int h
  obtain ⟨xe36, _, rfl, oe36, h⟩ := op_int h
  obtain ⟨xe37, _, rfl, oe37, h⟩ := op_int h
  obtain ⟨xe38, _, rfl, oe38, h⟩ := op_int h
  obtain ⟨xe39, _, rfl, oe39, h⟩ := op_int h
  obtain ⟨xe40, _, rfl, oe40, h⟩ := op_int h
  obtain ⟨xe41, _, rfl, oe41, h⟩ := op_int h
  obtain ⟨xe42, _, rfl, oe42, h⟩ := op_int h
  obtain ⟨xe43, _, rfl, oe43, h⟩ := op_int h
  obtain ⟨xe44, _, rfl, oe44, h⟩ := op_int h
  obtain ⟨xe45, _, rfl, oe45, h⟩ := op_int h
  obtain ⟨xe46, _, rfl, oe46, h⟩ := op_int h
  obtain ⟨xe47, _, rfl, oe47, h⟩ := op_int h
  obtain ⟨xe48, _, rfl, oe48, h⟩ := op_int h
  obtain ⟨xe49, _, rfl, oe49, h⟩ := op_int h
  obtain ⟨xe50, _, rfl, oe50, h⟩ := op_int h
  obtain ⟨xe51, _, rfl, oe51, h⟩ := op_int h
  obtain ⟨xe52, _, rfl, oe52, h⟩ := op_int h
  obtain ⟨xe53, _, rfl, oe53, h⟩ := op_int h
  obtain ⟨xe54, _, rfl, oe54, h⟩ := op_int h
  obtain ⟨xe55, _, rfl, oe55, h⟩ := op_int h
  obtain ⟨xe56, _, rfl, oe56, h⟩ := op_int h
  obtain ⟨xe57, _, rfl, oe57, h⟩ := op_int h
  obtain ⟨xe58, _, rfl, oe58, h⟩ := op_int h
  obtain ⟨xe59, _, rfl, oe59, h⟩ := op_int h
  obtain ⟨xe60, _, rfl, oe60, h⟩ := op_int h
  obtain ⟨xe61, _, rfl, oe61, h⟩ := op_int h
  obtain ⟨xe62, _, rfl, oe62, h⟩ := op_int h
  obtain ⟨xe63, _, rfl, oe63, h⟩ := op_int h
  obtain rfl := ces_nil h
  exact ⟨⟨xe0, xe1, xe2, xe3, xe4, xe5, xe6, xe7, xe8, xe9, xe10, xe11, xe12, xe13, xe14, xe15, xe16, xe17, xe18, xe19, xe20, xe21, xe22, xe23, xe24, xe25, xe26, xe27, xe28, xe29, xe30, xe31, xe32, xe33, xe34, xe35, xe36, xe37, xe38, xe39, xe40, xe41, xe42, xe43, xe44, xe45, xe46, xe47, xe48, xe49, xe50, xe51, xe52, xe53, xe54, xe55, xe56, xe57, xe58, xe59, xe60, xe61, xe62, xe63⟩, rfl, oe0, oe1, oe2, oe3, oe4, oe5, oe6, oe7, oe8, oe9, oe10, oe11, oe12, oe13, oe14, oe15, oe16, oe17, oe18, oe19, oe20, oe21, oe22, oe23, oe24, oe25, oe26, oe27, oe28, oe29, oe30, oe31, oe32, oe33, oe34, oe35, oe36, oe37, oe38, oe39, oe40, oe41, oe42, oe43, oe44, oe45, oe46, oe47, oe48, oe49, oe50, oe51, oe52, oe53, oe54, oe55, oe56, oe57, oe58, oe59, oe60, oe61, oe62, oe63⟩⟩

end

section
open Go Go.Dt Go.Proofs
set_option linter.unusedVariables false

/-! ### 21 -/
abbrev Eslices_Reverse : Unit × (List U8) → Value := fun r => .tuple ⟨[]⟩
abbrev Mslices_Reverse : Unit × (List U8) → List Blk := fun r => [ownB r.2]
def Fslices_Reverse_1 (a0 : List U8) : Nat → (List U8) → Int → Int → Option (Unit × (List U8))
  | 0, _, _, _ => none
  | K + 1, p0, p2, p3 =>
    bif (decide (p2 < p3)) then
      bif inR p3 p0.length then
        bif inR p2 p0.length then
          bif inR p2 p0.length then
            bif inR p3 p0.length then
              Fslices_Reverse_1 a0 K ((p0.set p2.toNat (U8.mk (getR p0 p3.toNat).n)).set p3.toNat (U8.mk (getR p0 p2.toNat).n)) (IntKind.i64.wrap (p2 + 1)) (IntKind.i64.wrap (p3 - 1))
            else none
          else none
        else none
      else none
    else
      some ((), p0)
def Fslices_Reverse (K : Nat) (a0 : List U8) : Option (Unit × (List U8)) :=
  Fslices_Reverse_1 a0 K a0 0 (IntKind.i64.wrap ((↑a0.length : Int) - 1))
def Hslices_Reverse_10O (fn : Func) (a0 : List U8) (np0 : Nat) (p0 : List U8) (p2 : Int) (p3 : Int) : VS := headS fn 1 [(0, .slice (some ⟨0, 0, none⟩) np0 np0), (2, .int .i64 p2), (3, .int .i64 p3)] [ownB p0]
theorem lslices_Reverse (a0 : List U8) : ∀ K : Nat, (∀ (np0 : Nat) (p0 : List U8) (_ : np0 = p0.length) (p2 : Int) (p3 : Int), LiftsM Tryd.prog 21 1 Eslices_Reverse Mslices_Reverse (Hslices_Reverse_10O Tryd.f21 a0 np0 p0 p2 p3) (Fslices_Reverse_1 a0 K p0 p2 p3)) := by
  intro K
  induction K with
  | zero =>
    exact fun np0 p0 ep0 p2 p3 => (by rw [Fslices_Reverse_1]; exact LM.no)
  | succ K ih =>
    have IH10O := ih
    refine fun np0 p0 ep0 p2 p3 => ?_
    · subst ep0; rw [Fslices_Reverse_1]
      exact
        LM.br mixed 7 _ (by kernel_rfl)
          (fun h1 =>
          LM.oidx mixed 10 0 0 _ 1 IntKind.i64 _ (by kernel_rfl) (fun h2a h2b =>
          LM.old1 mixed 0 1 0 (0 + p3.toNat * 1) (rows p0) (.int .u8 (getR p0 p3.toNat).n) (by kernel_rfl) (rows_sub1 (i := p3.toNat) (d := 0) (by show 0 + p3.toNat * 1 = p3.toNat * 1 + 0; omega) (by have := (toNat_lt h2a h2b); simpa using this) (Nat.le_of_ble_eq_true (by kernel_rfl)) (by kernel_rfl)) <|
          LM.oidx mixed 2 0 0 _ 1 IntKind.i64 _ (by kernel_rfl) (fun h3a h3b =>
          LM.old1 mixed 0 1 0 (0 + p2.toNat * 1) (rows p0) (.int .u8 (getR p0 p2.toNat).n) (by kernel_rfl) (rows_sub1 (i := p2.toNat) (d := 0) (by show 0 + p2.toNat * 1 = p2.toNat * 1 + 0; omega) (by have := (toNat_lt h3a h3b); simpa using this) (Nat.le_of_ble_eq_true (by kernel_rfl)) (by kernel_rfl)) <|
          LM.oidx mixed 0 0 0 _ 1 IntKind.i64 _ (by kernel_rfl) (fun h4a h4b =>
          LM.ost mixed 0 (Value.int IntKind.u8 ((getR p0 p3.toNat).n)) 1 0 (0 + p2.toNat * 1) (rows p0) (rows (p0.set p2.toNat ((⟨(getR p0 p3.toNat).n⟩ : U8)))) 1 (by kernel_rfl) rfl rfl (rows_fitN (i := p2.toNat) (d := 0) (by show 0 + p2.toNat * 1 = p2.toNat * 1 + 0; omega) (by have := (toNat_lt h4a h4b); simpa using this) (Nat.le_of_ble_eq_true (by kernel_rfl))) (rows_setF _ p2.toNat 0 _ _ _ (by show 0 + p2.toNat * 1 = p2.toNat * 1 + 0; omega) (by have := (toNat_lt h4a h4b); simpa using this) (Nat.le_of_ble_eq_true (by kernel_rfl)) (by kernel_rfl)) <|
          LM.oidx mixed 0 0 0 _ 1 IntKind.i64 _ (by kernel_rfl) (fun h5a h5b =>
          LM.ost mixed 0 (Value.int IntKind.u8 ((getR p0 p2.toNat).n)) 1 0 (0 + p3.toNat * 1) (rows (p0.set p2.toNat (U8.mk (getR p0 p3.toNat).n))) (rows ((p0.set p2.toNat (U8.mk (getR p0 p3.toNat).n)).set p3.toNat ((⟨(getR p0 p2.toNat).n⟩ : U8)))) 1 (by kernel_rfl) rfl rfl (rows_fitN (i := p3.toNat) (d := 0) (by show 0 + p3.toNat * 1 = p3.toNat * 1 + 0; omega) (by have := (toNat_lt h5a h5b); simpa using this) (Nat.le_of_ble_eq_true (by kernel_rfl))) (rows_setF _ p3.toNat 0 _ _ _ (by show 0 + p3.toNat * 1 = p3.toNat * 1 + 0; omega) (by have := (toNat_lt h5a h5b); simpa using this) (Nat.le_of_ble_eq_true (by kernel_rfl)) (by kernel_rfl)) <|
          LM.jump mixed 11 [0, 2, 3] (by kernel_rfl) (IH10O p0.length ((p0.set p2.toNat (U8.mk (getR p0 p3.toNat).n)).set p3.toNat (U8.mk (getR p0 p2.toNat).n)) (by first | rfl | exact Eq.symm (by assumption) | (simp; done) | (simp [*]; done)) (IntKind.i64.wrap (p2 + 1)) (IntKind.i64.wrap (p3 - 1))))))))
          (fun h1 =>
          LM.ret _ mixed Tryd.func21 _ (by kernel_rfl) rfl (by kernel_rfl))
theorem cslices_Reverse (K : Nat) (a0 : List U8) : ∀ r, Fslices_Reverse K a0 = some r → ConM Tryd.prog 21 [.slice (some ⟨0, 0, none⟩) a0.length a0.length] [ownB a0] (Eslices_Reverse r) (Mslices_Reverse r) := by
  have IH10O := lslices_Reverse a0 K
  refine ConM.liftM Tryd.func21 (by kernel_rfl) ?_
  unfold Fslices_Reverse
  exact
    LM.jump mixed 10 [0, 2, 3] (by kernel_rfl) (IH10O a0.length a0 (by first | rfl | exact Eq.symm (by assumption) | (simp; done) | (simp [*]; done)) 0 (IntKind.i64.wrap ((↑a0.length : Int) - 1)))

end

section
open Go Go.Dt Go.Proofs
set_option linter.unusedVariables false

theorem lenRev (a0 : List U8) : ∀ (K : Nat) (p : List U8) (i j : Int) (u : Unit × List U8), Fslices_Reverse_1 a0 K p i j = some u → u.2.length = p.length
  | 0, p, i, j, u, h => by rw [Fslices_Reverse_1] at h; cases h
  | K + 1, p, i, j, u, h => by
    rw [Fslices_Reverse_1] at h
    cases h1 : decide (i < j) with
    | false => rw [h1] at h; cases h; rfl
    | true =>
      rw [h1] at h
      simp only [cond_true] at h
      cases h2 : inR j p.length with
      | false => rw [h2] at h; cases h
      | true =>
        cases h3 : inR i p.length with
        | false => rw [h2, h3] at h; cases h
        | true =>
          simp only [h2, h3, cond_true] at h
          have := lenRev a0 K _ _ _ u h
          simpa using this
theorem lenslices_Reverse {K : Nat} {a0 : List U8} {u : Unit × List U8} (h : Fslices_Reverse K a0 = some u) : u.2.length = a0.length := lenRev a0 K a0 _ _ u h

end

end Go.Proofs.YtnkahfikkpmcbaaDoor.Lf
