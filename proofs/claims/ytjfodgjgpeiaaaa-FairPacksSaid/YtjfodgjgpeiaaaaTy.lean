/- Kinds of elements. -/
import Derived.Test.YtjfodgjgpeiaaaaDt39
import Derived.Test.YtjfodgjgpeiaaaaProg
namespace Go.Proofs.Ytjfodgjgpeiaaaa.Lf
open Go Go.Dt
set_option linter.unusedVariables false

theorem mixed : Try.prog.follows .mixedOrders = true := by kernel_rfl
structure TRuntimeboundsError where
  x : Int
  y : Int
  signed : Bool
  code : Int
instance flTRuntimeboundsError : Flat TRuntimeboundsError := ⟨4, fun x => [.int .i64 x.x, .int .i64 x.y, .bool x.signed, .int .u8 x.code], ⟨0, 0, false, 0⟩, fun _ => rfl, by decide, fun _ => rfl, fun _ => rfl⟩
instance opTRuntimeboundsError : Ope TRuntimeboundsError := ⟨.int .i64 :: (.int .i64 :: (Ope.ss (Bool) ++ (.int .u8 :: ([])))), fun x => (Lit.int .i64 x.x).wf = true ∧ (Lit.int .i64 x.y).wf = true ∧ Ope.ok x.signed ∧ (Lit.int .u8 x.code).wf = true, fun can h => by
  obtain ⟨xx, _, rfl, ox, h⟩ := op_int h
  obtain ⟨xy, _, rfl, oy, h⟩ := op_int h
  obtain ⟨xsigned, _, rfl, osigned, h⟩ := op_field (α := Bool) h
  obtain ⟨xcode, _, rfl, ocode, h⟩ := op_int h
  obtain rfl := ces_nil h
  exact ⟨⟨xx, xy, xsigned, xcode⟩, rfl, ox, oy, osigned, ocode⟩⟩
structure TRuntimeerrorAddressString where
  msg : ByteArray
  addr : Int
instance flTRuntimeerrorAddressString : Flat TRuntimeerrorAddressString := ⟨2, fun x => [.string x.msg, .int .u64 x.addr], ⟨ByteArray.empty, 0⟩, fun _ => rfl, by decide, fun _ => rfl, fun _ => rfl⟩
instance opTRuntimeerrorAddressString : Ope TRuntimeerrorAddressString := ⟨Ope.ss (ByteArray) ++ (.int .u64 :: ([])), fun x => Ope.ok x.msg ∧ (Lit.int .u64 x.addr).wf = true, fun can h => by
  obtain ⟨xmsg, _, rfl, omsg, h⟩ := op_field (α := ByteArray) h
  obtain ⟨xaddr, _, rfl, oaddr, h⟩ := op_int h
  obtain rfl := ces_nil h
  exact ⟨⟨xmsg, xaddr⟩, rfl, omsg, oaddr⟩⟩
structure TEvent where
  Who : Int
  Kind : Int
  A : Int
  B : Int
instance flTEvent : Flat TEvent := ⟨4, fun x => [.int .i64 x.Who, .int .i64 x.Kind, .int .i64 x.A, .int .i64 x.B], ⟨0, 0, 0, 0⟩, fun _ => rfl, by decide, fun _ => rfl, fun _ => rfl⟩
instance opTEvent : Ope TEvent := ⟨.int .i64 :: (.int .i64 :: (.int .i64 :: (.int .i64 :: ([])))), fun x => (Lit.int .i64 x.Who).wf = true ∧ (Lit.int .i64 x.Kind).wf = true ∧ (Lit.int .i64 x.A).wf = true ∧ (Lit.int .i64 x.B).wf = true, fun can h => by
  obtain ⟨xWho, _, rfl, oWho, h⟩ := op_int h
  obtain ⟨xKind, _, rfl, oKind, h⟩ := op_int h
  obtain ⟨xA, _, rfl, oA, h⟩ := op_int h
  obtain ⟨xB, _, rfl, oB, h⟩ := op_int h
  obtain rfl := ces_nil h
  exact ⟨⟨xWho, xKind, xA, xB⟩, rfl, oWho, oKind, oA, oB⟩⟩
structure TAuditLoad where
  Claims : Int
  Draws : Int
  Thefts : Int
instance flTAuditLoad : Flat TAuditLoad := ⟨3, fun x => [.int .i64 x.Claims, .int .i64 x.Draws, .int .i64 x.Thefts], ⟨0, 0, 0⟩, fun _ => rfl, by decide, fun _ => rfl, fun _ => rfl⟩
instance opTAuditLoad : Ope TAuditLoad := ⟨.int .i64 :: (.int .i64 :: (.int .i64 :: ([]))), fun x => (Lit.int .i64 x.Claims).wf = true ∧ (Lit.int .i64 x.Draws).wf = true ∧ (Lit.int .i64 x.Thefts).wf = true, fun can h => by
  obtain ⟨xClaims, _, rfl, oClaims, h⟩ := op_int h
  obtain ⟨xDraws, _, rfl, oDraws, h⟩ := op_int h
  obtain ⟨xThefts, _, rfl, oThefts, h⟩ := op_int h
  obtain rfl := ces_nil h
  exact ⟨⟨xClaims, xDraws, xThefts⟩, rfl, oClaims, oDraws, oThefts⟩⟩
structure TFairBurst where
  Who : Int
  N : Int
instance flTFairBurst : Flat TFairBurst := ⟨2, fun x => [.int .i64 x.Who, .int .i64 x.N], ⟨0, 0⟩, fun _ => rfl, by decide, fun _ => rfl, fun _ => rfl⟩
instance opTFairBurst : Ope TFairBurst := ⟨.int .i64 :: (.int .i64 :: ([])), fun x => (Lit.int .i64 x.Who).wf = true ∧ (Lit.int .i64 x.N).wf = true, fun can h => by
  obtain ⟨xWho, _, rfl, oWho, h⟩ := op_int h
  obtain ⟨xN, _, rfl, oN, h⟩ := op_int h
  obtain rfl := ces_nil h
  exact ⟨⟨xWho, xN⟩, rfl, oWho, oN⟩⟩
structure TWideInt where
  Hi : Int
  Lo : Int
instance flTWideInt : Flat TWideInt := ⟨2, fun x => [.int .i64 x.Hi, .int .u64 x.Lo], ⟨0, 0⟩, fun _ => rfl, by decide, fun _ => rfl, fun _ => rfl⟩
instance opTWideInt : Ope TWideInt := ⟨.int .i64 :: (.int .u64 :: ([])), fun x => (Lit.int .i64 x.Hi).wf = true ∧ (Lit.int .u64 x.Lo).wf = true, fun can h => by
  obtain ⟨xHi, _, rfl, oHi, h⟩ := op_int h
  obtain ⟨xLo, _, rfl, oLo, h⟩ := op_int h
  obtain rfl := ces_nil h
  exact ⟨⟨xHi, xLo⟩, rfl, oHi, oLo⟩⟩
structure A8I where
  e0 : Int
  e1 : Int
  e2 : Int
  e3 : Int
  e4 : Int
  e5 : Int
  e6 : Int
  e7 : Int
instance flA8I : Flat A8I := ⟨8, fun x => [.int .i64 x.e0, .int .i64 x.e1, .int .i64 x.e2, .int .i64 x.e3, .int .i64 x.e4, .int .i64 x.e5, .int .i64 x.e6, .int .i64 x.e7], ⟨0, 0, 0, 0, 0, 0, 0, 0⟩, fun _ => rfl, by decide, fun _ => rfl, fun _ => rfl⟩
instance opA8I : Ope A8I := ⟨.int .i64 :: (.int .i64 :: (.int .i64 :: (.int .i64 :: (.int .i64 :: (.int .i64 :: (.int .i64 :: (.int .i64 :: ([])))))))), fun x => (Lit.int .i64 x.e0).wf = true ∧ (Lit.int .i64 x.e1).wf = true ∧ (Lit.int .i64 x.e2).wf = true ∧ (Lit.int .i64 x.e3).wf = true ∧ (Lit.int .i64 x.e4).wf = true ∧ (Lit.int .i64 x.e5).wf = true ∧ (Lit.int .i64 x.e6).wf = true ∧ (Lit.int .i64 x.e7).wf = true, fun can h => by
  obtain ⟨xe0, _, rfl, oe0, h⟩ := op_int h
  obtain ⟨xe1, _, rfl, oe1, h⟩ := op_int h
  obtain ⟨xe2, _, rfl, oe2, h⟩ := op_int h
  obtain ⟨xe3, _, rfl, oe3, h⟩ := op_int h
  obtain ⟨xe4, _, rfl, oe4, h⟩ := op_int h
  obtain ⟨xe5, _, rfl, oe5, h⟩ := op_int h
  obtain ⟨xe6, _, rfl, oe6, h⟩ := op_int h
  obtain ⟨xe7, _, rfl, oe7, h⟩ := op_int h
  obtain rfl := ces_nil h
  exact ⟨⟨xe0, xe1, xe2, xe3, xe4, xe5, xe6, xe7⟩, rfl, oe0, oe1, oe2, oe3, oe4, oe5, oe6, oe7⟩⟩
structure TTemperaref02D where
  e0 : Int
  e1 : Int
  e2 : Int
  e3 : Int
  e4 : Int
  e5 : Int
  e6 : Int
  e7 : Int
instance flTTemperaref02D : Flat TTemperaref02D := ⟨8, fun x => [.int .i64 x.e0, .int .i64 x.e1, .int .i64 x.e2, .int .i64 x.e3, .int .i64 x.e4, .int .i64 x.e5, .int .i64 x.e6, .int .i64 x.e7], ⟨0, 0, 0, 0, 0, 0, 0, 0⟩, fun _ => rfl, by decide, fun _ => rfl, fun _ => rfl⟩
instance opTTemperaref02D : Ope TTemperaref02D := ⟨.int .i64 :: (.int .i64 :: (.int .i64 :: (.int .i64 :: (.int .i64 :: (.int .i64 :: (.int .i64 :: (.int .i64 :: ([])))))))), fun x => (Lit.int .i64 x.e0).wf = true ∧ (Lit.int .i64 x.e1).wf = true ∧ (Lit.int .i64 x.e2).wf = true ∧ (Lit.int .i64 x.e3).wf = true ∧ (Lit.int .i64 x.e4).wf = true ∧ (Lit.int .i64 x.e5).wf = true ∧ (Lit.int .i64 x.e6).wf = true ∧ (Lit.int .i64 x.e7).wf = true, fun can h => by
  obtain ⟨xe0, _, rfl, oe0, h⟩ := op_int h
  obtain ⟨xe1, _, rfl, oe1, h⟩ := op_int h
  obtain ⟨xe2, _, rfl, oe2, h⟩ := op_int h
  obtain ⟨xe3, _, rfl, oe3, h⟩ := op_int h
  obtain ⟨xe4, _, rfl, oe4, h⟩ := op_int h
  obtain ⟨xe5, _, rfl, oe5, h⟩ := op_int h
  obtain ⟨xe6, _, rfl, oe6, h⟩ := op_int h
  obtain ⟨xe7, _, rfl, oe7, h⟩ := op_int h
  obtain rfl := ces_nil h
  exact ⟨⟨xe0, xe1, xe2, xe3, xe4, xe5, xe6, xe7⟩, rfl, oe0, oe1, oe2, oe3, oe4, oe5, oe6, oe7⟩⟩
structure A3I where
  e0 : Int
  e1 : Int
  e2 : Int
instance flA3I : Flat A3I := ⟨3, fun x => [.int .i64 x.e0, .int .i64 x.e1, .int .i64 x.e2], ⟨0, 0, 0⟩, fun _ => rfl, by decide, fun _ => rfl, fun _ => rfl⟩
instance opA3I : Ope A3I := ⟨.int .i64 :: (.int .i64 :: (.int .i64 :: ([]))), fun x => (Lit.int .i64 x.e0).wf = true ∧ (Lit.int .i64 x.e1).wf = true ∧ (Lit.int .i64 x.e2).wf = true, fun can h => by
  obtain ⟨xe0, _, rfl, oe0, h⟩ := op_int h
  obtain ⟨xe1, _, rfl, oe1, h⟩ := op_int h
  obtain ⟨xe2, _, rfl, oe2, h⟩ := op_int h
  obtain rfl := ces_nil h
  exact ⟨⟨xe0, xe1, xe2⟩, rfl, oe0, oe1, oe2⟩⟩
structure TPoint where
  X : Int
  Y : Int
instance flTPoint : Flat TPoint := ⟨2, fun x => [.int .i64 x.X, .int .i64 x.Y], ⟨0, 0⟩, fun _ => rfl, by decide, fun _ => rfl, fun _ => rfl⟩
instance opTPoint : Ope TPoint := ⟨.int .i64 :: (.int .i64 :: ([])), fun x => (Lit.int .i64 x.X).wf = true ∧ (Lit.int .i64 x.Y).wf = true, fun can h => by
  obtain ⟨xX, _, rfl, oX, h⟩ := op_int h
  obtain ⟨xY, _, rfl, oY, h⟩ := op_int h
  obtain rfl := ces_nil h
  exact ⟨⟨xX, xY⟩, rfl, oX, oY⟩⟩
structure A3TPoint where
  e0 : TPoint
  e1 : TPoint
  e2 : TPoint
instance flA3TPoint : Flat A3TPoint := ⟨6, fun x => [.int .i64 x.e0.X, .int .i64 x.e0.Y, .int .i64 x.e1.X, .int .i64 x.e1.Y, .int .i64 x.e2.X, .int .i64 x.e2.Y], ⟨⟨0, 0⟩, ⟨0, 0⟩, ⟨0, 0⟩⟩, fun _ => rfl, by decide, fun _ => rfl, fun _ => rfl⟩
instance opA3TPoint : Ope A3TPoint := ⟨Ope.ss (TPoint) ++ (Ope.ss (TPoint) ++ (Ope.ss (TPoint) ++ ([]))), fun x => Ope.ok x.e0 ∧ Ope.ok x.e1 ∧ Ope.ok x.e2, fun can h => by
  obtain ⟨xe0, _, rfl, oe0, h⟩ := op_field (α := TPoint) h
  obtain ⟨xe1, _, rfl, oe1, h⟩ := op_field (α := TPoint) h
  obtain ⟨xe2, _, rfl, oe2, h⟩ := op_field (α := TPoint) h
  obtain rfl := ces_nil h
  exact ⟨⟨xe0, xe1, xe2⟩, rfl, oe0, oe1, oe2⟩⟩
structure TAudittask where
  frame : Int
  tile : Int
instance flTAudittask : Flat TAudittask := ⟨2, fun x => [.int .i64 x.frame, .int .i64 x.tile], ⟨0, 0⟩, fun _ => rfl, by decide, fun _ => rfl, fun _ => rfl⟩
instance opTAudittask : Ope TAudittask := ⟨.int .i64 :: (.int .i64 :: ([])), fun x => (Lit.int .i64 x.frame).wf = true ∧ (Lit.int .i64 x.tile).wf = true, fun can h => by
  obtain ⟨xframe, _, rfl, oframe, h⟩ := op_int h
  obtain ⟨xtile, _, rfl, otile, h⟩ := op_int h
  obtain rfl := ces_nil h
  exact ⟨⟨xframe, xtile⟩, rfl, oframe, otile⟩⟩

end Go.Proofs.Ytjfodgjgpeiaaaa.Lf

