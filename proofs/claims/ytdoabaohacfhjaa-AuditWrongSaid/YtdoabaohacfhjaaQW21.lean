/- Several texts in one: Ty8, AUa, AUb. -/
import Derived.Test.YtdoabaohacfhjaaQW16
import Derived.Test.YtdoabaohacfhjaaProg
import Derived.Test.YtdoabaohacfhjaaQW19
namespace Go.Proofs.Ytdoabaohacfhjaa.Lf

section
open Go Go.Dt
set_option linter.unusedVariables false

theorem mixed : Try.prog.follows .mixedOrders = true := by kernel_rfl
structure TRuntimeboundsError where
  x : Int
  y : Int
  signed : Bool
  code : Int
instance flTRuntimeboundsError : Flat TRuntimeboundsError := ⟨4, fun x => [.int .i64 x.x, .int .i64 x.y, .bool x.signed, .int .u8 x.code], ⟨0, 0, false, 0⟩, fun _ => rfl, by decide, fun _ => rfl, fun _ => rfl⟩
instance opTRuntimeboundsError : Ope TRuntimeboundsError := ⟨.int .i64 :: (.int .i64 :: (Ope.ss (Bool) ++ (.int .u8 :: ([])))), fun x => (Lit.int .i64 x.x).wf = true ∧ (Lit.int .i64 x.y).wf = true ∧ Ope.ok x.signed ∧ (Lit.int .u8 x.code).wf = true, fun can h => by
  obtain ⟨xx, _, rfl, ox, h⟩ := op_int h
  obtain ⟨xy, _, rfl, oy, h⟩ := op_int h
  obtain ⟨xsigned, _, rfl, osigned, h⟩ := op_field (α := Bool) h
  obtain ⟨xcode, _, rfl, ocode, h⟩ := op_int h
  obtain rfl := ces_nil h
  exact ⟨⟨xx, xy, xsigned, xcode⟩, rfl, ox, oy, osigned, ocode⟩⟩
structure TRuntimeerrorAddressString where
  msg : ByteArray
  addr : Int
instance flTRuntimeerrorAddressString : Flat TRuntimeerrorAddressString := ⟨2, fun x => [.string x.msg, .int .u64 x.addr], ⟨ByteArray.empty, 0⟩, fun _ => rfl, by decide, fun _ => rfl, fun _ => rfl⟩
instance opTRuntimeerrorAddressString : Ope TRuntimeerrorAddressString := ⟨Ope.ss (ByteArray) ++ (.int .u64 :: ([])), fun x => Ope.ok x.msg ∧ (Lit.int .u64 x.addr).wf = true, fun can h => by
  obtain ⟨xmsg, _, rfl, omsg, h⟩ := op_field (α := ByteArray) h
  obtain ⟨xaddr, _, rfl, oaddr, h⟩ := op_int h
  obtain rfl := ces_nil h
  exact ⟨⟨xmsg, xaddr⟩, rfl, omsg, oaddr⟩⟩
structure TEvent where
  Who : Int
  Kind : Int
  A : Int
  B : Int
instance flTEvent : Flat TEvent := ⟨4, fun x => [.int .i64 x.Who, .int .i64 x.Kind, .int .i64 x.A, .int .i64 x.B], ⟨0, 0, 0, 0⟩, fun _ => rfl, by decide, fun _ => rfl, fun _ => rfl⟩
instance opTEvent : Ope TEvent := ⟨.int .i64 :: (.int .i64 :: (.int .i64 :: (.int .i64 :: ([])))), fun x => (Lit.int .i64 x.Who).wf = true ∧ (Lit.int .i64 x.Kind).wf = true ∧ (Lit.int .i64 x.A).wf = true ∧ (Lit.int .i64 x.B).wf = true, fun can h => by
  obtain ⟨xWho, _, rfl, oWho, h⟩ := op_int h
  obtain ⟨xKind, _, rfl, oKind, h⟩ := op_int h
  obtain ⟨xA, _, rfl, oA, h⟩ := op_int h
  obtain ⟨xB, _, rfl, oB, h⟩ := op_int h
  obtain rfl := ces_nil h
  exact ⟨⟨xWho, xKind, xA, xB⟩, rfl, oWho, oKind, oA, oB⟩⟩
structure TAuditLoad where
  Claims : Int
  Draws : Int
  Thefts : Int
instance flTAuditLoad : Flat TAuditLoad := ⟨3, fun x => [.int .i64 x.Claims, .int .i64 x.Draws, .int .i64 x.Thefts], ⟨0, 0, 0⟩, fun _ => rfl, by decide, fun _ => rfl, fun _ => rfl⟩
instance opTAuditLoad : Ope TAuditLoad := ⟨.int .i64 :: (.int .i64 :: (.int .i64 :: ([]))), fun x => (Lit.int .i64 x.Claims).wf = true ∧ (Lit.int .i64 x.Draws).wf = true ∧ (Lit.int .i64 x.Thefts).wf = true, fun can h => by
  obtain ⟨xClaims, _, rfl, oClaims, h⟩ := op_int h
  obtain ⟨xDraws, _, rfl, oDraws, h⟩ := op_int h
  obtain ⟨xThefts, _, rfl, oThefts, h⟩ := op_int h
  obtain rfl := ces_nil h
  exact ⟨⟨xClaims, xDraws, xThefts⟩, rfl, oClaims, oDraws, oThefts⟩⟩
structure TAudittask where
  frame : Int
  tile : Int
instance flTAudittask : Flat TAudittask := ⟨2, fun x => [.int .i64 x.frame, .int .i64 x.tile], ⟨0, 0⟩, fun _ => rfl, by decide, fun _ => rfl, fun _ => rfl⟩
instance opTAudittask : Ope TAudittask := ⟨.int .i64 :: (.int .i64 :: ([])), fun x => (Lit.int .i64 x.frame).wf = true ∧ (Lit.int .i64 x.tile).wf = true, fun can h => by
  obtain ⟨xframe, _, rfl, oframe, h⟩ := op_int h
  obtain ⟨xtile, _, rfl, otile, h⟩ := op_int h
  obtain rfl := ces_nil h
  exact ⟨⟨xframe, xtile⟩, rfl, oframe, otile⟩⟩

end

section
open Go Go.Dt Go.Proofs
set_option linter.unusedVariables false

theorem awake_eq : FnEq Try.prog 5 [] [] (.bool true) [] := FnEq.evalG mixed (X := []) (fun f e h => by simp at h) 6000 Try.func5 (by kernel_rfl) rfl (by kernel_rfl)
abbrev Fawake : Bool := true
theorem awake_con : Con Try.prog 5 [] (.bool Fawake) := ⟨awake_eq, ⟨_, Try.func5, by kernel_rfl⟩, by kernel_rfl⟩

end

section
open Go Go.Dt Go.Proofs
set_option linter.unusedVariables false

/-! ### 8 -/
abbrev Eaudit_Loads : List TAuditLoad × Int → Value := fun r => .tuple ⟨[lst r.1, .int .i64 r.2]⟩
def Faudit_Loads_5 (a0 : List TEvent) (a1 : Int) : Nat → (List TAuditLoad) → Int → Option (List TAuditLoad × Int)
  | 0, _, _ => none
  | K + 1, p6, p20 =>
    bif (decide (p20 < (↑a0.length : Int))) then
      bif inR p20 a0.length then
        bif (decide ((getR a0 p20.toNat).Who < 1)) then
          Faudit_Loads_5 a0 a1 K p6 (IntKind.i64.wrap (p20 + 1))
        else
          bif (bif false then true else decide ((getR a0 p20.toNat).Who > a1)) then
            Faudit_Loads_5 a0 a1 K p6 (IntKind.i64.wrap (p20 + 1))
          else
            bif inR (IntKind.i64.wrap ((getR a0 p20.toNat).Who - 1)) p6.length then
              bif ((getR a0 p20.toNat).Kind == 1) then
                Faudit_Loads_5 a0 a1 K (p6.set (IntKind.i64.wrap ((getR a0 p20.toNat).Who - 1)).toNat (TAuditLoad.mk (IntKind.i64.wrap ((getR p6 (IntKind.i64.wrap ((getR a0 p20.toNat).Who - 1)).toNat).Claims + 1)) (getR p6 (IntKind.i64.wrap ((getR a0 p20.toNat).Who - 1)).toNat).Draws (getR p6 (IntKind.i64.wrap ((getR a0 p20.toNat).Who - 1)).toNat).Thefts)) (IntKind.i64.wrap (p20 + 1))
              else
                bif ((getR a0 p20.toNat).Kind == 2) then
                  Faudit_Loads_5 a0 a1 K (p6.set (IntKind.i64.wrap ((getR a0 p20.toNat).Who - 1)).toNat (TAuditLoad.mk (getR p6 (IntKind.i64.wrap ((getR a0 p20.toNat).Who - 1)).toNat).Claims (IntKind.i64.wrap ((getR p6 (IntKind.i64.wrap ((getR a0 p20.toNat).Who - 1)).toNat).Draws + 1)) (getR p6 (IntKind.i64.wrap ((getR a0 p20.toNat).Who - 1)).toNat).Thefts)) (IntKind.i64.wrap (p20 + 1))
                else
                  bif ((getR a0 p20.toNat).Kind == 3) then
                    Faudit_Loads_5 a0 a1 K (p6.set (IntKind.i64.wrap ((getR a0 p20.toNat).Who - 1)).toNat (TAuditLoad.mk (getR p6 (IntKind.i64.wrap ((getR a0 p20.toNat).Who - 1)).toNat).Claims (getR p6 (IntKind.i64.wrap ((getR a0 p20.toNat).Who - 1)).toNat).Draws (IntKind.i64.wrap ((getR p6 (IntKind.i64.wrap ((getR a0 p20.toNat).Who - 1)).toNat).Thefts + 1)))) (IntKind.i64.wrap (p20 + 1))
                  else
                    Faudit_Loads_5 a0 a1 K p6 (IntKind.i64.wrap (p20 + 1))
            else none
      else none
    else
      some ((p6, 0))
def Faudit_Loads (K : Nat) (a0 : List TEvent) (a1 : Int) : Option (List TAuditLoad × Int) :=
  bif (decide (a1 < 1)) then
    some ((([] : List TAuditLoad), 2))
  else
    bif (bif false then true else decide (a1 > 64)) then
      some ((([] : List TAuditLoad), 2))
    else
      bif mkOk a1 a1 24 then
        Faudit_Loads_5 a0 a1 K (List.replicate a1.toNat (TAuditLoad.mk 0 0 0)) 0
      else none
def Haudit_Loads_56O (fn : Func) (a0 : List TEvent) (a1 : Int) (np6 : Nat) (p6 : List TAuditLoad) (p20 : Int) : VS := headS fn 5 [(1, (Value.int IntKind.i64 a1)), (6, .slice (some ⟨0, 0, none⟩) np6 np6), (18, (lst a0)), (19, (Value.int IntKind.i64 ((↑a0.length : Int)))), (20, .int .i64 p20)] [ownB p6]
theorem laudit_Loads (a0 : List TEvent) (a1 : Int) : ∀ K : Nat, (∀ (np6 : Nat) (p6 : List TAuditLoad) (_ : np6 = p6.length) (p20 : Int), Lifts Try.prog 8 0 Eaudit_Loads (Haudit_Loads_56O Try.f8 a0 a1 np6 p6 p20) (Faudit_Loads_5 a0 a1 K p6 p20)) := by
  intro K
  induction K with
  | zero =>
    exact fun np6 p6 ep6 p20 => (by rw [Faudit_Loads_5]; exact L.no)
  | succ K ih =>
    have IH56O := ih
    refine fun np6 p6 ep6 p20 => ?_
    · subst ep6; rw [Faudit_Loads_5]
      exact
        L.br mixed 5 _ (by kernel_rfl)
          (fun h3 =>
          L.idx mixed 5 _ (rows a0) 4 IntKind.i64 _ (by kernel_rfl) (fun h4a h4b =>
          L.ld mixed 0 36 (rows a0) (p20.toNat * 4 + 0) (.agg ⟨[.int .i64 (getR a0 p20.toNat).Who, .int .i64 (getR a0 p20.toNat).Kind, .int .i64 (getR a0 p20.toNat).A, .int .i64 (getR a0 p20.toNat).B]⟩) (by kernel_rfl) (loadN_rows (i := p20.toNat) (d := 0) (k := 4) rfl (toNat_lt h4a h4b) (by kernel_rfl) (by kernel_rfl) (Nat.le_of_ble_eq_true (by kernel_rfl)) (by kernel_rfl)) <|
          L.gu mixed 10 _ (by kernel_rfl)
            (fun h5 =>
            L.jumpG mixed 13 [1, 6, 18, 19, 20] [.ownp 0] [rows p6] (by kernel_rfl) (by kernel_rfl) (by kernel_rfl) ⟨rows_pure _, trivial⟩ (by kernel_rfl) (by kernel_rfl) (IH56O p6.length p6 (by first | rfl | exact Eq.symm (by assumption) | (simp; done) | (simp [*]; done)) (IntKind.i64.wrap (p20 + 1))))
            (fun h5 =>
            L.br mixed 6 _ (by kernel_rfl)
              (fun h6 =>
              L.jumpG mixed 6 [1, 6, 18, 19, 20] [.ownp 0] [rows p6] (by kernel_rfl) (by kernel_rfl) (by kernel_rfl) ⟨rows_pure _, trivial⟩ (by kernel_rfl) (by kernel_rfl) (IH56O p6.length p6 (by first | rfl | exact Eq.symm (by assumption) | (simp; done) | (simp [*]; done)) (IntKind.i64.wrap (p20 + 1))))
              (fun h6 =>
              L.oidx mixed 7 0 0 _ 3 IntKind.i64 _ (by kernel_rfl) (fun h7a h7b =>
              L.br mixed 13 _ (by kernel_rfl)
                (fun h8 =>
                L.old1 mixed 4 1 0 (0 + (IntKind.i64.wrap ((getR a0 p20.toNat).Who - 1)).toNat * 3 + 0) (rows p6) (.int .i64 (getR p6 (IntKind.i64.wrap ((getR a0 p20.toNat).Who - 1)).toNat).Claims) (by kernel_rfl) (rows_sub1 (i := (IntKind.i64.wrap ((getR a0 p20.toNat).Who - 1)).toNat) (d := 0) (by show 0 + (IntKind.i64.wrap ((getR a0 p20.toNat).Who - 1)).toNat * 3 + 0 = (IntKind.i64.wrap ((getR a0 p20.toNat).Who - 1)).toNat * 3 + 0; omega) (by have := (toNat_lt h7a h7b); simpa using this) (Nat.le_of_ble_eq_true (by kernel_rfl)) (by kernel_rfl)) <|
                L.ost mixed 3 (Value.int IntKind.i64 (IntKind.i64.wrap ((getR p6 (IntKind.i64.wrap ((getR a0 p20.toNat).Who - 1)).toNat).Claims + 1))) 1 0 (0 + (IntKind.i64.wrap ((getR a0 p20.toNat).Who - 1)).toNat * 3 + 0) (rows p6) (rows (p6.set (IntKind.i64.wrap ((getR a0 p20.toNat).Who - 1)).toNat ((⟨IntKind.i64.wrap ((getR p6 (IntKind.i64.wrap ((getR a0 p20.toNat).Who - 1)).toNat).Claims + 1), (getR p6 (IntKind.i64.wrap ((getR a0 p20.toNat).Who - 1)).toNat).Draws, (getR p6 (IntKind.i64.wrap ((getR a0 p20.toNat).Who - 1)).toNat).Thefts⟩ : TAuditLoad)))) 3 (by kernel_rfl) rfl rfl (rows_fitN (i := (IntKind.i64.wrap ((getR a0 p20.toNat).Who - 1)).toNat) (d := 0) (by show 0 + (IntKind.i64.wrap ((getR a0 p20.toNat).Who - 1)).toNat * 3 + 0 = (IntKind.i64.wrap ((getR a0 p20.toNat).Who - 1)).toNat * 3 + 0; omega) (by have := (toNat_lt h7a h7b); simpa using this) (Nat.le_of_ble_eq_true (by kernel_rfl))) (rows_setF _ (IntKind.i64.wrap ((getR a0 p20.toNat).Who - 1)).toNat 0 _ _ _ (by show 0 + (IntKind.i64.wrap ((getR a0 p20.toNat).Who - 1)).toNat * 3 + 0 = (IntKind.i64.wrap ((getR a0 p20.toNat).Who - 1)).toNat * 3 + 0; omega) (by have := (toNat_lt h7a h7b); simpa using this) (Nat.le_of_ble_eq_true (by kernel_rfl)) (by kernel_rfl)) <|
                L.jumpG mixed 8 [1, 6, 18, 19, 20] [.ownp 0] [rows (p6.set (IntKind.i64.wrap ((getR a0 p20.toNat).Who - 1)).toNat (TAuditLoad.mk (IntKind.i64.wrap ((getR p6 (IntKind.i64.wrap ((getR a0 p20.toNat).Who - 1)).toNat).Claims + 1)) (getR p6 (IntKind.i64.wrap ((getR a0 p20.toNat).Who - 1)).toNat).Draws (getR p6 (IntKind.i64.wrap ((getR a0 p20.toNat).Who - 1)).toNat).Thefts))] (by kernel_rfl) (by kernel_rfl) (by kernel_rfl) ⟨rows_pure _, trivial⟩ (by kernel_rfl) (by kernel_rfl) (IH56O p6.length (p6.set (IntKind.i64.wrap ((getR a0 p20.toNat).Who - 1)).toNat (TAuditLoad.mk (IntKind.i64.wrap ((getR p6 (IntKind.i64.wrap ((getR a0 p20.toNat).Who - 1)).toNat).Claims + 1)) (getR p6 (IntKind.i64.wrap ((getR a0 p20.toNat).Who - 1)).toNat).Draws (getR p6 (IntKind.i64.wrap ((getR a0 p20.toNat).Who - 1)).toNat).Thefts)) (by first | rfl | exact Eq.symm (by assumption) | (simp; done) | (simp [*]; done)) (IntKind.i64.wrap (p20 + 1))))
                (fun h8 =>
                L.br mixed 5 _ (by kernel_rfl)
                  (fun h9 =>
                  L.old1 mixed 4 1 0 (0 + (IntKind.i64.wrap ((getR a0 p20.toNat).Who - 1)).toNat * 3 + 1) (rows p6) (.int .i64 (getR p6 (IntKind.i64.wrap ((getR a0 p20.toNat).Who - 1)).toNat).Draws) (by kernel_rfl) (rows_sub1 (i := (IntKind.i64.wrap ((getR a0 p20.toNat).Who - 1)).toNat) (d := 1) (by show 0 + (IntKind.i64.wrap ((getR a0 p20.toNat).Who - 1)).toNat * 3 + 1 = (IntKind.i64.wrap ((getR a0 p20.toNat).Who - 1)).toNat * 3 + 1; omega) (by have := (toNat_lt h7a h7b); simpa using this) (Nat.le_of_ble_eq_true (by kernel_rfl)) (by kernel_rfl)) <|
                  L.ost mixed 3 (Value.int IntKind.i64 (IntKind.i64.wrap ((getR p6 (IntKind.i64.wrap ((getR a0 p20.toNat).Who - 1)).toNat).Draws + 1))) 1 0 (0 + (IntKind.i64.wrap ((getR a0 p20.toNat).Who - 1)).toNat * 3 + 1) (rows p6) (rows (p6.set (IntKind.i64.wrap ((getR a0 p20.toNat).Who - 1)).toNat ((⟨(getR p6 (IntKind.i64.wrap ((getR a0 p20.toNat).Who - 1)).toNat).Claims, IntKind.i64.wrap ((getR p6 (IntKind.i64.wrap ((getR a0 p20.toNat).Who - 1)).toNat).Draws + 1), (getR p6 (IntKind.i64.wrap ((getR a0 p20.toNat).Who - 1)).toNat).Thefts⟩ : TAuditLoad)))) 3 (by kernel_rfl) rfl rfl (rows_fitN (i := (IntKind.i64.wrap ((getR a0 p20.toNat).Who - 1)).toNat) (d := 1) (by show 0 + (IntKind.i64.wrap ((getR a0 p20.toNat).Who - 1)).toNat * 3 + 1 = (IntKind.i64.wrap ((getR a0 p20.toNat).Who - 1)).toNat * 3 + 1; omega) (by have := (toNat_lt h7a h7b); simpa using this) (Nat.le_of_ble_eq_true (by kernel_rfl))) (rows_setF _ (IntKind.i64.wrap ((getR a0 p20.toNat).Who - 1)).toNat 1 _ _ _ (by show 0 + (IntKind.i64.wrap ((getR a0 p20.toNat).Who - 1)).toNat * 3 + 1 = (IntKind.i64.wrap ((getR a0 p20.toNat).Who - 1)).toNat * 3 + 1; omega) (by have := (toNat_lt h7a h7b); simpa using this) (Nat.le_of_ble_eq_true (by kernel_rfl)) (by kernel_rfl)) <|
                  L.jumpG mixed 8 [1, 6, 18, 19, 20] [.ownp 0] [rows (p6.set (IntKind.i64.wrap ((getR a0 p20.toNat).Who - 1)).toNat (TAuditLoad.mk (getR p6 (IntKind.i64.wrap ((getR a0 p20.toNat).Who - 1)).toNat).Claims (IntKind.i64.wrap ((getR p6 (IntKind.i64.wrap ((getR a0 p20.toNat).Who - 1)).toNat).Draws + 1)) (getR p6 (IntKind.i64.wrap ((getR a0 p20.toNat).Who - 1)).toNat).Thefts))] (by kernel_rfl) (by kernel_rfl) (by kernel_rfl) ⟨rows_pure _, trivial⟩ (by kernel_rfl) (by kernel_rfl) (IH56O p6.length (p6.set (IntKind.i64.wrap ((getR a0 p20.toNat).Who - 1)).toNat (TAuditLoad.mk (getR p6 (IntKind.i64.wrap ((getR a0 p20.toNat).Who - 1)).toNat).Claims (IntKind.i64.wrap ((getR p6 (IntKind.i64.wrap ((getR a0 p20.toNat).Who - 1)).toNat).Draws + 1)) (getR p6 (IntKind.i64.wrap ((getR a0 p20.toNat).Who - 1)).toNat).Thefts)) (by first | rfl | exact Eq.symm (by assumption) | (simp; done) | (simp [*]; done)) (IntKind.i64.wrap (p20 + 1))))
                  (fun h9 =>
                  L.br mixed 5 _ (by kernel_rfl)
                    (fun h10 =>
                    L.old1 mixed 4 1 0 (0 + (IntKind.i64.wrap ((getR a0 p20.toNat).Who - 1)).toNat * 3 + 2) (rows p6) (.int .i64 (getR p6 (IntKind.i64.wrap ((getR a0 p20.toNat).Who - 1)).toNat).Thefts) (by kernel_rfl) (rows_sub1 (i := (IntKind.i64.wrap ((getR a0 p20.toNat).Who - 1)).toNat) (d := 2) (by show 0 + (IntKind.i64.wrap ((getR a0 p20.toNat).Who - 1)).toNat * 3 + 2 = (IntKind.i64.wrap ((getR a0 p20.toNat).Who - 1)).toNat * 3 + 2; omega) (by have := (toNat_lt h7a h7b); simpa using this) (Nat.le_of_ble_eq_true (by kernel_rfl)) (by kernel_rfl)) <|
                    L.ost mixed 3 (Value.int IntKind.i64 (IntKind.i64.wrap ((getR p6 (IntKind.i64.wrap ((getR a0 p20.toNat).Who - 1)).toNat).Thefts + 1))) 1 0 (0 + (IntKind.i64.wrap ((getR a0 p20.toNat).Who - 1)).toNat * 3 + 2) (rows p6) (rows (p6.set (IntKind.i64.wrap ((getR a0 p20.toNat).Who - 1)).toNat ((⟨(getR p6 (IntKind.i64.wrap ((getR a0 p20.toNat).Who - 1)).toNat).Claims, (getR p6 (IntKind.i64.wrap ((getR a0 p20.toNat).Who - 1)).toNat).Draws, IntKind.i64.wrap ((getR p6 (IntKind.i64.wrap ((getR a0 p20.toNat).Who - 1)).toNat).Thefts + 1)⟩ : TAuditLoad)))) 3 (by kernel_rfl) rfl rfl (rows_fitN (i := (IntKind.i64.wrap ((getR a0 p20.toNat).Who - 1)).toNat) (d := 2) (by show 0 + (IntKind.i64.wrap ((getR a0 p20.toNat).Who - 1)).toNat * 3 + 2 = (IntKind.i64.wrap ((getR a0 p20.toNat).Who - 1)).toNat * 3 + 2; omega) (by have := (toNat_lt h7a h7b); simpa using this) (Nat.le_of_ble_eq_true (by kernel_rfl))) (rows_setF _ (IntKind.i64.wrap ((getR a0 p20.toNat).Who - 1)).toNat 2 _ _ _ (by show 0 + (IntKind.i64.wrap ((getR a0 p20.toNat).Who - 1)).toNat * 3 + 2 = (IntKind.i64.wrap ((getR a0 p20.toNat).Who - 1)).toNat * 3 + 2; omega) (by have := (toNat_lt h7a h7b); simpa using this) (Nat.le_of_ble_eq_true (by kernel_rfl)) (by kernel_rfl)) <|
                    L.jumpG mixed 8 [1, 6, 18, 19, 20] [.ownp 0] [rows (p6.set (IntKind.i64.wrap ((getR a0 p20.toNat).Who - 1)).toNat (TAuditLoad.mk (getR p6 (IntKind.i64.wrap ((getR a0 p20.toNat).Who - 1)).toNat).Claims (getR p6 (IntKind.i64.wrap ((getR a0 p20.toNat).Who - 1)).toNat).Draws (IntKind.i64.wrap ((getR p6 (IntKind.i64.wrap ((getR a0 p20.toNat).Who - 1)).toNat).Thefts + 1))))] (by kernel_rfl) (by kernel_rfl) (by kernel_rfl) ⟨rows_pure _, trivial⟩ (by kernel_rfl) (by kernel_rfl) (IH56O p6.length (p6.set (IntKind.i64.wrap ((getR a0 p20.toNat).Who - 1)).toNat (TAuditLoad.mk (getR p6 (IntKind.i64.wrap ((getR a0 p20.toNat).Who - 1)).toNat).Claims (getR p6 (IntKind.i64.wrap ((getR a0 p20.toNat).Who - 1)).toNat).Draws (IntKind.i64.wrap ((getR p6 (IntKind.i64.wrap ((getR a0 p20.toNat).Who - 1)).toNat).Thefts + 1)))) (by first | rfl | exact Eq.symm (by assumption) | (simp; done) | (simp [*]; done)) (IntKind.i64.wrap (p20 + 1))))
                    (fun h10 =>
                    L.jumpG mixed 8 [1, 6, 18, 19, 20] [.ownp 0] [rows p6] (by kernel_rfl) (by kernel_rfl) (by kernel_rfl) ⟨rows_pure _, trivial⟩ (by kernel_rfl) (by kernel_rfl) (IH56O p6.length p6 (by first | rfl | exact Eq.symm (by assumption) | (simp; done) | (simp [*]; done)) (IntKind.i64.wrap (p20 + 1)))))))))))
          (fun h3 =>
          L.frzO mixed 7 4 0 p6.length p6 (by first | rfl | exact Eq.symm (by assumption) | (simp; done) | (simp [*]; done)) (by kernel_rfl) (by kernel_rfl) (by kernel_rfl) <|
          L.ret _ mixed Try.func8 _ (by kernel_rfl) rfl)
theorem caudit_Loads (K : Nat) (a0 : List TEvent) (a1 : Int) : ∀ r, Faudit_Loads K a0 a1 = some r → Con Try.prog 8 [lst a0, .int .i64 a1] (Eaudit_Loads r) := by
  have IH56O := laudit_Loads a0 a1 K
  refine Con.lift Try.func8 (by kernel_rfl) rfl (fun _ => rfl) ?_
  unfold Faudit_Loads
  exact
    L.gu mixed 11 _ (by kernel_rfl)
      (fun h1 =>
      L.frzNil mixed 10 4 (by kernel_rfl) <|
      L.ret _ mixed Try.func8 _ (by kernel_rfl) rfl)
      (fun h1 =>
      L.br mixed 4 _ (by kernel_rfl)
        (fun h2 =>
        L.frzNil mixed 5 4 (by kernel_rfl) <|
        L.ret _ mixed Try.func8 _ (by kernel_rfl) rfl)
        (fun h2 =>
        L.make mixed 4 _ _ ((⟨0, 0, 0⟩ : TAuditLoad) : TAuditLoad) rfl (by kernel_rfl) <|
        L.jump mixed 11 [1, 6, 18, 19, 20] (by kernel_rfl) (IH56O ((List.replicate a1.toNat (TAuditLoad.mk 0 0 0)).length) (List.replicate a1.toNat (TAuditLoad.mk 0 0 0)) (by first | rfl | exact Eq.symm (by assumption) | (simp; done) | (simp [*]; done)) 0)))
/-! ### 9 -/
abbrev Eaudit_Span : Int × Int × Bool → Value := fun r => .tuple ⟨[.int .i64 r.1, .int .i64 r.2.1, .bool r.2.2]⟩
def Faudit_Span_3 (a0 : List TEvent) (a1 : Int) : Nat → Int → Int → Option (Int × Int × Bool)
  | 0, _, _ => none
  | K + 1, p7, p12 =>
    bif (decide (p12 < (↑a0.length : Int))) then
      bif inR p12 a0.length then
        bif ((getR a0 p12.toNat).A != a1) then
          Faudit_Span_3 a0 a1 K p7 (IntKind.i64.wrap (p12 + 1))
        else
          bif ((getR a0 p12.toNat).Kind == 1) then
            bif (bif true then decide (p7 < 0) else false) then
              Faudit_Span_3 a0 a1 K p12 (IntKind.i64.wrap (p12 + 1))
            else
              bif ((getR a0 p12.toNat).Kind == 4) then
                bif (bif true then decide (p7 ≥ 0) else false) then
                  some ((p7, p12, true))
                else
                  Faudit_Span_3 a0 a1 K p7 (IntKind.i64.wrap (p12 + 1))
              else
                Faudit_Span_3 a0 a1 K p7 (IntKind.i64.wrap (p12 + 1))
          else
            bif ((getR a0 p12.toNat).Kind == 4) then
              bif (bif true then decide (p7 ≥ 0) else false) then
                some ((p7, p12, true))
              else
                Faudit_Span_3 a0 a1 K p7 (IntKind.i64.wrap (p12 + 1))
            else
              Faudit_Span_3 a0 a1 K p7 (IntKind.i64.wrap (p12 + 1))
      else none
    else
      some ((0, 0, false))
def Faudit_Span (K : Nat) (a0 : List TEvent) (a1 : Int) : Option (Int × Int × Bool) :=
  Faudit_Span_3 a0 a1 K (-1) 0
def Haudit_Span_3 (fn : Func) (a0 : List TEvent) (a1 : Int) (p7 : Int) (p12 : Int) : VS := headS fn 3 [(1, (Value.int IntKind.i64 a1)), (7, .int .i64 p7), (10, (lst a0)), (11, (Value.int IntKind.i64 ((↑a0.length : Int)))), (12, .int .i64 p12)] []
theorem laudit_Span (a0 : List TEvent) (a1 : Int) : ∀ K : Nat, (∀ (p7 : Int) (p12 : Int), Lifts Try.prog 9 0 Eaudit_Span (Haudit_Span_3 Try.f9 a0 a1 p7 p12) (Faudit_Span_3 a0 a1 K p7 p12)) := by
  intro K
  induction K with
  | zero =>
    exact fun p7 p12 => (by rw [Faudit_Span_3]; exact L.no)
  | succ K ih =>
    have IH3 := ih
    refine fun p7 p12 => ?_
    · rw [Faudit_Span_3]
      exact
        L.br mixed 5 _ (by kernel_rfl)
          (fun h1 =>
          L.idx mixed 6 _ (rows a0) 4 IntKind.i64 _ (by kernel_rfl) (fun h2a h2b =>
          L.ld mixed 0 36 (rows a0) (p12.toNat * 4 + 0) (.agg ⟨[.int .i64 (getR a0 p12.toNat).Who, .int .i64 (getR a0 p12.toNat).Kind, .int .i64 (getR a0 p12.toNat).A, .int .i64 (getR a0 p12.toNat).B]⟩) (by kernel_rfl) (loadN_rows (i := p12.toNat) (d := 0) (k := 4) rfl (toNat_lt h2a h2b) (by kernel_rfl) (by kernel_rfl) (Nat.le_of_ble_eq_true (by kernel_rfl)) (by kernel_rfl)) <|
          L.br mixed 13 _ (by kernel_rfl)
            (fun h3 =>
            L.jumpG mixed 8 [1, 7, 10, 11, 12] [] [] (by kernel_rfl) (by kernel_rfl) (by kernel_rfl) trivial (by kernel_rfl) (by kernel_rfl) (IH3 p7 (IntKind.i64.wrap (p12 + 1))))
            (fun h3 =>
            L.gu mixed 6 _ (by kernel_rfl)
              (fun h4 =>
              L.br mixed 5 _ (by kernel_rfl)
                (fun h5 =>
                L.jumpG mixed 11 [1, 7, 10, 11, 12] [] [] (by kernel_rfl) (by kernel_rfl) (by kernel_rfl) trivial (by kernel_rfl) (by kernel_rfl) (IH3 p12 (IntKind.i64.wrap (p12 + 1))))
                (fun h5 =>
                L.gu mixed 6 _ (by kernel_rfl)
                  (fun h6 =>
                  L.br mixed 5 _ (by kernel_rfl)
                    (fun h7 =>
                    L.ret _ mixed Try.func9 _ (by kernel_rfl) rfl)
                    (fun h7 =>
                    L.jumpG mixed 8 [1, 7, 10, 11, 12] [] [] (by kernel_rfl) (by kernel_rfl) (by kernel_rfl) trivial (by kernel_rfl) (by kernel_rfl) (IH3 p7 (IntKind.i64.wrap (p12 + 1)))))
                  (fun h6 =>
                  L.jumpG mixed 14 [1, 7, 10, 11, 12] [] [] (by kernel_rfl) (by kernel_rfl) (by kernel_rfl) trivial (by kernel_rfl) (by kernel_rfl) (IH3 p7 (IntKind.i64.wrap (p12 + 1))))))
              (fun h4 =>
              L.gu mixed 12 _ (by kernel_rfl)
                (fun h8 =>
                L.br mixed 5 _ (by kernel_rfl)
                  (fun h9 =>
                  L.ret _ mixed Try.func9 _ (by kernel_rfl) rfl)
                  (fun h9 =>
                  L.jumpG mixed 8 [1, 7, 10, 11, 12] [] [] (by kernel_rfl) (by kernel_rfl) (by kernel_rfl) trivial (by kernel_rfl) (by kernel_rfl) (IH3 p7 (IntKind.i64.wrap (p12 + 1)))))
                (fun h8 =>
                L.jumpG mixed 14 [1, 7, 10, 11, 12] [] [] (by kernel_rfl) (by kernel_rfl) (by kernel_rfl) trivial (by kernel_rfl) (by kernel_rfl) (IH3 p7 (IntKind.i64.wrap (p12 + 1))))))))
          (fun h1 =>
          L.ret _ mixed Try.func9 _ (by kernel_rfl) rfl)
theorem caudit_Span (K : Nat) (a0 : List TEvent) (a1 : Int) : ∀ r, Faudit_Span K a0 a1 = some r → Con Try.prog 9 [lst a0, .int .i64 a1] (Eaudit_Span r) := by
  have IH3 := laudit_Span a0 a1 K
  refine Con.lift Try.func9 (by kernel_rfl) rfl (fun _ => rfl) ?_
  unfold Faudit_Span
  exact
    L.jump mixed 19 [1, 7, 10, 11, 12] (by kernel_rfl) (IH3 (-1) 0)
/-! ### 10 -/
abbrev ER40_Many : Int → Value := fun r => .int .i64 r
def FR40_Many_3 (a0 : List TEvent) (a1 : Int) (a2 : Int) : Nat → Int → Int → Option Int
  | 0, _, _ => none
  | K + 1, p7, p8 =>
    bif (decide (p8 < (↑a0.length : Int))) then
      bif inR p8 a0.length then
        bif ((getR a0 p8.toNat).Who == a1) then
          bif inR p8 a0.length then
            bif (bif true then (getR a0 p8.toNat).Kind == a2 else false) then
              FR40_Many_3 a0 a1 a2 K (IntKind.i64.wrap (p7 + 1)) (IntKind.i64.wrap (p8 + 1))
            else
              FR40_Many_3 a0 a1 a2 K p7 (IntKind.i64.wrap (p8 + 1))
          else none
        else
          FR40_Many_3 a0 a1 a2 K p7 (IntKind.i64.wrap (p8 + 1))
      else none
    else
      some p7
def FR40_Many (K : Nat) (a0 : List TEvent) (a1 : Int) (a2 : Int) : Option Int :=
  FR40_Many_3 a0 a1 a2 K 0 0
def HR40_Many_3 (fn : Func) (a0 : List TEvent) (a1 : Int) (a2 : Int) (p7 : Int) (p8 : Int) : VS := headS fn 3 [(0, (lst a0)), (1, (Value.int IntKind.i64 a1)), (2, (Value.int IntKind.i64 a2)), (7, .int .i64 p7), (8, .int .i64 p8)] []
theorem lR40_Many (a0 : List TEvent) (a1 : Int) (a2 : Int) : ∀ K : Nat, (∀ (p7 : Int) (p8 : Int), Lifts Try.prog 10 0 ER40_Many (HR40_Many_3 Try.f10 a0 a1 a2 p7 p8) (FR40_Many_3 a0 a1 a2 K p7 p8)) := by
  intro K
  induction K with
  | zero =>
    exact fun p7 p8 => (by rw [FR40_Many_3]; exact L.no)
  | succ K ih =>
    have IH3 := ih
    refine fun p7 p8 => ?_
    · rw [FR40_Many_3]
      exact
        L.br mixed 8 _ (by kernel_rfl)
          (fun h1 =>
          L.idx mixed 7 _ (rows a0) 4 IntKind.i64 _ (by kernel_rfl) (fun h2a h2b =>
          L.ld mixed 1 3 (rows a0) (p8.toNat * 4 + 0) (.int .i64 (getR a0 p8.toNat).Who) (by kernel_rfl) (load1_rows (i := p8.toNat) (d := 0) rfl (toNat_lt h2a h2b) (by kernel_rfl) (Nat.le_of_ble_eq_true (by kernel_rfl)) (by kernel_rfl)) <|
          L.gu mixed 3 _ (by kernel_rfl)
            (fun h3 =>
            L.idx mixed 2 _ (rows a0) 4 IntKind.i64 _ (by kernel_rfl) (fun h4a h4b =>
            L.ld mixed 1 3 (rows a0) (p8.toNat * 4 + 1) (.int .i64 (getR a0 p8.toNat).Kind) (by kernel_rfl) (load1_rows (i := p8.toNat) (d := 1) rfl (toNat_lt h4a h4b) (by kernel_rfl) (Nat.le_of_ble_eq_true (by kernel_rfl)) (by kernel_rfl)) <|
            L.br mixed 4 _ (by kernel_rfl)
              (fun h5 =>
              L.jump mixed 12 [0, 1, 2, 7, 8] (by kernel_rfl) (IH3 (IntKind.i64.wrap (p7 + 1)) (IntKind.i64.wrap (p8 + 1))))
              (fun h5 =>
              L.jump mixed 8 [0, 1, 2, 7, 8] (by kernel_rfl) (IH3 p7 (IntKind.i64.wrap (p8 + 1))))))
            (fun h3 =>
            L.jump mixed 18 [0, 1, 2, 7, 8] (by kernel_rfl) (IH3 p7 (IntKind.i64.wrap (p8 + 1))))))
          (fun h1 =>
          L.ret _ mixed Try.func10 _ (by kernel_rfl) rfl)
theorem cR40_Many (K : Nat) (a0 : List TEvent) (a1 : Int) (a2 : Int) : ∀ r, FR40_Many K a0 a1 a2 = some r → Con Try.prog 10 [lst a0, .int .i64 a1, .int .i64 a2] (ER40_Many r) := by
  have IH3 := lR40_Many a0 a1 a2 K
  refine Con.lift Try.func10 (by kernel_rfl) rfl (fun _ => rfl) ?_
  unfold FR40_Many
  exact
    L.jump mixed 15 [0, 1, 2, 7, 8] (by kernel_rfl) (IH3 0 0)
/-! ### 4 -/
abbrev EL40_AuditLoads : Bool → Value := fun r => .bool r
mutual
def FL40_AuditLoads_7 (a0 : List TEvent) (a1 : Int) (a2 : Int) : Nat → (List TAuditLoad) → Int → Int → Int → Bool → Int → Int → Int → Option Bool
  | 0, _, _, _, _, _, _, _, _ => none
  | K + 1, p7, p8, p9, p10, p11, p12, p13, p14 =>
    bif (decide (p14 < (↑a0.length : Int))) then
      bif inR p14 a0.length then
        bif ((getR a0 p14.toNat).A != a2) then
          FL40_AuditLoads_7 a0 a1 a2 K p7 p8 p9 p10 p11 p12 p13 (IntKind.i64.wrap (p14 + 1))
        else
          bif (decide (p12 < 0)) then
            bif inR p14 a0.length then
              bif (bif true then (getR a0 p14.toNat).Kind == 1 else false) then
                FL40_AuditLoads_7 a0 a1 a2 K p7 p8 p9 p10 p11 p14 p13 (IntKind.i64.wrap (p14 + 1))
              else
                bif (decide (p12 ≥ 0)) then
                  bif (bif true then decide (p13 < 0) else false) then
                    bif inR p14 a0.length then
                      bif (bif true then (getR a0 p14.toNat).Kind == 4 else false) then
                        FL40_AuditLoads_7 a0 a1 a2 K p7 p8 p9 p10 p11 p12 p14 (IntKind.i64.wrap (p14 + 1))
                      else
                        FL40_AuditLoads_7 a0 a1 a2 K p7 p8 p9 p10 p11 p12 p13 (IntKind.i64.wrap (p14 + 1))
                    else none
                  else
                    FL40_AuditLoads_7 a0 a1 a2 K p7 p8 p9 p10 p11 p12 p13 (IntKind.i64.wrap (p14 + 1))
                else
                  FL40_AuditLoads_7 a0 a1 a2 K p7 p8 p9 p10 p11 p12 p13 (IntKind.i64.wrap (p14 + 1))
            else none
          else
            bif (decide (p12 ≥ 0)) then
              bif (bif true then decide (p13 < 0) else false) then
                bif inR p14 a0.length then
                  bif (bif true then (getR a0 p14.toNat).Kind == 4 else false) then
                    FL40_AuditLoads_7 a0 a1 a2 K p7 p8 p9 p10 p11 p12 p14 (IntKind.i64.wrap (p14 + 1))
                  else
                    FL40_AuditLoads_7 a0 a1 a2 K p7 p8 p9 p10 p11 p12 p13 (IntKind.i64.wrap (p14 + 1))
                else none
              else
                FL40_AuditLoads_7 a0 a1 a2 K p7 p8 p9 p10 p11 p12 p13 (IntKind.i64.wrap (p14 + 1))
            else
              FL40_AuditLoads_7 a0 a1 a2 K p7 p8 p9 p10 p11 p12 p13 (IntKind.i64.wrap (p14 + 1))
      else none
    else
      bif (!p11 == decide (p13 ≥ 0)) then
        some false
      else
        bif p11 then
          bif (p9 != p12) then
            some false
          else
            bif (bif false then true else bif true then bif false then true else p10 != p13 else false) then
              some false
            else
              bif !p11 then
                bif (p9 != 0) then
                  some false
                else
                  bif (bif false then true else bif true then bif false then true else p10 != 0 else false) then
                    some false
                  else
                    bif (decide (a1 < 1)) then
                      bif ((↑p7.length : Int) == 0) then
                        bif (bif true then p8 == 2 else false) then
                          some (bif true then Fawake else false)
                        else
                          some false
                      else
                        some false
                    else
                      bif (bif false then true else decide (a1 > 64)) then
                        bif ((↑p7.length : Int) == 0) then
                          bif (bif true then p8 == 2 else false) then
                            some (bif true then Fawake else false)
                          else
                            some false
                        else
                          some false
                      else
                        bif (p8 != 0) then
                          some false
                        else
                          bif (bif false then true else (↑p7.length : Int) != a1) then
                            some false
                          else
                            FL40_AuditLoads_21 a0 a1 a2 K p7 0
              else
                bif (decide (a1 < 1)) then
                  bif ((↑p7.length : Int) == 0) then
                    bif (bif true then p8 == 2 else false) then
                      some (bif true then Fawake else false)
                    else
                      some false
                  else
                    some false
                else
                  bif (bif false then true else decide (a1 > 64)) then
                    bif ((↑p7.length : Int) == 0) then
                      bif (bif true then p8 == 2 else false) then
                        some (bif true then Fawake else false)
                      else
                        some false
                    else
                      some false
                  else
                    bif (p8 != 0) then
                      some false
                    else
                      bif (bif false then true else (↑p7.length : Int) != a1) then
                        some false
                      else
                        FL40_AuditLoads_21 a0 a1 a2 K p7 0
        else
          bif !p11 then
            bif (p9 != 0) then
              some false
            else
              bif (bif bif false then true else false then true else bif true then bif false then true else p10 != 0 else false) then
                some false
              else
                bif (decide (a1 < 1)) then
                  bif ((↑p7.length : Int) == 0) then
                    bif (bif true then p8 == 2 else false) then
                      some (bif true then Fawake else false)
                    else
                      some false
                  else
                    some false
                else
                  bif (bif false then true else decide (a1 > 64)) then
                    bif ((↑p7.length : Int) == 0) then
                      bif (bif true then p8 == 2 else false) then
                        some (bif true then Fawake else false)
                      else
                        some false
                    else
                      some false
                  else
                    bif (p8 != 0) then
                      some false
                    else
                      bif (bif false then true else (↑p7.length : Int) != a1) then
                        some false
                      else
                        FL40_AuditLoads_21 a0 a1 a2 K p7 0
          else
            bif (decide (a1 < 1)) then
              bif ((↑p7.length : Int) == 0) then
                bif (bif true then p8 == 2 else false) then
                  some (bif true then Fawake else false)
                else
                  some false
              else
                some false
            else
              bif (bif false then true else decide (a1 > 64)) then
                bif ((↑p7.length : Int) == 0) then
                  bif (bif true then p8 == 2 else false) then
                    some (bif true then Fawake else false)
                  else
                    some false
                else
                  some false
              else
                bif (p8 != 0) then
                  some false
                else
                  bif (bif false then true else (↑p7.length : Int) != a1) then
                    some false
                  else
                    FL40_AuditLoads_21 a0 a1 a2 K p7 0
def FL40_AuditLoads_21 (a0 : List TEvent) (a1 : Int) (a2 : Int) : Nat → (List TAuditLoad) → Int → Option Bool
  | 0, _, _ => none
  | K + 1, p7, p15 =>
    bif (decide (p15 < a1)) then
      bif inR p15 p7.length then
        (FR40_Many K a0 (IntKind.i64.wrap (p15 + 1)) 1).bind fun u62 =>
        (FR40_Many K a0 (IntKind.i64.wrap (p15 + 1)) 2).bind fun u63 =>
        (FR40_Many K a0 (IntKind.i64.wrap (p15 + 1)) 3).bind fun u64 =>
        bif (bif true then !((getR p7 p15.toNat).Claims == u62 && ((getR p7 p15.toNat).Draws == u63 && ((getR p7 p15.toNat).Thefts == u64 && true))) else (getR p7 p15.toNat).Claims == u62 && ((getR p7 p15.toNat).Draws == u63 && ((getR p7 p15.toNat).Thefts == u64 && true))) then
          some false
        else
          FL40_AuditLoads_21 a0 a1 a2 K p7 (IntKind.i64.wrap (p15 + 1))
      else none
    else
      some Fawake
end
def FL40_AuditLoads (K : Nat) (a0 : List TEvent) (a1 : Int) (a2 : Int) : Option Bool :=
  bif (decide ((↑a0.length : Int) > 100)) then
    some Fawake
  else
    (Faudit_Loads K a0 a1).bind fun u2 =>
    (Faudit_Span K a0 a2).bind fun u3 =>
    FL40_AuditLoads_7 a0 a1 a2 K u2.fst u2.snd u3.fst u3.snd.fst u3.snd.snd (-1) (-1) 0
def HL40_AuditLoads_7 (fn : Func) (a0 : List TEvent) (a1 : Int) (a2 : Int) (p7 : List TAuditLoad) (p8 : Int) (p9 : Int) (p10 : Int) (p11 : Bool) (p12 : Int) (p13 : Int) (p14 : Int) : VS := headS fn 7 [(0, (lst a0)), (1, (Value.int IntKind.i64 a1)), (2, (Value.int IntKind.i64 a2)), (7, lst p7), (8, .int .i64 p8), (9, .int .i64 p9), (10, .int .i64 p10), (11, .bool p11), (12, .int .i64 p12), (13, .int .i64 p13), (14, .int .i64 p14)] []
def HL40_AuditLoads_21 (fn : Func) (a0 : List TEvent) (a1 : Int) (a2 : Int) (p7 : List TAuditLoad) (p15 : Int) : VS := headS fn 21 [(0, (lst a0)), (1, (Value.int IntKind.i64 a1)), (7, lst p7), (15, .int .i64 p15)] []
theorem lL40_AuditLoads (a0 : List TEvent) (a1 : Int) (a2 : Int) : ∀ K : Nat, (∀ (p7 : List TAuditLoad) (p8 : Int) (p9 : Int) (p10 : Int) (p11 : Bool) (p12 : Int) (p13 : Int) (p14 : Int), Lifts Try.prog 4 0 EL40_AuditLoads (HL40_AuditLoads_7 Try.f4 a0 a1 a2 p7 p8 p9 p10 p11 p12 p13 p14) (FL40_AuditLoads_7 a0 a1 a2 K p7 p8 p9 p10 p11 p12 p13 p14)) ∧ (∀ (p7 : List TAuditLoad) (p15 : Int), Lifts Try.prog 4 0 EL40_AuditLoads (HL40_AuditLoads_21 Try.f4 a0 a1 a2 p7 p15) (FL40_AuditLoads_21 a0 a1 a2 K p7 p15)) := by
  intro K
  induction K with
  | zero =>
    exact ⟨fun p7 p8 p9 p10 p11 p12 p13 p14 => (by rw [FL40_AuditLoads_7]; exact L.no), fun p7 p15 => (by rw [FL40_AuditLoads_21]; exact L.no)⟩
  | succ K ih =>
    obtain ⟨IH7, IH21⟩ := ih
    refine ⟨fun p7 p8 p9 p10 p11 p12 p13 p14 => ?_, fun p7 p15 => ?_⟩
    · rw [FL40_AuditLoads_7]
      exact
        L.br mixed 8 _ (by kernel_rfl)
          (fun h4 =>
          L.idx mixed 8 _ (rows a0) 4 IntKind.i64 _ (by kernel_rfl) (fun h5a h5b =>
          L.ld mixed 1 3 (rows a0) (p14.toNat * 4 + 2) (.int .i64 (getR a0 p14.toNat).A) (by kernel_rfl) (load1_rows (i := p14.toNat) (d := 2) rfl (toNat_lt h5a h5b) (by kernel_rfl) (Nat.le_of_ble_eq_true (by kernel_rfl)) (by kernel_rfl)) <|
          L.br mixed 3 _ (by kernel_rfl)
            (fun h6 =>
            L.jump mixed 7 [0, 1, 2, 7, 8, 9, 10, 11, 12, 13, 14] (by kernel_rfl) (IH7 p7 p8 p9 p10 p11 p12 p13 (IntKind.i64.wrap (p14 + 1))))
            (fun h6 =>
            L.gu mixed 6 _ (by kernel_rfl)
              (fun h7 =>
              L.idx mixed 2 _ (rows a0) 4 IntKind.i64 _ (by kernel_rfl) (fun h8a h8b =>
              L.ld mixed 1 3 (rows a0) (p14.toNat * 4 + 1) (.int .i64 (getR a0 p14.toNat).Kind) (by kernel_rfl) (load1_rows (i := p14.toNat) (d := 1) rfl (toNat_lt h8a h8b) (by kernel_rfl) (Nat.le_of_ble_eq_true (by kernel_rfl)) (by kernel_rfl)) <|
              L.br mixed 3 _ (by kernel_rfl)
                (fun h9 =>
                L.jump mixed 11 [0, 1, 2, 7, 8, 9, 10, 11, 12, 13, 14] (by kernel_rfl) (IH7 p7 p8 p9 p10 p11 p14 p13 (IntKind.i64.wrap (p14 + 1))))
                (fun h9 =>
                L.gu mixed 5 _ (by kernel_rfl)
                  (fun h10 =>
                  L.gu mixed 4 _ (by kernel_rfl)
                    (fun h11 =>
                    L.idx mixed 2 _ (rows a0) 4 IntKind.i64 _ (by kernel_rfl) (fun h12a h12b =>
                    L.ld mixed 1 3 (rows a0) (p14.toNat * 4 + 1) (.int .i64 (getR a0 p14.toNat).Kind) (by kernel_rfl) (load1_rows (i := p14.toNat) (d := 1) rfl (toNat_lt h12a h12b) (by kernel_rfl) (Nat.le_of_ble_eq_true (by kernel_rfl)) (by kernel_rfl)) <|
                    L.br mixed 3 _ (by kernel_rfl)
                      (fun h13 =>
                      L.jump mixed 11 [0, 1, 2, 7, 8, 9, 10, 11, 12, 13, 14] (by kernel_rfl) (IH7 p7 p8 p9 p10 p11 p12 p14 (IntKind.i64.wrap (p14 + 1))))
                      (fun h13 =>
                      L.jump mixed 8 [0, 1, 2, 7, 8, 9, 10, 11, 12, 13, 14] (by kernel_rfl) (IH7 p7 p8 p9 p10 p11 p12 p13 (IntKind.i64.wrap (p14 + 1))))))
                    (fun h11 =>
                    L.jump mixed 17 [0, 1, 2, 7, 8, 9, 10, 11, 12, 13, 14] (by kernel_rfl) (IH7 p7 p8 p9 p10 p11 p12 p13 (IntKind.i64.wrap (p14 + 1)))))
                  (fun h10 =>
                  L.jump mixed 21 [0, 1, 2, 7, 8, 9, 10, 11, 12, 13, 14] (by kernel_rfl) (IH7 p7 p8 p9 p10 p11 p12 p13 (IntKind.i64.wrap (p14 + 1)))))))
              (fun h7 =>
              L.gu mixed 14 _ (by kernel_rfl)
                (fun h14 =>
                L.gu mixed 4 _ (by kernel_rfl)
                  (fun h15 =>
                  L.idx mixed 2 _ (rows a0) 4 IntKind.i64 _ (by kernel_rfl) (fun h16a h16b =>
                  L.ld mixed 1 3 (rows a0) (p14.toNat * 4 + 1) (.int .i64 (getR a0 p14.toNat).Kind) (by kernel_rfl) (load1_rows (i := p14.toNat) (d := 1) rfl (toNat_lt h16a h16b) (by kernel_rfl) (Nat.le_of_ble_eq_true (by kernel_rfl)) (by kernel_rfl)) <|
                  L.br mixed 3 _ (by kernel_rfl)
                    (fun h17 =>
                    L.jump mixed 11 [0, 1, 2, 7, 8, 9, 10, 11, 12, 13, 14] (by kernel_rfl) (IH7 p7 p8 p9 p10 p11 p12 p14 (IntKind.i64.wrap (p14 + 1))))
                    (fun h17 =>
                    L.jump mixed 8 [0, 1, 2, 7, 8, 9, 10, 11, 12, 13, 14] (by kernel_rfl) (IH7 p7 p8 p9 p10 p11 p12 p13 (IntKind.i64.wrap (p14 + 1))))))
                  (fun h15 =>
                  L.jump mixed 17 [0, 1, 2, 7, 8, 9, 10, 11, 12, 13, 14] (by kernel_rfl) (IH7 p7 p8 p9 p10 p11 p12 p13 (IntKind.i64.wrap (p14 + 1)))))
                (fun h14 =>
                L.jump mixed 21 [0, 1, 2, 7, 8, 9, 10, 11, 12, 13, 14] (by kernel_rfl) (IH7 p7 p8 p9 p10 p11 p12 p13 (IntKind.i64.wrap (p14 + 1))))))))
          (fun h4 =>
          L.gu mixed 9 _ (by kernel_rfl)
            (fun h18 =>
            L.ret _ mixed Try.func4 _ (by kernel_rfl) rfl)
            (fun h18 =>
            L.gu mixed 2 _ (by kernel_rfl)
              (fun h19 =>
              L.gu mixed 4 _ (by kernel_rfl)
                (fun h20 =>
                L.ret _ mixed Try.func4 _ (by kernel_rfl) rfl)
                (fun h20 =>
                L.gu mixed 7 _ (by kernel_rfl)
                  (fun h21 =>
                  L.ret _ mixed Try.func4 _ (by kernel_rfl) rfl)
                  (fun h21 =>
                  L.gu mixed 3 _ (by kernel_rfl)
                    (fun h22 =>
                    L.gu mixed 3 _ (by kernel_rfl)
                      (fun h23 =>
                      L.ret _ mixed Try.func4 _ (by kernel_rfl) rfl)
                      (fun h23 =>
                      L.br mixed 6 _ (by kernel_rfl)
                        (fun h24 =>
                        L.ret _ mixed Try.func4 _ (by kernel_rfl) rfl)
                        (fun h24 =>
                        L.gu mixed 7 _ (by kernel_rfl)
                          (fun h25 =>
                          L.gu mixed 11 _ (by kernel_rfl)
                            (fun h26 =>
                            L.gu mixed 4 _ (by kernel_rfl)
                              (fun h27 =>
                              L.call mixed (awake_con) (by kernel_rfl) <|
                              L.ret _ mixed Try.func4 _ (by kernel_rfl) rfl)
                              (fun h27 =>
                              L.ret _ mixed Try.func4 _ (by kernel_rfl) rfl))
                            (fun h26 =>
                            L.ret _ mixed Try.func4 _ (by kernel_rfl) rfl))
                          (fun h25 =>
                          L.br mixed 4 _ (by kernel_rfl)
                            (fun h28 =>
                            L.gu mixed 6 _ (by kernel_rfl)
                              (fun h29 =>
                              L.gu mixed 4 _ (by kernel_rfl)
                                (fun h30 =>
                                L.call mixed (awake_con) (by kernel_rfl) <|
                                L.ret _ mixed Try.func4 _ (by kernel_rfl) rfl)
                                (fun h30 =>
                                L.ret _ mixed Try.func4 _ (by kernel_rfl) rfl))
                              (fun h29 =>
                              L.ret _ mixed Try.func4 _ (by kernel_rfl) rfl))
                            (fun h28 =>
                            L.gu mixed 7 _ (by kernel_rfl)
                              (fun h31 =>
                              L.ret _ mixed Try.func4 _ (by kernel_rfl) rfl)
                              (fun h31 =>
                              L.br mixed 6 _ (by kernel_rfl)
                                (fun h32 =>
                                L.ret _ mixed Try.func4 _ (by kernel_rfl) rfl)
                                (fun h32 =>
                                L.jump mixed 8 [0, 1, 7, 15] (by kernel_rfl) (IH21 p7 0))))))))
                    (fun h22 =>
                    L.gu mixed 17 _ (by kernel_rfl)
                      (fun h33 =>
                      L.gu mixed 11 _ (by kernel_rfl)
                        (fun h34 =>
                        L.gu mixed 4 _ (by kernel_rfl)
                          (fun h35 =>
                          L.call mixed (awake_con) (by kernel_rfl) <|
                          L.ret _ mixed Try.func4 _ (by kernel_rfl) rfl)
                          (fun h35 =>
                          L.ret _ mixed Try.func4 _ (by kernel_rfl) rfl))
                        (fun h34 =>
                        L.ret _ mixed Try.func4 _ (by kernel_rfl) rfl))
                      (fun h33 =>
                      L.br mixed 4 _ (by kernel_rfl)
                        (fun h36 =>
                        L.gu mixed 6 _ (by kernel_rfl)
                          (fun h37 =>
                          L.gu mixed 4 _ (by kernel_rfl)
                            (fun h38 =>
                            L.call mixed (awake_con) (by kernel_rfl) <|
                            L.ret _ mixed Try.func4 _ (by kernel_rfl) rfl)
                            (fun h38 =>
                            L.ret _ mixed Try.func4 _ (by kernel_rfl) rfl))
                          (fun h37 =>
                          L.ret _ mixed Try.func4 _ (by kernel_rfl) rfl))
                        (fun h36 =>
                        L.gu mixed 7 _ (by kernel_rfl)
                          (fun h39 =>
                          L.ret _ mixed Try.func4 _ (by kernel_rfl) rfl)
                          (fun h39 =>
                          L.br mixed 6 _ (by kernel_rfl)
                            (fun h40 =>
                            L.ret _ mixed Try.func4 _ (by kernel_rfl) rfl)
                            (fun h40 =>
                            L.jump mixed 8 [0, 1, 7, 15] (by kernel_rfl) (IH21 p7 0)))))))))
              (fun h19 =>
              L.gu mixed 14 _ (by kernel_rfl)
                (fun h41 =>
                L.gu mixed 3 _ (by kernel_rfl)
                  (fun h42 =>
                  L.ret _ mixed Try.func4 _ (by kernel_rfl) rfl)
                  (fun h42 =>
                  L.br mixed 6 _ (by kernel_rfl)
                    (fun h43 =>
                    L.ret _ mixed Try.func4 _ (by kernel_rfl) rfl)
                    (fun h43 =>
                    L.gu mixed 7 _ (by kernel_rfl)
                      (fun h44 =>
                      L.gu mixed 11 _ (by kernel_rfl)
                        (fun h45 =>
                        L.gu mixed 4 _ (by kernel_rfl)
                          (fun h46 =>
                          L.call mixed (awake_con) (by kernel_rfl) <|
                          L.ret _ mixed Try.func4 _ (by kernel_rfl) rfl)
                          (fun h46 =>
                          L.ret _ mixed Try.func4 _ (by kernel_rfl) rfl))
                        (fun h45 =>
                        L.ret _ mixed Try.func4 _ (by kernel_rfl) rfl))
                      (fun h44 =>
                      L.br mixed 4 _ (by kernel_rfl)
                        (fun h47 =>
                        L.gu mixed 6 _ (by kernel_rfl)
                          (fun h48 =>
                          L.gu mixed 4 _ (by kernel_rfl)
                            (fun h49 =>
                            L.call mixed (awake_con) (by kernel_rfl) <|
                            L.ret _ mixed Try.func4 _ (by kernel_rfl) rfl)
                            (fun h49 =>
                            L.ret _ mixed Try.func4 _ (by kernel_rfl) rfl))
                          (fun h48 =>
                          L.ret _ mixed Try.func4 _ (by kernel_rfl) rfl))
                        (fun h47 =>
                        L.gu mixed 7 _ (by kernel_rfl)
                          (fun h50 =>
                          L.ret _ mixed Try.func4 _ (by kernel_rfl) rfl)
                          (fun h50 =>
                          L.br mixed 6 _ (by kernel_rfl)
                            (fun h51 =>
                            L.ret _ mixed Try.func4 _ (by kernel_rfl) rfl)
                            (fun h51 =>
                            L.jump mixed 8 [0, 1, 7, 15] (by kernel_rfl) (IH21 p7 0))))))))
                (fun h41 =>
                L.gu mixed 17 _ (by kernel_rfl)
                  (fun h52 =>
                  L.gu mixed 11 _ (by kernel_rfl)
                    (fun h53 =>
                    L.gu mixed 4 _ (by kernel_rfl)
                      (fun h54 =>
                      L.call mixed (awake_con) (by kernel_rfl) <|
                      L.ret _ mixed Try.func4 _ (by kernel_rfl) rfl)
                      (fun h54 =>
                      L.ret _ mixed Try.func4 _ (by kernel_rfl) rfl))
                    (fun h53 =>
                    L.ret _ mixed Try.func4 _ (by kernel_rfl) rfl))
                  (fun h52 =>
                  L.br mixed 4 _ (by kernel_rfl)
                    (fun h55 =>
                    L.gu mixed 6 _ (by kernel_rfl)
                      (fun h56 =>
                      L.gu mixed 4 _ (by kernel_rfl)
                        (fun h57 =>
                        L.call mixed (awake_con) (by kernel_rfl) <|
                        L.ret _ mixed Try.func4 _ (by kernel_rfl) rfl)
                        (fun h57 =>
                        L.ret _ mixed Try.func4 _ (by kernel_rfl) rfl))
                      (fun h56 =>
                      L.ret _ mixed Try.func4 _ (by kernel_rfl) rfl))
                    (fun h55 =>
                    L.gu mixed 7 _ (by kernel_rfl)
                      (fun h58 =>
                      L.ret _ mixed Try.func4 _ (by kernel_rfl) rfl)
                      (fun h58 =>
                      L.br mixed 6 _ (by kernel_rfl)
                        (fun h59 =>
                        L.ret _ mixed Try.func4 _ (by kernel_rfl) rfl)
                        (fun h59 =>
                        L.jump mixed 8 [0, 1, 7, 15] (by kernel_rfl) (IH21 p7 0)))))))))
    · rw [FL40_AuditLoads_21]
      exact
        L.br mixed 7 _ (by kernel_rfl)
          (fun h60 =>
          L.idx mixed 7 _ (rows p7) 3 IntKind.i64 _ (by kernel_rfl) (fun h61a h61b =>
          L.ld mixed 0 38 (rows p7) (p15.toNat * 3 + 0) (.agg ⟨[.int .i64 (getR p7 p15.toNat).Claims, .int .i64 (getR p7 p15.toNat).Draws, .int .i64 (getR p7 p15.toNat).Thefts]⟩) (by kernel_rfl) (loadN_rows (i := p15.toNat) (d := 0) (k := 3) rfl (toNat_lt h61a h61b) (by kernel_rfl) (by kernel_rfl) (Nat.le_of_ble_eq_true (by kernel_rfl)) (by kernel_rfl)) <|
          L.callO mixed (fun u62 : Int => .int .i64 u62) (cR40_Many K a0 (IntKind.i64.wrap (p15 + 1)) 1) (by kernel_rfl) (fun u62 hu62 =>
          L.callO mixed (fun u63 : Int => .int .i64 u63) (cR40_Many K a0 (IntKind.i64.wrap (p15 + 1)) 2) (by kernel_rfl) (fun u63 hu63 =>
          L.callO mixed (fun u64 : Int => .int .i64 u64) (cR40_Many K a0 (IntKind.i64.wrap (p15 + 1)) 3) (by kernel_rfl) (fun u64 hu64 =>
          L.br mixed 3 _ (by kernel_rfl)
            (fun h65 =>
            L.ret _ mixed Try.func4 _ (by kernel_rfl) rfl)
            (fun h65 =>
            L.jump mixed 8 [0, 1, 7, 15] (by kernel_rfl) (IH21 p7 (IntKind.i64.wrap (p15 + 1)))))))))
          (fun h60 =>
          L.call mixed (awake_con) (by kernel_rfl) <|
          L.ret _ mixed Try.func4 _ (by kernel_rfl) rfl)
theorem cL40_AuditLoads (K : Nat) (a0 : List TEvent) (a1 : Int) (a2 : Int) : ∀ r, FL40_AuditLoads K a0 a1 a2 = some r → Con Try.prog 4 [lst a0, .int .i64 a1, .int .i64 a2] (EL40_AuditLoads r) := by
  obtain ⟨IH7, IH21⟩ := lL40_AuditLoads a0 a1 a2 K
  refine Con.lift Try.func4 (by kernel_rfl) rfl (fun _ => rfl) ?_
  unfold FL40_AuditLoads
  exact
    L.br mixed 11 _ (by kernel_rfl)
      (fun h1 =>
      L.call mixed (awake_con) (by kernel_rfl) <|
      L.ret _ mixed Try.func4 _ (by kernel_rfl) rfl)
      (fun h1 =>
      L.callO mixed (fun u2 : List TAuditLoad × Int => .tuple ⟨[lst u2.1, .int .i64 u2.2]⟩) (caudit_Loads K a0 a1) (by kernel_rfl) (fun u2 hu2 =>
      L.callO mixed (fun u3 : Int × Int × Bool => .tuple ⟨[.int .i64 u3.1, .int .i64 u3.2.1, .bool u3.2.2]⟩) (caudit_Span K a0 a2) (by kernel_rfl) (fun u3 hu3 =>
      L.jump mixed 20 [0, 1, 2, 7, 8, 9, 10, 11, 12, 13, 14] (by kernel_rfl) (IH7 u2.fst u2.snd u3.fst u3.snd.fst u3.snd.snd (-1) (-1) 0))))

end

end Go.Proofs.Ytdoabaohacfhjaa.Lf
