/- Lifted. -/
import Derived.Test.YtdmcdijlpnbghaaGreatDoorQI29
import Derived.Test.YtdmcdijlpnbghaaGreatDoorQI23
namespace Go.Proofs.YtdmcdijlpnbghaaGreatDoor.Lf
open Go Go.Dt Go.Proofs
set_option linter.unusedVariables false

/-! ### 72 -/
abbrev Epic_Right_1 : Bool → Value := fun r => .bool r
def Fpic_Right_1 (K : Nat) (a0 : Int) : Option Bool :=
  bif (decide (a0 < 0)) then
    some true
  else
    some (bif false then true else decide (a0 > 4294967295))
theorem cpic_Right_1 (K : Nat) (a0 : Int) : ∀ r, Fpic_Right_1 K a0 = some r → Con Tryz.prog 72 [.int .i64 a0] (Epic_Right_1 r) := by
  refine Con.lift Tryz.func72 (by kernel_rfl) rfl (fun _ => rfl) ?_
  unfold Fpic_Right_1
  exact
    L.gu mixed 9 _ (by kernel_rfl)
      (fun h1 =>
      L.ret _ mixed Tryz.func72 _ (by kernel_rfl) rfl)
      (fun h1 =>
      L.ret _ mixed Tryz.func72 _ (by kernel_rfl) rfl)
/-! ### 94 -/
abbrev Eslices_IndexFunc_pic_Right_1 : Int → Value := fun r => .int .i64 r
def Fslices_IndexFunc_pic_Right_1_2 (a0 : List Int) (a1 : Unit) : Nat → Int → Option Int
  | 0, _ => none
  | K + 1, p8 =>
    bif (decide (p8 < (↑a0.length : Int))) then
      bif inR p8 a0.length then
        (Fpic_Right_1 K (getR a0 p8.toNat)).bind fun u3 =>
        bif u3 then
          some p8
        else
          Fslices_IndexFunc_pic_Right_1_2 a0 a1 K (IntKind.i64.wrap (p8 + 1))
      else none
    else
      some (-1)
def Fslices_IndexFunc_pic_Right_1 (K : Nat) (a0 : List Int) (a1 : Unit) : Option Int :=
  Fslices_IndexFunc_pic_Right_1_2 a0 a1 K 0
def Hslices_IndexFunc_pic_Right_1_2 (fn : Func) (a0 : List Int) (a1 : Unit) (p8 : Int) : VS := headS fn 2 [(0, (lst a0)), (1, (Value.func (Fn.func (OfNat.ofNat 72)) (Array.mk []) (Array.mk []))), (7, (Value.int IntKind.i64 ((↑a0.length : Int)))), (8, .int .i64 p8)] []
theorem lslices_IndexFunc_pic_Right_1 (a0 : List Int) (a1 : Unit) : ∀ K : Nat, (∀ (p8 : Int), Lifts Tryz.prog 94 0 Eslices_IndexFunc_pic_Right_1 (Hslices_IndexFunc_pic_Right_1_2 Tryz.f94 a0 a1 p8) (Fslices_IndexFunc_pic_Right_1_2 a0 a1 K p8)) := by
  intro K
  induction K with
  | zero =>
    exact fun p8 => (by rw [Fslices_IndexFunc_pic_Right_1_2]; exact L.no)
  | succ K ih =>
    have IH2 := ih
    refine fun p8 => ?_
    · rw [Fslices_IndexFunc_pic_Right_1_2]
      exact
        L.br mixed 5 _ (by kernel_rfl)
          (fun h1 =>
          L.idx mixed 13 _ (rows a0) 1 IntKind.i64 _ (by kernel_rfl) (fun h2a h2b =>
          L.ld mixed 0 3 (rows a0) (p8.toNat * 1 + 0) (.int .i64 (getR a0 p8.toNat)) (by kernel_rfl) (load1_rows (i := p8.toNat) (d := 0) rfl (toNat_lt h2a h2b) (by kernel_rfl) (Nat.le_of_ble_eq_true (by kernel_rfl)) (by kernel_rfl)) <|
          L.callO mixed (fun u3 : Bool => .bool u3) (cpic_Right_1 K (getR a0 p8.toNat)) (by kernel_rfl) (fun u3 hu3 =>
          L.br mixed 1 _ (by kernel_rfl)
            (fun h4 =>
            L.ret _ mixed Tryz.func94 _ (by kernel_rfl) rfl)
            (fun h4 =>
            L.jump mixed 7 [0, 1, 7, 8] (by kernel_rfl) (IH2 (IntKind.i64.wrap (p8 + 1)))))))
          (fun h1 =>
          L.ret _ mixed Tryz.func94 _ (by kernel_rfl) rfl)
theorem cslices_IndexFunc_pic_Right_1 (K : Nat) (a0 : List Int) (a1 : Unit) : ∀ r, Fslices_IndexFunc_pic_Right_1 K a0 a1 = some r → Con Tryz.prog 94 [lst a0, .func (.func 72) ⟨[]⟩ ⟨[]⟩] (Eslices_IndexFunc_pic_Right_1 r) := by
  have IH2 := lslices_IndexFunc_pic_Right_1 a0 a1 K
  refine Con.lift Tryz.func94 (by kernel_rfl) rfl (fun _ => rfl) ?_
  unfold Fslices_IndexFunc_pic_Right_1
  exact
    L.jump mixed 13 [0, 1, 7, 8] (by kernel_rfl) (IH2 0)
/-! ### 71 -/
abbrev Eslices_ContainsFunc_pic_Right_1 : Bool → Value := fun r => .bool r
def Fslices_ContainsFunc_pic_Right_1 (K : Nat) (a0 : List Int) (a1 : Unit) : Option Bool :=
  (Fslices_IndexFunc_pic_Right_1 K a0 ()).bind fun u1 =>
  some (decide (u1 ≥ 0))
theorem cslices_ContainsFunc_pic_Right_1 (K : Nat) (a0 : List Int) (a1 : Unit) : ∀ r, Fslices_ContainsFunc_pic_Right_1 K a0 a1 = some r → Con Tryz.prog 71 [lst a0, .func (.func 72) ⟨[]⟩ ⟨[]⟩] (Eslices_ContainsFunc_pic_Right_1 r) := by
  refine Con.lift Tryz.func71 (by kernel_rfl) rfl (fun _ => rfl) ?_
  unfold Fslices_ContainsFunc_pic_Right_1
  exact
    L.callO mixed (fun u1 : Int => .int .i64 u1) (cslices_IndexFunc_pic_Right_1 K a0 ()) (by kernel_rfl) (fun u1 hu1 =>
    L.ret _ mixed Tryz.func71 _ (by kernel_rfl) rfl)
/-! ### 53 -/
abbrev Epic_Right : Bool → Value := fun r => .bool r
def Fpic_Right (K : Nat) (a0 : TImage) : Option Bool :=
  bif (decide (a0.W < 0)) then
    some false
  else
    bif (bif false then true else decide (a0.W > 256)) then
      some false
    else
      bif (bif false then true else decide (a0.H < 0)) then
        some false
      else
        bif (bif false then true else decide (a0.H > 256)) then
          some false
        else
          bif (bif false then true else (↑a0.L.length : Int) != IntKind.i64.wrap (a0.W * a0.H)) then
            some false
          else
            (Fslices_ContainsFunc_pic_Right_1 K a0.L ()).bind fun u6 =>
            some !u6
theorem cpic_Right (K : Nat) (a0 : TImage) : ∀ r, Fpic_Right K a0 = some r → Con Tryz.prog 53 [.agg ⟨[.int .i64 a0.W, .int .i64 a0.H, lst a0.L]⟩] (Epic_Right r) := by
  refine Con.lift Tryz.func53 (by kernel_rfl) rfl (fun _ => rfl) ?_
  unfold Fpic_Right
  exact
    L.gu mixed 12 _ (by kernel_rfl)
      (fun h1 =>
      L.ret _ mixed Tryz.func53 _ (by kernel_rfl) rfl)
      (fun h1 =>
      L.gu mixed 5 _ (by kernel_rfl)
        (fun h2 =>
        L.ret _ mixed Tryz.func53 _ (by kernel_rfl) rfl)
        (fun h2 =>
        L.gu mixed 5 _ (by kernel_rfl)
          (fun h3 =>
          L.ret _ mixed Tryz.func53 _ (by kernel_rfl) rfl)
          (fun h3 =>
          L.gu mixed 5 _ (by kernel_rfl)
            (fun h4 =>
            L.ret _ mixed Tryz.func53 _ (by kernel_rfl) rfl)
            (fun h4 =>
            L.br mixed 11 _ (by kernel_rfl)
              (fun h5 =>
              L.ret _ mixed Tryz.func53 _ (by kernel_rfl) rfl)
              (fun h5 =>
              L.callO mixed (fun u6 : Bool => .bool u6) (cslices_ContainsFunc_pic_Right_1 K a0.L ()) (by kernel_rfl) (fun u6 hu6 =>
              L.ret _ mixed Tryz.func53 _ (by kernel_rfl) rfl))))))
end Go.Proofs.YtdmcdijlpnbghaaGreatDoor.Lf
