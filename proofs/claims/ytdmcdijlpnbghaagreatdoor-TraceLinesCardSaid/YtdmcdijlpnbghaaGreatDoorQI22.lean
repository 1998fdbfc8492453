/- Several texts in one: EVf, EVg. -/
import Derived.Test.YtdmcdijlpnbghaaGreatDoorQI18
import Derived.Test.YtdmcdijlpnbghaaGreatDoorQI21
namespace Go.Proofs.YtdmcdijlpnbghaaGreatDoor.Lf

section
open Go Go.Dt Go.Proofs
set_option linter.unusedVariables false

/-! ### 89 -/
abbrev Eslices_Reverse : Unit × (List U8) → Value := fun r => .tuple ⟨[]⟩
abbrev Mslices_Reverse : Unit × (List U8) → List Blk := fun r => [ownB r.2]
def Fslices_Reverse_1 (a0 : List U8) : Nat → (List U8) → Int → Int → Option (Unit × (List U8))
  | 0, _, _, _ => none
  | K + 1, p0, p2, p3 =>
    bif (decide (p2 < p3)) then
      bif inR p3 p0.length then
        bif inR p2 p0.length then
          bif inR p2 p0.length then
            bif inR p3 p0.length then
              Fslices_Reverse_1 a0 K ((p0.set p2.toNat (U8.mk (getR p0 p3.toNat).n)).set p3.toNat (U8.mk (getR p0 p2.toNat).n)) (IntKind.i64.wrap (p2 + 1)) (IntKind.i64.wrap (p3 - 1))
            else none
          else none
        else none
      else none
    else
      some ((), p0)
def Fslices_Reverse (K : Nat) (a0 : List U8) : Option (Unit × (List U8)) :=
  Fslices_Reverse_1 a0 K a0 0 (IntKind.i64.wrap ((↑a0.length : Int) - 1))
def Hslices_Reverse_10O (fn : Func) (a0 : List U8) (np0 : Nat) (p0 : List U8) (p2 : Int) (p3 : Int) : VS := headS fn 1 [(0, .slice (some ⟨0, 0, none⟩) np0 np0), (2, .int .i64 p2), (3, .int .i64 p3)] [ownB p0]
theorem lslices_Reverse (a0 : List U8) : ∀ K : Nat, (∀ (np0 : Nat) (p0 : List U8) (_ : np0 = p0.length) (p2 : Int) (p3 : Int), LiftsM Tryz.prog 89 1 Eslices_Reverse Mslices_Reverse (Hslices_Reverse_10O Tryz.f89 a0 np0 p0 p2 p3) (Fslices_Reverse_1 a0 K p0 p2 p3)) := by
  intro K
  induction K with
  | zero =>
    exact fun np0 p0 ep0 p2 p3 => (by rw [Fslices_Reverse_1]; exact LM.no)
  | succ K ih =>
    have IH10O := ih
    refine fun np0 p0 ep0 p2 p3 => ?_
    · subst ep0; rw [Fslices_Reverse_1]
      exact
        LM.br mixed 7 _ (by kernel_rfl)
          (fun h1 =>
          LM.oidx mixed 10 0 0 _ 1 IntKind.i64 _ (by kernel_rfl) (fun h2a h2b =>
          LM.old1 mixed 0 1 0 (0 + p3.toNat * 1) (rows p0) (.int .u8 (getR p0 p3.toNat).n) (by kernel_rfl) (rows_sub1 (i := p3.toNat) (d := 0) (by show 0 + p3.toNat * 1 = p3.toNat * 1 + 0; omega) (by have := (toNat_lt h2a h2b); simpa using this) (Nat.le_of_ble_eq_true (by kernel_rfl)) (by kernel_rfl)) <|
          LM.oidx mixed 2 0 0 _ 1 IntKind.i64 _ (by kernel_rfl) (fun h3a h3b =>
          LM.old1 mixed 0 1 0 (0 + p2.toNat * 1) (rows p0) (.int .u8 (getR p0 p2.toNat).n) (by kernel_rfl) (rows_sub1 (i := p2.toNat) (d := 0) (by show 0 + p2.toNat * 1 = p2.toNat * 1 + 0; omega) (by have := (toNat_lt h3a h3b); simpa using this) (Nat.le_of_ble_eq_true (by kernel_rfl)) (by kernel_rfl)) <|
          LM.oidx mixed 0 0 0 _ 1 IntKind.i64 _ (by kernel_rfl) (fun h4a h4b =>
          LM.ost mixed 0 (Value.int IntKind.u8 ((getR p0 p3.toNat).n)) 1 0 (0 + p2.toNat * 1) (rows p0) (rows (p0.set p2.toNat ((⟨(getR p0 p3.toNat).n⟩ : U8)))) 1 (by kernel_rfl) rfl rfl (rows_fitN (i := p2.toNat) (d := 0) (by show 0 + p2.toNat * 1 = p2.toNat * 1 + 0; omega) (by have := (toNat_lt h4a h4b); simpa using this) (Nat.le_of_ble_eq_true (by kernel_rfl))) (rows_setF _ p2.toNat 0 _ _ _ (by show 0 + p2.toNat * 1 = p2.toNat * 1 + 0; omega) (by have := (toNat_lt h4a h4b); simpa using this) (Nat.le_of_ble_eq_true (by kernel_rfl)) (by kernel_rfl)) <|
          LM.oidx mixed 0 0 0 _ 1 IntKind.i64 _ (by kernel_rfl) (fun h5a h5b =>
          LM.ost mixed 0 (Value.int IntKind.u8 ((getR p0 p2.toNat).n)) 1 0 (0 + p3.toNat * 1) (rows (p0.set p2.toNat (U8.mk (getR p0 p3.toNat).n))) (rows ((p0.set p2.toNat (U8.mk (getR p0 p3.toNat).n)).set p3.toNat ((⟨(getR p0 p2.toNat).n⟩ : U8)))) 1 (by kernel_rfl) rfl rfl (rows_fitN (i := p3.toNat) (d := 0) (by show 0 + p3.toNat * 1 = p3.toNat * 1 + 0; omega) (by have := (toNat_lt h5a h5b); simpa using this) (Nat.le_of_ble_eq_true (by kernel_rfl))) (rows_setF _ p3.toNat 0 _ _ _ (by show 0 + p3.toNat * 1 = p3.toNat * 1 + 0; omega) (by have := (toNat_lt h5a h5b); simpa using this) (Nat.le_of_ble_eq_true (by kernel_rfl)) (by kernel_rfl)) <|
          LM.jump mixed 11 [0, 2, 3] (by kernel_rfl) (IH10O p0.length ((p0.set p2.toNat (U8.mk (getR p0 p3.toNat).n)).set p3.toNat (U8.mk (getR p0 p2.toNat).n)) (by first | rfl | exact Eq.symm (by assumption) | (simp; done) | (simp [*]; done)) (IntKind.i64.wrap (p2 + 1)) (IntKind.i64.wrap (p3 - 1))))))))
          (fun h1 =>
          LM.ret _ mixed Tryz.func89 _ (by kernel_rfl) rfl (by kernel_rfl))
theorem cslices_Reverse (K : Nat) (a0 : List U8) : ∀ r, Fslices_Reverse K a0 = some r → ConM Tryz.prog 89 [.slice (some ⟨0, 0, none⟩) a0.length a0.length] [ownB a0] (Eslices_Reverse r) (Mslices_Reverse r) := by
  have IH10O := lslices_Reverse a0 K
  refine ConM.liftM Tryz.func89 (by kernel_rfl) ?_
  unfold Fslices_Reverse
  exact
    LM.jump mixed 10 [0, 2, 3] (by kernel_rfl) (IH10O a0.length a0 (by first | rfl | exact Eq.symm (by assumption) | (simp; done) | (simp [*]; done)) 0 (IntKind.i64.wrap ((↑a0.length : Int) - 1)))

end

section
open Go Go.Dt Go.Proofs
set_option linter.unusedVariables false

theorem lenRev (a0 : List U8) : ∀ (K : Nat) (p : List U8) (i j : Int) (u : Unit × List U8), Fslices_Reverse_1 a0 K p i j = some u → u.2.length = p.length
  | 0, p, i, j, u, h => by rw [Fslices_Reverse_1] at h; cases h
  | K + 1, p, i, j, u, h => by
    rw [Fslices_Reverse_1] at h
    cases h1 : decide (i < j) with
    | false => rw [h1] at h; cases h; rfl
    | true =>
      rw [h1] at h
      simp only [cond_true] at h
      cases h2 : inR j p.length with
      | false => rw [h2] at h; cases h
      | true =>
        cases h3 : inR i p.length with
        | false => rw [h2, h3] at h; cases h
        | true =>
          simp only [h2, h3, cond_true] at h
          have := lenRev a0 K _ _ _ u h
          simpa using this
theorem lenslices_Reverse {K : Nat} {a0 : List U8} {u : Unit × List U8} (h : Fslices_Reverse K a0 = some u) : u.2.length = a0.length := lenRev a0 K a0 _ _ u h

end

end Go.Proofs.YtdmcdijlpnbghaaGreatDoor.Lf
