/- Several texts in one: Pn, Pp, Pq. -/
import Derived.Test.YtllcomjnmkcdpaaDoorQE21
import Derived.Test.YtllcomjnmkcdpaaDoorQE29
import Derived.Test.YtllcomjnmkcdpaaDoorQE27
import Derived.Test.YtllcomjnmkcdpaaDoorQE28
namespace Go.Proofs.YtllcomjnmkcdpaaDoor.Lf

section
open Go Go.Dt Go.Proofs
set_option linter.unusedVariables false

/-! ### 15 -/
abbrev Epic_Crop : TImage × Int → Value := fun r => .tuple ⟨[.agg ⟨[.int .i64 r.1.W, .int .i64 r.1.H, lst r.1.L]⟩, .int .i64 r.2]⟩
def Fpic_Crop_7 (a0 : TImage) (a1 : TRect) : Nat → (List Int) → Int → Option (TImage × Int)
  | 0, _, _ => none
  | K + 1, p6, p7 =>
    bif (decide (p7 < a1.Y1)) then
      bif cutOk a0.L.length ((some (IntKind.i64.wrap (IntKind.i64.wrap (p7 * a0.W) + a1.X0))).getD 0) ((some (IntKind.i64.wrap (IntKind.i64.wrap (p7 * a0.W) + a1.X1))).getD a0.L.length) then
        bif List.isEmpty (List.take (((some (IntKind.i64.wrap (IntKind.i64.wrap (p7 * a0.W) + a1.X1))).getD (↑a0.L.length : Int)).toNat - ((some (IntKind.i64.wrap (IntKind.i64.wrap (p7 * a0.W) + a1.X0))).getD 0).toNat) (List.drop ((some (IntKind.i64.wrap (IntKind.i64.wrap (p7 * a0.W) + a1.X0))).getD 0).toNat a0.L)) then
          Fpic_Crop_7 a0 a1 K p6 (IntKind.i64.wrap (p7 + 1))
        else bif room (p6.length + (List.take (((some (IntKind.i64.wrap (IntKind.i64.wrap (p7 * a0.W) + a1.X1))).getD (↑a0.L.length : Int)).toNat - ((some (IntKind.i64.wrap (IntKind.i64.wrap (p7 * a0.W) + a1.X0))).getD 0).toNat) (List.drop ((some (IntKind.i64.wrap (IntKind.i64.wrap (p7 * a0.W) + a1.X0))).getD 0).toNat a0.L)).length) 8 then
          Fpic_Crop_7 a0 a1 K (p6 ++ List.take (((some (IntKind.i64.wrap (IntKind.i64.wrap (p7 * a0.W) + a1.X1))).getD (↑a0.L.length : Int)).toNat - ((some (IntKind.i64.wrap (IntKind.i64.wrap (p7 * a0.W) + a1.X0))).getD 0).toNat) (List.drop ((some (IntKind.i64.wrap (IntKind.i64.wrap (p7 * a0.W) + a1.X0))).getD 0).toNat a0.L)) (IntKind.i64.wrap (p7 + 1))
        else none
      else none
    else
      some (((⟨IntKind.i64.wrap (a1.X1 - a1.X0), IntKind.i64.wrap (a1.Y1 - a1.Y0), p6⟩ : TImage), 0))
def Fpic_Crop (K : Nat) (a0 : TImage) (a1 : TRect) : Option (TImage × Int) :=
  (Fpic_Right K a0).bind fun u1 =>
  bif !u1 then
    some (((⟨0, 0, ([] : List Int)⟩ : TImage), 6))
  else
    bif (decide (a1.X0 < 0)) then
      some (((⟨0, 0, ([] : List Int)⟩ : TImage), 12))
    else
      bif (bif false then true else decide (a1.X1 < a1.X0)) then
        some (((⟨0, 0, ([] : List Int)⟩ : TImage), 12))
      else
        bif (bif false then true else decide (a1.X1 > a0.W)) then
          some (((⟨0, 0, ([] : List Int)⟩ : TImage), 12))
        else
          bif (bif false then true else decide (a1.Y0 < 0)) then
            some (((⟨0, 0, ([] : List Int)⟩ : TImage), 12))
          else
            bif (bif false then true else decide (a1.Y1 < a1.Y0)) then
              some (((⟨0, 0, ([] : List Int)⟩ : TImage), 12))
            else
              bif (bif false then true else decide (a1.Y1 > a0.H)) then
                some (((⟨0, 0, ([] : List Int)⟩ : TImage), 12))
              else
                Fpic_Crop_7 a0 a1 K [] a1.Y0
def Hpic_Crop_76N (fn : Func) (a0 : TImage) (a1 : TRect) (p7 : Int) : VS := headS fn 7 [(2, (frp [(Value.int IntKind.i64 a0.W), (Value.int IntKind.i64 a0.H), (lst a0.L)] 0)), (3, (frp [(Value.int IntKind.i64 a1.X0), (Value.int IntKind.i64 a1.Y0), (Value.int IntKind.i64 a1.X1), (Value.int IntKind.i64 a1.Y1)] 0)), (4, .pointer (some ⟨0, 0, none⟩)), (6, .pointer (some ⟨1, 0, none⟩)), (7, .int .i64 p7)] [.cells [(Value.int IntKind.i64 0), (Value.int IntKind.i64 0), .slice none 0 0] 0 true, .cells [(Value.int IntKind.i64 (IntKind.i64.wrap (a1.X1 - a1.X0))), (Value.int IntKind.i64 (IntKind.i64.wrap (a1.Y1 - a1.Y0))), .slice none 0 0] 0 true]
def Hpic_Crop_76O (fn : Func) (a0 : TImage) (a1 : TRect) (np6 : Nat) (p6 : List Int) (p7 : Int) : VS := headS fn 7 [(2, (frp [(Value.int IntKind.i64 a0.W), (Value.int IntKind.i64 a0.H), (lst a0.L)] 0)), (3, (frp [(Value.int IntKind.i64 a1.X0), (Value.int IntKind.i64 a1.Y0), (Value.int IntKind.i64 a1.X1), (Value.int IntKind.i64 a1.Y1)] 0)), (4, .pointer (some ⟨0, 0, none⟩)), (6, .pointer (some ⟨2, 0, none⟩)), (7, .int .i64 p7)] [.cells [(Value.int IntKind.i64 0), (Value.int IntKind.i64 0), .slice none 0 0] 0 true, ownB p6, .cells [(Value.int IntKind.i64 (IntKind.i64.wrap (a1.X1 - a1.X0))), (Value.int IntKind.i64 (IntKind.i64.wrap (a1.Y1 - a1.Y0))), .slice (some ⟨1, 0, none⟩) np6 np6] 0 true]
theorem lpic_Crop (a0 : TImage) (a1 : TRect) : ∀ K : Nat, (∀ (p7 : Int), Lifts Tryd.prog 15 0 Epic_Crop (Hpic_Crop_76N Tryd.f15 a0 a1 p7) (Fpic_Crop_7 a0 a1 K [] p7)) ∧ (∀ (np6 : Nat) (p6 : List Int) (_ : np6 = p6.length) (p7 : Int), Lifts Tryd.prog 15 0 Epic_Crop (Hpic_Crop_76O Tryd.f15 a0 a1 np6 p6 p7) (Fpic_Crop_7 a0 a1 K p6 p7)) := by
  intro K
  induction K with
  | zero =>
    exact ⟨fun p7 => (by rw [Fpic_Crop_7]; exact L.no), fun np6 p6 ep6 p7 => (by rw [Fpic_Crop_7]; exact L.no)⟩
  | succ K ih =>
    obtain ⟨IH76N, IH76O⟩ := ih
    refine ⟨fun p7 => ?_, fun np6 p6 ep6 p7 => ?_⟩
    · rw [Fpic_Crop_7]
      exact
        L.ld mixed 5 3 [(Value.int IntKind.i64 a1.X0), (Value.int IntKind.i64 a1.Y0), (Value.int IntKind.i64 a1.X1), (Value.int IntKind.i64 a1.Y1)] 3 ((Value.int IntKind.i64 a1.Y1)) (by kernel_rfl) (by kernel_rfl) <|
        L.br mixed 2 _ (by kernel_rfl)
          (fun h9 =>
          L.ld mixed 7 22 [(Value.int IntKind.i64 a0.W), (Value.int IntKind.i64 a0.H), (lst a0.L)] 2 ((lst a0.L)) (by kernel_rfl) (by kernel_rfl) <|
          L.ld mixed 2 3 [(Value.int IntKind.i64 a0.W), (Value.int IntKind.i64 a0.H), (lst a0.L)] 0 ((Value.int IntKind.i64 a0.W)) (by kernel_rfl) (by kernel_rfl) <|
          L.ld mixed 2 3 [(Value.int IntKind.i64 a1.X0), (Value.int IntKind.i64 a1.Y0), (Value.int IntKind.i64 a1.X1), (Value.int IntKind.i64 a1.Y1)] 0 ((Value.int IntKind.i64 a1.X0)) (by kernel_rfl) (by kernel_rfl) <|
          L.ld mixed 3 3 [(Value.int IntKind.i64 a0.W), (Value.int IntKind.i64 a0.H), (lst a0.L)] 0 ((Value.int IntKind.i64 a0.W)) (by kernel_rfl) (by kernel_rfl) <|
          L.ld mixed 2 3 [(Value.int IntKind.i64 a1.X0), (Value.int IntKind.i64 a1.Y0), (Value.int IntKind.i64 a1.X1), (Value.int IntKind.i64 a1.Y1)] 2 ((Value.int IntKind.i64 a1.X1)) (by kernel_rfl) (by kernel_rfl) <|
          L.sl mixed 1 a0.L (some (IntKind.i64.wrap (IntKind.i64.wrap (p7 * a0.W) + a1.X0))) (some (IntKind.i64.wrap (IntKind.i64.wrap (p7 * a0.W) + a1.X1))) (by kernel_rfl) <|
          L.catN (α := Int) mixed 0 8 (List.take (((some (IntKind.i64.wrap (IntKind.i64.wrap (p7 * a0.W) + a1.X1))).getD (↑a0.L.length : Int)).toNat - ((some (IntKind.i64.wrap (IntKind.i64.wrap (p7 * a0.W) + a1.X0))).getD 0).toNat) (List.drop ((some (IntKind.i64.wrap (IntKind.i64.wrap (p7 * a0.W) + a1.X0))).getD 0).toNat a0.L)) (by kernel_rfl)
            (fun h10 =>
            L.jump mixed 10 [2, 3, 4, 6, 7] (by kernel_rfl) (IH76N (IntKind.i64.wrap (p7 + 1))))
            (fun h10 =>
            L.jumpG mixed 10 [2, 3, 4, 6, 7] [.own 0, .ownp 2, .own 1] [rows (List.take (((some (IntKind.i64.wrap (IntKind.i64.wrap (p7 * a0.W) + a1.X1))).getD (↑a0.L.length : Int)).toNat - ((some (IntKind.i64.wrap (IntKind.i64.wrap (p7 * a0.W) + a1.X0))).getD 0).toNat) (List.drop ((some (IntKind.i64.wrap (IntKind.i64.wrap (p7 * a0.W) + a1.X0))).getD 0).toNat a0.L))] (by kernel_rfl) (by kernel_rfl) (by kernel_rfl) ⟨rows_pure _, trivial⟩ (by kernel_rfl) (by kernel_rfl) (IH76O ((List.take (((some (IntKind.i64.wrap (IntKind.i64.wrap (p7 * a0.W) + a1.X1))).getD (↑a0.L.length : Int)).toNat - ((some (IntKind.i64.wrap (IntKind.i64.wrap (p7 * a0.W) + a1.X0))).getD 0).toNat) (List.drop ((some (IntKind.i64.wrap (IntKind.i64.wrap (p7 * a0.W) + a1.X0))).getD 0).toNat a0.L)).length) (List.take (((some (IntKind.i64.wrap (IntKind.i64.wrap (p7 * a0.W) + a1.X1))).getD (↑a0.L.length : Int)).toNat - ((some (IntKind.i64.wrap (IntKind.i64.wrap (p7 * a0.W) + a1.X0))).getD 0).toNat) (List.drop ((some (IntKind.i64.wrap (IntKind.i64.wrap (p7 * a0.W) + a1.X0))).getD 0).toNat a0.L)) (by first | rfl | exact Eq.symm (by assumption) | (simp; done) | (simp [*]; done)) (IntKind.i64.wrap (p7 + 1)))))
          (fun h9 =>
          L.retN _ mixed Tryd.func15 (by kernel_rfl))
    · subst ep6; rw [Fpic_Crop_7]
      exact
        L.ld mixed 5 3 [(Value.int IntKind.i64 a1.X0), (Value.int IntKind.i64 a1.Y0), (Value.int IntKind.i64 a1.X1), (Value.int IntKind.i64 a1.Y1)] 3 ((Value.int IntKind.i64 a1.Y1)) (by kernel_rfl) (by kernel_rfl) <|
        L.br mixed 2 _ (by kernel_rfl)
          (fun h11 =>
          L.ld mixed 7 22 [(Value.int IntKind.i64 a0.W), (Value.int IntKind.i64 a0.H), (lst a0.L)] 2 ((lst a0.L)) (by kernel_rfl) (by kernel_rfl) <|
          L.ld mixed 2 3 [(Value.int IntKind.i64 a0.W), (Value.int IntKind.i64 a0.H), (lst a0.L)] 0 ((Value.int IntKind.i64 a0.W)) (by kernel_rfl) (by kernel_rfl) <|
          L.ld mixed 2 3 [(Value.int IntKind.i64 a1.X0), (Value.int IntKind.i64 a1.Y0), (Value.int IntKind.i64 a1.X1), (Value.int IntKind.i64 a1.Y1)] 0 ((Value.int IntKind.i64 a1.X0)) (by kernel_rfl) (by kernel_rfl) <|
          L.ld mixed 3 3 [(Value.int IntKind.i64 a0.W), (Value.int IntKind.i64 a0.H), (lst a0.L)] 0 ((Value.int IntKind.i64 a0.W)) (by kernel_rfl) (by kernel_rfl) <|
          L.ld mixed 2 3 [(Value.int IntKind.i64 a1.X0), (Value.int IntKind.i64 a1.Y0), (Value.int IntKind.i64 a1.X1), (Value.int IntKind.i64 a1.Y1)] 2 ((Value.int IntKind.i64 a1.X1)) (by kernel_rfl) (by kernel_rfl) <|
          L.sl mixed 1 a0.L (some (IntKind.i64.wrap (IntKind.i64.wrap (p7 * a0.W) + a1.X0))) (some (IntKind.i64.wrap (IntKind.i64.wrap (p7 * a0.W) + a1.X1))) (by kernel_rfl) <|
          L.catO (α := Int) mixed 0 1 8 p6.length p6 (List.take (((some (IntKind.i64.wrap (IntKind.i64.wrap (p7 * a0.W) + a1.X1))).getD (↑a0.L.length : Int)).toNat - ((some (IntKind.i64.wrap (IntKind.i64.wrap (p7 * a0.W) + a1.X0))).getD 0).toNat) (List.drop ((some (IntKind.i64.wrap (IntKind.i64.wrap (p7 * a0.W) + a1.X0))).getD 0).toNat a0.L)) (by first | rfl | exact Eq.symm (by assumption) | (simp; done) | (simp [*]; done)) (by kernel_rfl) (by kernel_rfl)
            (fun h12 =>
            L.jump mixed 10 [2, 3, 4, 6, 7] (by kernel_rfl) (IH76O p6.length p6 (by first | rfl | exact Eq.symm (by assumption) | (simp; done) | (simp [*]; done)) (IntKind.i64.wrap (p7 + 1))))
            (fun h12 =>
            L.jumpG mixed 10 [2, 3, 4, 6, 7] [.own 0, .ownp 3, .own 2] [rows (p6 ++ List.take (((some (IntKind.i64.wrap (IntKind.i64.wrap (p7 * a0.W) + a1.X1))).getD (↑a0.L.length : Int)).toNat - ((some (IntKind.i64.wrap (IntKind.i64.wrap (p7 * a0.W) + a1.X0))).getD 0).toNat) (List.drop ((some (IntKind.i64.wrap (IntKind.i64.wrap (p7 * a0.W) + a1.X0))).getD 0).toNat a0.L))] (by kernel_rfl) (by kernel_rfl) (by kernel_rfl) ⟨rows_pure _, trivial⟩ (by kernel_rfl) (by kernel_rfl) (IH76O ((p6 ++ List.take (((some (IntKind.i64.wrap (IntKind.i64.wrap (p7 * a0.W) + a1.X1))).getD (↑a0.L.length : Int)).toNat - ((some (IntKind.i64.wrap (IntKind.i64.wrap (p7 * a0.W) + a1.X0))).getD 0).toNat) (List.drop ((some (IntKind.i64.wrap (IntKind.i64.wrap (p7 * a0.W) + a1.X0))).getD 0).toNat a0.L)).length) (p6 ++ List.take (((some (IntKind.i64.wrap (IntKind.i64.wrap (p7 * a0.W) + a1.X1))).getD (↑a0.L.length : Int)).toNat - ((some (IntKind.i64.wrap (IntKind.i64.wrap (p7 * a0.W) + a1.X0))).getD 0).toNat) (List.drop ((some (IntKind.i64.wrap (IntKind.i64.wrap (p7 * a0.W) + a1.X0))).getD 0).toNat a0.L)) (by first | rfl | exact Eq.symm (by assumption) | (simp; done) | (simp [*]; done)) (IntKind.i64.wrap (p7 + 1)))))
          (fun h11 =>
          L.frzM mixed 7 0 1 p6.length 0 [(Value.int IntKind.i64 (IntKind.i64.wrap (a1.X1 - a1.X0))), (Value.int IntKind.i64 (IntKind.i64.wrap (a1.Y1 - a1.Y0)))] [] p6 (by first | rfl | exact Eq.symm (by assumption) | (simp; done) | (simp [*]; done)) rfl (by kernel_rfl) (by kernel_rfl) (by kernel_rfl) <|
          L.ret _ mixed Tryd.func15 _ (by kernel_rfl) rfl)
theorem cpic_Crop (K : Nat) (a0 : TImage) (a1 : TRect) : ∀ r, Fpic_Crop K a0 a1 = some r → Con Tryd.prog 15 [.agg ⟨[.int .i64 a0.W, .int .i64 a0.H, lst a0.L]⟩, .agg ⟨[.int .i64 a1.X0, .int .i64 a1.Y0, .int .i64 a1.X1, .int .i64 a1.Y1]⟩] (Epic_Crop r) := by
  obtain ⟨IH76N, IH76O⟩ := lpic_Crop a0 a1 K
  refine Con.lift Tryd.func15 (by kernel_rfl) rfl (fun _ => rfl) ?_
  unfold Fpic_Crop
  exact
    L.callO mixed (fun u1 : Bool => .bool u1) (cpic_Right K a0) (by kernel_rfl) (fun u1 hu1 =>
    L.br mixed 3 _ (by kernel_rfl)
      (fun h2 =>
      L.retN _ mixed Tryd.func15 (by kernel_rfl))
      (fun h2 =>
      L.gu mixed 6 _ (by kernel_rfl)
        (fun h3 =>
        L.retN _ mixed Tryd.func15 (by kernel_rfl))
        (fun h3 =>
        L.gu mixed 7 _ (by kernel_rfl)
          (fun h4 =>
          L.retN _ mixed Tryd.func15 (by kernel_rfl))
          (fun h4 =>
          L.gu mixed 7 _ (by kernel_rfl)
            (fun h5 =>
            L.retN _ mixed Tryd.func15 (by kernel_rfl))
            (fun h5 =>
            L.gu mixed 5 _ (by kernel_rfl)
              (fun h6 =>
              L.retN _ mixed Tryd.func15 (by kernel_rfl))
              (fun h6 =>
              L.gu mixed 7 _ (by kernel_rfl)
                (fun h7 =>
                L.retN _ mixed Tryd.func15 (by kernel_rfl))
                (fun h7 =>
                L.br mixed 8 _ (by kernel_rfl)
                  (fun h8 =>
                  L.retN _ mixed Tryd.func15 (by kernel_rfl))
                  (fun h8 =>
                  L.frzP mixed 26 3 1 0 0 [(Value.int IntKind.i64 a1.X0), (Value.int IntKind.i64 a1.Y0), (Value.int IntKind.i64 a1.X1), (Value.int IntKind.i64 a1.Y1)] (by kernel_rfl) (by kernel_rfl) (by kernel_rfl) (by kernel_rfl) <|
                  L.frzP mixed 0 2 0 0 0 [(Value.int IntKind.i64 a0.W), (Value.int IntKind.i64 a0.H), (lst a0.L)] (by kernel_rfl) (by kernel_rfl) (by kernel_rfl) (by kernel_rfl) <|
                  L.jumpG mixed 1 [2, 3, 4, 6, 7] [.own 2, .own 3] [] (by kernel_rfl) (by kernel_rfl) (by kernel_rfl) trivial (by kernel_rfl) (by kernel_rfl) (IH76N a1.Y0)))))))))

end

section
open Go Go.Dt Go.Proofs
set_option linter.unusedVariables false

/-! ### 5 -/
abbrev EL36_PicCrops : Bool → Value := fun r => .bool r
def FL36_PicCrops_15 (a0 : TImage) (a1 : TRect) (a2 : TPoint) : Nat → TImage → Int → Option Bool
  | 0, _, _ => none
  | K + 1, p7, p12 =>
    bif (decide (p12 < (↑p7.L.length : Int))) then
      bif inR p12 p7.L.length then
        bif p7.W != 0 then
          bif p7.W != 0 then
            bif inR (IntKind.i64.wrap (IntKind.i64.wrap (IntKind.i64.wrap (IntKind.i64.wrap (a1.Y0 + IntKind.i64.wrap (p12.tdiv p7.W)) * a0.W) + a1.X0) + p12.tmod p7.W)) a0.L.length then
              bif (getR p7.L p12.toNat != getR a0.L (IntKind.i64.wrap (IntKind.i64.wrap (IntKind.i64.wrap (IntKind.i64.wrap (a1.Y0 + IntKind.i64.wrap (p12.tdiv p7.W)) * a0.W) + a1.X0) + p12.tmod p7.W)).toNat) then
                some false
              else
                FL36_PicCrops_15 a0 a1 a2 K p7 (IntKind.i64.wrap (p12 + 1))
            else none
          else none
        else none
      else none
    else
      some Fawake
def FL36_PicCrops (K : Nat) (a0 : TImage) (a1 : TRect) (a2 : TPoint) : Option Bool :=
  bif (decide ((↑a0.L.length : Int) > 3000)) then
    some Fawake
  else
    (Fpic_Crop K a0 a1).bind fun u2 =>
    (Fpic_At K a0 a2.X a2.Y).bind fun u3 =>
    (FR36_Right K a0).bind fun u4 =>
    bif !u4 then
      bif ((↑u2.fst.L.length : Int) == 0) then
        bif (bif true then u2.snd == 6 else false) then
          bif (bif true then u3.fst == 0 else false) then
            bif (bif true then !u3.snd else false) then
              some (bif true then Fawake else false)
            else
              some false
          else
            some false
        else
          some false
      else
        some false
    else
      bif (decide (a2.X ≥ 0)) then
        bif (bif true then decide (a2.X < a0.W) else false) then
          bif (bif true then decide (a2.Y ≥ 0) else false) then
            bif (!u3.snd == bif true then decide (a2.Y < a0.H) else false) then
              some false
            else
              bif (bif true then decide (a2.Y < a0.H) else false) then
                bif inR (IntKind.i64.wrap (IntKind.i64.wrap (a2.Y * a0.W) + a2.X)) a0.L.length then
                  bif (bif false then true else bif true then u3.fst != getR a0.L (IntKind.i64.wrap (IntKind.i64.wrap (a2.Y * a0.W) + a2.X)).toNat else false) then
                    some false
                  else
                    bif (!bif true then decide (a2.Y < a0.H) else false) then
                      bif (bif false then true else bif true then u3.fst != 0 else false) then
                        some false
                      else
                        (FR27_Within K a1 a0.W a0.H).bind fun u19 =>
                        bif !u19 then
                          bif ((↑u2.fst.L.length : Int) == 0) then
                            bif (bif true then u2.snd == 12 else false) then
                              some (bif true then Fawake else false)
                            else
                              some false
                          else
                            some false
                        else
                          bif (u2.snd != 0) then
                            some false
                          else
                            bif (bif false then true else u2.fst.W != IntKind.i64.wrap (a1.X1 - a1.X0)) then
                              some false
                            else
                              bif (bif false then true else u2.fst.H != IntKind.i64.wrap (a1.Y1 - a1.Y0)) then
                                some false
                              else
                                bif (bif false then true else (↑u2.fst.L.length : Int) != IntKind.i64.wrap (u2.fst.W * u2.fst.H)) then
                                  some false
                                else
                                  FL36_PicCrops_15 a0 a1 a2 K u2.fst 0
                    else
                      (FR27_Within K a1 a0.W a0.H).bind fun u27 =>
                      bif !u27 then
                        bif ((↑u2.fst.L.length : Int) == 0) then
                          bif (bif true then u2.snd == 12 else false) then
                            some (bif true then Fawake else false)
                          else
                            some false
                        else
                          some false
                      else
                        bif (u2.snd != 0) then
                          some false
                        else
                          bif (bif false then true else u2.fst.W != IntKind.i64.wrap (a1.X1 - a1.X0)) then
                            some false
                          else
                            bif (bif false then true else u2.fst.H != IntKind.i64.wrap (a1.Y1 - a1.Y0)) then
                              some false
                            else
                              bif (bif false then true else (↑u2.fst.L.length : Int) != IntKind.i64.wrap (u2.fst.W * u2.fst.H)) then
                                some false
                              else
                                FL36_PicCrops_15 a0 a1 a2 K u2.fst 0
                else none
              else
                bif (!bif true then decide (a2.Y < a0.H) else false) then
                  bif (bif bif false then true else false then true else bif true then u3.fst != 0 else false) then
                    some false
                  else
                    (FR27_Within K a1 a0.W a0.H).bind fun u37 =>
                    bif !u37 then
                      bif ((↑u2.fst.L.length : Int) == 0) then
                        bif (bif true then u2.snd == 12 else false) then
                          some (bif true then Fawake else false)
                        else
                          some false
                      else
                        some false
                    else
                      bif (u2.snd != 0) then
                        some false
                      else
                        bif (bif false then true else u2.fst.W != IntKind.i64.wrap (a1.X1 - a1.X0)) then
                          some false
                        else
                          bif (bif false then true else u2.fst.H != IntKind.i64.wrap (a1.Y1 - a1.Y0)) then
                            some false
                          else
                            bif (bif false then true else (↑u2.fst.L.length : Int) != IntKind.i64.wrap (u2.fst.W * u2.fst.H)) then
                              some false
                            else
                              FL36_PicCrops_15 a0 a1 a2 K u2.fst 0
                else
                  (FR27_Within K a1 a0.W a0.H).bind fun u45 =>
                  bif !u45 then
                    bif ((↑u2.fst.L.length : Int) == 0) then
                      bif (bif true then u2.snd == 12 else false) then
                        some (bif true then Fawake else false)
                      else
                        some false
                    else
                      some false
                  else
                    bif (u2.snd != 0) then
                      some false
                    else
                      bif (bif false then true else u2.fst.W != IntKind.i64.wrap (a1.X1 - a1.X0)) then
                        some false
                      else
                        bif (bif false then true else u2.fst.H != IntKind.i64.wrap (a1.Y1 - a1.Y0)) then
                          some false
                        else
                          bif (bif false then true else (↑u2.fst.L.length : Int) != IntKind.i64.wrap (u2.fst.W * u2.fst.H)) then
                            some false
                          else
                            FL36_PicCrops_15 a0 a1 a2 K u2.fst 0
          else
            bif (!u3.snd == false) then
              some false
            else
              bif (bif bif false then true else false then true else bif !false then u3.fst != 0 else false) then
                some false
              else
                (FR27_Within K a1 a0.W a0.H).bind fun u55 =>
                bif !u55 then
                  bif ((↑u2.fst.L.length : Int) == 0) then
                    bif (bif true then u2.snd == 12 else false) then
                      some (bif true then Fawake else false)
                    else
                      some false
                  else
                    some false
                else
                  bif (u2.snd != 0) then
                    some false
                  else
                    bif (bif false then true else u2.fst.W != IntKind.i64.wrap (a1.X1 - a1.X0)) then
                      some false
                    else
                      bif (bif false then true else u2.fst.H != IntKind.i64.wrap (a1.Y1 - a1.Y0)) then
                        some false
                      else
                        bif (bif false then true else (↑u2.fst.L.length : Int) != IntKind.i64.wrap (u2.fst.W * u2.fst.H)) then
                          some false
                        else
                          FL36_PicCrops_15 a0 a1 a2 K u2.fst 0
        else
          bif (!u3.snd == false) then
            some false
          else
            bif (bif bif false then true else false then true else bif !false then u3.fst != 0 else false) then
              some false
            else
              (FR27_Within K a1 a0.W a0.H).bind fun u65 =>
              bif !u65 then
                bif ((↑u2.fst.L.length : Int) == 0) then
                  bif (bif true then u2.snd == 12 else false) then
                    some (bif true then Fawake else false)
                  else
                    some false
                else
                  some false
              else
                bif (u2.snd != 0) then
                  some false
                else
                  bif (bif false then true else u2.fst.W != IntKind.i64.wrap (a1.X1 - a1.X0)) then
                    some false
                  else
                    bif (bif false then true else u2.fst.H != IntKind.i64.wrap (a1.Y1 - a1.Y0)) then
                      some false
                    else
                      bif (bif false then true else (↑u2.fst.L.length : Int) != IntKind.i64.wrap (u2.fst.W * u2.fst.H)) then
                        some false
                      else
                        FL36_PicCrops_15 a0 a1 a2 K u2.fst 0
      else
        bif (!u3.snd == false) then
          some false
        else
          bif (bif bif false then true else false then true else bif !false then u3.fst != 0 else false) then
            some false
          else
            (FR27_Within K a1 a0.W a0.H).bind fun u75 =>
            bif !u75 then
              bif ((↑u2.fst.L.length : Int) == 0) then
                bif (bif true then u2.snd == 12 else false) then
                  some (bif true then Fawake else false)
                else
                  some false
              else
                some false
            else
              bif (u2.snd != 0) then
                some false
              else
                bif (bif false then true else u2.fst.W != IntKind.i64.wrap (a1.X1 - a1.X0)) then
                  some false
                else
                  bif (bif false then true else u2.fst.H != IntKind.i64.wrap (a1.Y1 - a1.Y0)) then
                    some false
                  else
                    bif (bif false then true else (↑u2.fst.L.length : Int) != IntKind.i64.wrap (u2.fst.W * u2.fst.H)) then
                      some false
                    else
                      FL36_PicCrops_15 a0 a1 a2 K u2.fst 0
def HL36_PicCrops_15 (fn : Func) (a0 : TImage) (a1 : TRect) (a2 : TPoint) (p7 : TImage) (p12 : Int) : VS := headS fn 15 [(3, (frp [(Value.int IntKind.i64 a0.W), (Value.int IntKind.i64 a0.H), (lst a0.L)] 0)), (4, (frp [(Value.int IntKind.i64 a1.X0), (Value.int IntKind.i64 a1.Y0), (Value.int IntKind.i64 a1.X1), (Value.int IntKind.i64 a1.Y1)] 0)), (7, frp [.int .i64 p7.W, .int .i64 p7.H, lst p7.L] 0), (12, .int .i64 p12)] []
theorem lL36_PicCrops (a0 : TImage) (a1 : TRect) (a2 : TPoint) : ∀ K : Nat, (∀ (p7 : TImage) (p12 : Int), Lifts Tryd.prog 5 0 EL36_PicCrops (HL36_PicCrops_15 Tryd.f5 a0 a1 a2 p7 p12) (FL36_PicCrops_15 a0 a1 a2 K p7 p12)) := by
  intro K
  induction K with
  | zero =>
    exact fun p7 p12 => (by rw [FL36_PicCrops_15]; exact L.no)
  | succ K ih =>
    have IH15 := ih
    refine fun p7 p12 => ?_
    · rw [FL36_PicCrops_15]
      exact
        L.ld mixed 5 22 [(Value.int IntKind.i64 p7.W), (Value.int IntKind.i64 p7.H), (lst p7.L)] 2 ((lst p7.L)) (by kernel_rfl) (by kernel_rfl) <|
        L.br mixed 3 _ (by kernel_rfl)
          (fun h83 =>
          L.ld mixed 6 22 [(Value.int IntKind.i64 p7.W), (Value.int IntKind.i64 p7.H), (lst p7.L)] 2 ((lst p7.L)) (by kernel_rfl) (by kernel_rfl) <|
          L.idx mixed 1 _ (rows p7.L) 1 IntKind.i64 _ (by kernel_rfl) (fun h84a h84b =>
          L.ld mixed 0 3 (rows p7.L) (p12.toNat * 1 + 0) (.int .i64 (getR p7.L p12.toNat)) (by kernel_rfl) (load1_rows (i := p12.toNat) (d := 0) rfl (toNat_lt h84a h84b) (by kernel_rfl) (Nat.le_of_ble_eq_true (by kernel_rfl)) (by kernel_rfl)) <|
          L.ld mixed 1 22 [(Value.int IntKind.i64 a0.W), (Value.int IntKind.i64 a0.H), (lst a0.L)] 2 ((lst a0.L)) (by kernel_rfl) (by kernel_rfl) <|
          L.ld mixed 1 3 [(Value.int IntKind.i64 a1.X0), (Value.int IntKind.i64 a1.Y0), (Value.int IntKind.i64 a1.X1), (Value.int IntKind.i64 a1.Y1)] 1 ((Value.int IntKind.i64 a1.Y0)) (by kernel_rfl) (by kernel_rfl) <|
          L.ld mixed 2 3 [(Value.int IntKind.i64 p7.W), (Value.int IntKind.i64 p7.H), (lst p7.L)] 0 ((Value.int IntKind.i64 p7.W)) (by kernel_rfl) (by kernel_rfl) <|
          L.div mixed 0 false IntKind.i64 p12 _ (by kernel_rfl) (fun hd88 =>
          L.ld mixed 2 3 [(Value.int IntKind.i64 a0.W), (Value.int IntKind.i64 a0.H), (lst a0.L)] 0 ((Value.int IntKind.i64 a0.W)) (by kernel_rfl) (by kernel_rfl) <|
          L.ld mixed 2 3 [(Value.int IntKind.i64 a1.X0), (Value.int IntKind.i64 a1.Y0), (Value.int IntKind.i64 a1.X1), (Value.int IntKind.i64 a1.Y1)] 0 ((Value.int IntKind.i64 a1.X0)) (by kernel_rfl) (by kernel_rfl) <|
          L.ld mixed 3 3 [(Value.int IntKind.i64 p7.W), (Value.int IntKind.i64 p7.H), (lst p7.L)] 0 ((Value.int IntKind.i64 p7.W)) (by kernel_rfl) (by kernel_rfl) <|
          L.div mixed 0 true IntKind.i64 p12 _ (by kernel_rfl) (fun hd87 =>
          L.idx mixed 1 _ (rows a0.L) 1 IntKind.i64 _ (by kernel_rfl) (fun h85a h85b =>
          L.ld mixed 0 3 (rows a0.L) ((IntKind.i64.wrap (IntKind.i64.wrap (IntKind.i64.wrap (IntKind.i64.wrap (a1.Y0 + IntKind.i64.wrap (p12.tdiv p7.W)) * a0.W) + a1.X0) + p12.tmod p7.W)).toNat * 1 + 0) (.int .i64 (getR a0.L (IntKind.i64.wrap (IntKind.i64.wrap (IntKind.i64.wrap (IntKind.i64.wrap (a1.Y0 + IntKind.i64.wrap (p12.tdiv p7.W)) * a0.W) + a1.X0) + p12.tmod p7.W)).toNat)) (by kernel_rfl) (load1_rows (i := (IntKind.i64.wrap (IntKind.i64.wrap (IntKind.i64.wrap (IntKind.i64.wrap (a1.Y0 + IntKind.i64.wrap (p12.tdiv p7.W)) * a0.W) + a1.X0) + p12.tmod p7.W)).toNat) (d := 0) rfl (toNat_lt h85a h85b) (by kernel_rfl) (Nat.le_of_ble_eq_true (by kernel_rfl)) (by kernel_rfl)) <|
          L.br mixed 2 _ (by kernel_rfl)
            (fun h86 =>
            L.ret _ mixed Tryd.func5 _ (by kernel_rfl) rfl)
            (fun h86 =>
            L.jump mixed 8 [3, 4, 7, 12] (by kernel_rfl) (IH15 p7 (IntKind.i64.wrap (p12 + 1)))))))))
          (fun h83 =>
          L.call mixed (awake_con) (by kernel_rfl) <|
          L.ret _ mixed Tryd.func5 _ (by kernel_rfl) rfl)
theorem cL36_PicCrops (K : Nat) (a0 : TImage) (a1 : TRect) (a2 : TPoint) : ∀ r, FL36_PicCrops K a0 a1 a2 = some r → Con Tryd.prog 5 [.agg ⟨[.int .i64 a0.W, .int .i64 a0.H, lst a0.L]⟩, .agg ⟨[.int .i64 a1.X0, .int .i64 a1.Y0, .int .i64 a1.X1, .int .i64 a1.Y1]⟩, .agg ⟨[.int .i64 a2.X, .int .i64 a2.Y]⟩] (EL36_PicCrops r) := by
  have IH15 := lL36_PicCrops a0 a1 a2 K
  refine Con.lift Tryd.func5 (by kernel_rfl) rfl (fun _ => rfl) ?_
  unfold FL36_PicCrops
  exact
    L.br mixed 15 _ (by kernel_rfl)
      (fun h1 =>
      L.call mixed (awake_con) (by kernel_rfl) <|
      L.ret _ mixed Tryd.func5 _ (by kernel_rfl) rfl)
      (fun h1 =>
      L.callO mixed (fun u2 : TImage × Int => .tuple ⟨[.agg ⟨[.int .i64 u2.1.W, .int .i64 u2.1.H, lst u2.1.L]⟩, .int .i64 u2.2]⟩) (cpic_Crop K a0 a1) (by kernel_rfl) (fun u2 hu2 =>
      L.callO mixed (fun u3 : Int × Bool => .tuple ⟨[.int .i64 u3.1, .bool u3.2]⟩) (cpic_At K a0 a2.X a2.Y) (by kernel_rfl) (fun u3 hu3 =>
      L.callO mixed (fun u4 : Bool => .bool u4) (cR36_Right K a0) (by kernel_rfl) (fun u4 hu4 =>
      L.br mixed 2 _ (by kernel_rfl)
        (fun h5 =>
        L.gu mixed 7 _ (by kernel_rfl)
          (fun h6 =>
          L.gu mixed 4 _ (by kernel_rfl)
            (fun h7 =>
            L.gu mixed 4 _ (by kernel_rfl)
              (fun h8 =>
              L.gu mixed 4 _ (by kernel_rfl)
                (fun h9 =>
                L.call mixed (awake_con) (by kernel_rfl) <|
                L.ret _ mixed Tryd.func5 _ (by kernel_rfl) rfl)
                (fun h9 =>
                L.ret _ mixed Tryd.func5 _ (by kernel_rfl) rfl))
              (fun h8 =>
              L.ret _ mixed Tryd.func5 _ (by kernel_rfl) rfl))
            (fun h7 =>
            L.ret _ mixed Tryd.func5 _ (by kernel_rfl) rfl))
          (fun h6 =>
          L.ret _ mixed Tryd.func5 _ (by kernel_rfl) rfl))
        (fun h5 =>
        L.gu mixed 7 _ (by kernel_rfl)
          (fun h10 =>
          L.gu mixed 7 _ (by kernel_rfl)
            (fun h11 =>
            L.gu mixed 5 _ (by kernel_rfl)
              (fun h12 =>
              L.gu mixed 15 _ (by kernel_rfl)
                (fun h13 =>
                L.ret _ mixed Tryd.func5 _ (by kernel_rfl) rfl)
                (fun h13 =>
                L.gu mixed 2 _ (by kernel_rfl)
                  (fun h14 =>
                  L.idx mixed 11 _ (rows a0.L) 1 IntKind.i64 _ (by kernel_rfl) (fun h15a h15b =>
                  L.ld mixed 0 3 (rows a0.L) ((IntKind.i64.wrap (IntKind.i64.wrap (a2.Y * a0.W) + a2.X)).toNat * 1 + 0) (.int .i64 (getR a0.L (IntKind.i64.wrap (IntKind.i64.wrap (a2.Y * a0.W) + a2.X)).toNat)) (by kernel_rfl) (load1_rows (i := (IntKind.i64.wrap (IntKind.i64.wrap (a2.Y * a0.W) + a2.X)).toNat) (d := 0) rfl (toNat_lt h15a h15b) (by kernel_rfl) (Nat.le_of_ble_eq_true (by kernel_rfl)) (by kernel_rfl)) <|
                  L.gu mixed 4 _ (by kernel_rfl)
                    (fun h16 =>
                    L.ret _ mixed Tryd.func5 _ (by kernel_rfl) rfl)
                    (fun h16 =>
                    L.gu mixed 3 _ (by kernel_rfl)
                      (fun h17 =>
                      L.br mixed 5 _ (by kernel_rfl)
                        (fun h18 =>
                        L.ret _ mixed Tryd.func5 _ (by kernel_rfl) rfl)
                        (fun h18 =>
                        L.callO mixed (fun u19 : Bool => .bool u19) (cR27_Within K a1 a0.W a0.H) (by kernel_rfl) (fun u19 hu19 =>
                        L.br mixed 2 _ (by kernel_rfl)
                          (fun h20 =>
                          L.gu mixed 7 _ (by kernel_rfl)
                            (fun h21 =>
                            L.gu mixed 4 _ (by kernel_rfl)
                              (fun h22 =>
                              L.call mixed (awake_con) (by kernel_rfl) <|
                              L.ret _ mixed Tryd.func5 _ (by kernel_rfl) rfl)
                              (fun h22 =>
                              L.ret _ mixed Tryd.func5 _ (by kernel_rfl) rfl))
                            (fun h21 =>
                            L.ret _ mixed Tryd.func5 _ (by kernel_rfl) rfl))
                          (fun h20 =>
                          L.gu mixed 7 _ (by kernel_rfl)
                            (fun h23 =>
                            L.ret _ mixed Tryd.func5 _ (by kernel_rfl) rfl)
                            (fun h23 =>
                            L.gu mixed 10 _ (by kernel_rfl)
                              (fun h24 =>
                              L.ret _ mixed Tryd.func5 _ (by kernel_rfl) rfl)
                              (fun h24 =>
                              L.gu mixed 10 _ (by kernel_rfl)
                                (fun h25 =>
                                L.ret _ mixed Tryd.func5 _ (by kernel_rfl) rfl)
                                (fun h25 =>
                                L.br mixed 11 _ (by kernel_rfl)
                                  (fun h26 =>
                                  L.ret _ mixed Tryd.func5 _ (by kernel_rfl) rfl)
                                  (fun h26 =>
                                  L.frzP mixed 7 7 3 0 0 [(Value.int IntKind.i64 u2.fst.W), (Value.int IntKind.i64 u2.fst.H), (lst u2.fst.L)] (by kernel_rfl) (by kernel_rfl) (by kernel_rfl) (by kernel_rfl) <|
                                  L.frzP mixed 0 4 1 0 0 [(Value.int IntKind.i64 a1.X0), (Value.int IntKind.i64 a1.Y0), (Value.int IntKind.i64 a1.X1), (Value.int IntKind.i64 a1.Y1)] (by kernel_rfl) (by kernel_rfl) (by kernel_rfl) (by kernel_rfl) <|
                                  L.frzP mixed 0 3 0 0 0 [(Value.int IntKind.i64 a0.W), (Value.int IntKind.i64 a0.H), (lst a0.L)] (by kernel_rfl) (by kernel_rfl) (by kernel_rfl) (by kernel_rfl) <|
                                  L.jumpG mixed 1 [3, 4, 7, 12] [] [] (by kernel_rfl) (by kernel_rfl) (by kernel_rfl) trivial (by kernel_rfl) (by kernel_rfl) (IH15 u2.fst 0)))))))))
                      (fun h17 =>
                      L.callO mixed (fun u27 : Bool => .bool u27) (cR27_Within K a1 a0.W a0.H) (by kernel_rfl) (fun u27 hu27 =>
                      L.br mixed 2 _ (by kernel_rfl)
                        (fun h28 =>
                        L.gu mixed 7 _ (by kernel_rfl)
                          (fun h29 =>
                          L.gu mixed 4 _ (by kernel_rfl)
                            (fun h30 =>
                            L.call mixed (awake_con) (by kernel_rfl) <|
                            L.ret _ mixed Tryd.func5 _ (by kernel_rfl) rfl)
                            (fun h30 =>
                            L.ret _ mixed Tryd.func5 _ (by kernel_rfl) rfl))
                          (fun h29 =>
                          L.ret _ mixed Tryd.func5 _ (by kernel_rfl) rfl))
                        (fun h28 =>
                        L.gu mixed 7 _ (by kernel_rfl)
                          (fun h31 =>
                          L.ret _ mixed Tryd.func5 _ (by kernel_rfl) rfl)
                          (fun h31 =>
                          L.gu mixed 10 _ (by kernel_rfl)
                            (fun h32 =>
                            L.ret _ mixed Tryd.func5 _ (by kernel_rfl) rfl)
                            (fun h32 =>
                            L.gu mixed 10 _ (by kernel_rfl)
                              (fun h33 =>
                              L.ret _ mixed Tryd.func5 _ (by kernel_rfl) rfl)
                              (fun h33 =>
                              L.br mixed 11 _ (by kernel_rfl)
                                (fun h34 =>
                                L.ret _ mixed Tryd.func5 _ (by kernel_rfl) rfl)
                                (fun h34 =>
                                L.frzP mixed 7 7 3 0 0 [(Value.int IntKind.i64 u2.fst.W), (Value.int IntKind.i64 u2.fst.H), (lst u2.fst.L)] (by kernel_rfl) (by kernel_rfl) (by kernel_rfl) (by kernel_rfl) <|
                                L.frzP mixed 0 4 1 0 0 [(Value.int IntKind.i64 a1.X0), (Value.int IntKind.i64 a1.Y0), (Value.int IntKind.i64 a1.X1), (Value.int IntKind.i64 a1.Y1)] (by kernel_rfl) (by kernel_rfl) (by kernel_rfl) (by kernel_rfl) <|
                                L.frzP mixed 0 3 0 0 0 [(Value.int IntKind.i64 a0.W), (Value.int IntKind.i64 a0.H), (lst a0.L)] (by kernel_rfl) (by kernel_rfl) (by kernel_rfl) (by kernel_rfl) <|
                                L.jumpG mixed 1 [3, 4, 7, 12] [] [] (by kernel_rfl) (by kernel_rfl) (by kernel_rfl) trivial (by kernel_rfl) (by kernel_rfl) (IH15 u2.fst 0)))))))))))
                  (fun h14 =>
                  L.gu mixed 20 _ (by kernel_rfl)
                    (fun h35 =>
                    L.br mixed 5 _ (by kernel_rfl)
                      (fun h36 =>
                      L.ret _ mixed Tryd.func5 _ (by kernel_rfl) rfl)
                      (fun h36 =>
                      L.callO mixed (fun u37 : Bool => .bool u37) (cR27_Within K a1 a0.W a0.H) (by kernel_rfl) (fun u37 hu37 =>
                      L.br mixed 2 _ (by kernel_rfl)
                        (fun h38 =>
                        L.gu mixed 7 _ (by kernel_rfl)
                          (fun h39 =>
                          L.gu mixed 4 _ (by kernel_rfl)
                            (fun h40 =>
                            L.call mixed (awake_con) (by kernel_rfl) <|
                            L.ret _ mixed Tryd.func5 _ (by kernel_rfl) rfl)
                            (fun h40 =>
                            L.ret _ mixed Tryd.func5 _ (by kernel_rfl) rfl))
                          (fun h39 =>
                          L.ret _ mixed Tryd.func5 _ (by kernel_rfl) rfl))
                        (fun h38 =>
                        L.gu mixed 7 _ (by kernel_rfl)
                          (fun h41 =>
                          L.ret _ mixed Tryd.func5 _ (by kernel_rfl) rfl)
                          (fun h41 =>
                          L.gu mixed 10 _ (by kernel_rfl)
                            (fun h42 =>
                            L.ret _ mixed Tryd.func5 _ (by kernel_rfl) rfl)
                            (fun h42 =>
                            L.gu mixed 10 _ (by kernel_rfl)
                              (fun h43 =>
                              L.ret _ mixed Tryd.func5 _ (by kernel_rfl) rfl)
                              (fun h43 =>
                              L.br mixed 11 _ (by kernel_rfl)
                                (fun h44 =>
                                L.ret _ mixed Tryd.func5 _ (by kernel_rfl) rfl)
                                (fun h44 =>
                                L.frzP mixed 7 7 3 0 0 [(Value.int IntKind.i64 u2.fst.W), (Value.int IntKind.i64 u2.fst.H), (lst u2.fst.L)] (by kernel_rfl) (by kernel_rfl) (by kernel_rfl) (by kernel_rfl) <|
                                L.frzP mixed 0 4 1 0 0 [(Value.int IntKind.i64 a1.X0), (Value.int IntKind.i64 a1.Y0), (Value.int IntKind.i64 a1.X1), (Value.int IntKind.i64 a1.Y1)] (by kernel_rfl) (by kernel_rfl) (by kernel_rfl) (by kernel_rfl) <|
                                L.frzP mixed 0 3 0 0 0 [(Value.int IntKind.i64 a0.W), (Value.int IntKind.i64 a0.H), (lst a0.L)] (by kernel_rfl) (by kernel_rfl) (by kernel_rfl) (by kernel_rfl) <|
                                L.jumpG mixed 1 [3, 4, 7, 12] [] [] (by kernel_rfl) (by kernel_rfl) (by kernel_rfl) trivial (by kernel_rfl) (by kernel_rfl) (IH15 u2.fst 0)))))))))
                    (fun h35 =>
                    L.callO mixed (fun u45 : Bool => .bool u45) (cR27_Within K a1 a0.W a0.H) (by kernel_rfl) (fun u45 hu45 =>
                    L.br mixed 2 _ (by kernel_rfl)
                      (fun h46 =>
                      L.gu mixed 7 _ (by kernel_rfl)
                        (fun h47 =>
                        L.gu mixed 4 _ (by kernel_rfl)
                          (fun h48 =>
                          L.call mixed (awake_con) (by kernel_rfl) <|
                          L.ret _ mixed Tryd.func5 _ (by kernel_rfl) rfl)
                          (fun h48 =>
                          L.ret _ mixed Tryd.func5 _ (by kernel_rfl) rfl))
                        (fun h47 =>
                        L.ret _ mixed Tryd.func5 _ (by kernel_rfl) rfl))
                      (fun h46 =>
                      L.gu mixed 7 _ (by kernel_rfl)
                        (fun h49 =>
                        L.ret _ mixed Tryd.func5 _ (by kernel_rfl) rfl)
                        (fun h49 =>
                        L.gu mixed 10 _ (by kernel_rfl)
                          (fun h50 =>
                          L.ret _ mixed Tryd.func5 _ (by kernel_rfl) rfl)
                          (fun h50 =>
                          L.gu mixed 10 _ (by kernel_rfl)
                            (fun h51 =>
                            L.ret _ mixed Tryd.func5 _ (by kernel_rfl) rfl)
                            (fun h51 =>
                            L.br mixed 11 _ (by kernel_rfl)
                              (fun h52 =>
                              L.ret _ mixed Tryd.func5 _ (by kernel_rfl) rfl)
                              (fun h52 =>
                              L.frzP mixed 7 7 3 0 0 [(Value.int IntKind.i64 u2.fst.W), (Value.int IntKind.i64 u2.fst.H), (lst u2.fst.L)] (by kernel_rfl) (by kernel_rfl) (by kernel_rfl) (by kernel_rfl) <|
                              L.frzP mixed 0 4 1 0 0 [(Value.int IntKind.i64 a1.X0), (Value.int IntKind.i64 a1.Y0), (Value.int IntKind.i64 a1.X1), (Value.int IntKind.i64 a1.Y1)] (by kernel_rfl) (by kernel_rfl) (by kernel_rfl) (by kernel_rfl) <|
                              L.frzP mixed 0 3 0 0 0 [(Value.int IntKind.i64 a0.W), (Value.int IntKind.i64 a0.H), (lst a0.L)] (by kernel_rfl) (by kernel_rfl) (by kernel_rfl) (by kernel_rfl) <|
                              L.jumpG mixed 1 [3, 4, 7, 12] [] [] (by kernel_rfl) (by kernel_rfl) (by kernel_rfl) trivial (by kernel_rfl) (by kernel_rfl) (IH15 u2.fst 0)))))))))))
              (fun h12 =>
              L.gu mixed 15 _ (by kernel_rfl)
                (fun h53 =>
                L.ret _ mixed Tryd.func5 _ (by kernel_rfl) rfl)
                (fun h53 =>
                L.br mixed 27 _ (by kernel_rfl)
                  (fun h54 =>
                  L.ret _ mixed Tryd.func5 _ (by kernel_rfl) rfl)
                  (fun h54 =>
                  L.callO mixed (fun u55 : Bool => .bool u55) (cR27_Within K a1 a0.W a0.H) (by kernel_rfl) (fun u55 hu55 =>
                  L.br mixed 2 _ (by kernel_rfl)
                    (fun h56 =>
                    L.gu mixed 7 _ (by kernel_rfl)
                      (fun h57 =>
                      L.gu mixed 4 _ (by kernel_rfl)
                        (fun h58 =>
                        L.call mixed (awake_con) (by kernel_rfl) <|
                        L.ret _ mixed Tryd.func5 _ (by kernel_rfl) rfl)
                        (fun h58 =>
                        L.ret _ mixed Tryd.func5 _ (by kernel_rfl) rfl))
                      (fun h57 =>
                      L.ret _ mixed Tryd.func5 _ (by kernel_rfl) rfl))
                    (fun h56 =>
                    L.gu mixed 7 _ (by kernel_rfl)
                      (fun h59 =>
                      L.ret _ mixed Tryd.func5 _ (by kernel_rfl) rfl)
                      (fun h59 =>
                      L.gu mixed 10 _ (by kernel_rfl)
                        (fun h60 =>
                        L.ret _ mixed Tryd.func5 _ (by kernel_rfl) rfl)
                        (fun h60 =>
                        L.gu mixed 10 _ (by kernel_rfl)
                          (fun h61 =>
                          L.ret _ mixed Tryd.func5 _ (by kernel_rfl) rfl)
                          (fun h61 =>
                          L.br mixed 11 _ (by kernel_rfl)
                            (fun h62 =>
                            L.ret _ mixed Tryd.func5 _ (by kernel_rfl) rfl)
                            (fun h62 =>
                            L.frzP mixed 7 7 3 0 0 [(Value.int IntKind.i64 u2.fst.W), (Value.int IntKind.i64 u2.fst.H), (lst u2.fst.L)] (by kernel_rfl) (by kernel_rfl) (by kernel_rfl) (by kernel_rfl) <|
                            L.frzP mixed 0 4 1 0 0 [(Value.int IntKind.i64 a1.X0), (Value.int IntKind.i64 a1.Y0), (Value.int IntKind.i64 a1.X1), (Value.int IntKind.i64 a1.Y1)] (by kernel_rfl) (by kernel_rfl) (by kernel_rfl) (by kernel_rfl) <|
                            L.frzP mixed 0 3 0 0 0 [(Value.int IntKind.i64 a0.W), (Value.int IntKind.i64 a0.H), (lst a0.L)] (by kernel_rfl) (by kernel_rfl) (by kernel_rfl) (by kernel_rfl) <|
                            L.jumpG mixed 1 [3, 4, 7, 12] [] [] (by kernel_rfl) (by kernel_rfl) (by kernel_rfl) trivial (by kernel_rfl) (by kernel_rfl) (IH15 u2.fst 0)))))))))))
            (fun h11 =>
            L.gu mixed 20 _ (by kernel_rfl)
              (fun h63 =>
              L.ret _ mixed Tryd.func5 _ (by kernel_rfl) rfl)
              (fun h63 =>
              L.br mixed 27 _ (by kernel_rfl)
                (fun h64 =>
                L.ret _ mixed Tryd.func5 _ (by kernel_rfl) rfl)
                (fun h64 =>
                L.callO mixed (fun u65 : Bool => .bool u65) (cR27_Within K a1 a0.W a0.H) (by kernel_rfl) (fun u65 hu65 =>
                L.br mixed 2 _ (by kernel_rfl)
                  (fun h66 =>
                  L.gu mixed 7 _ (by kernel_rfl)
                    (fun h67 =>
                    L.gu mixed 4 _ (by kernel_rfl)
                      (fun h68 =>
                      L.call mixed (awake_con) (by kernel_rfl) <|
                      L.ret _ mixed Tryd.func5 _ (by kernel_rfl) rfl)
                      (fun h68 =>
                      L.ret _ mixed Tryd.func5 _ (by kernel_rfl) rfl))
                    (fun h67 =>
                    L.ret _ mixed Tryd.func5 _ (by kernel_rfl) rfl))
                  (fun h66 =>
                  L.gu mixed 7 _ (by kernel_rfl)
                    (fun h69 =>
                    L.ret _ mixed Tryd.func5 _ (by kernel_rfl) rfl)
                    (fun h69 =>
                    L.gu mixed 10 _ (by kernel_rfl)
                      (fun h70 =>
                      L.ret _ mixed Tryd.func5 _ (by kernel_rfl) rfl)
                      (fun h70 =>
                      L.gu mixed 10 _ (by kernel_rfl)
                        (fun h71 =>
                        L.ret _ mixed Tryd.func5 _ (by kernel_rfl) rfl)
                        (fun h71 =>
                        L.br mixed 11 _ (by kernel_rfl)
                          (fun h72 =>
                          L.ret _ mixed Tryd.func5 _ (by kernel_rfl) rfl)
                          (fun h72 =>
                          L.frzP mixed 7 7 3 0 0 [(Value.int IntKind.i64 u2.fst.W), (Value.int IntKind.i64 u2.fst.H), (lst u2.fst.L)] (by kernel_rfl) (by kernel_rfl) (by kernel_rfl) (by kernel_rfl) <|
                          L.frzP mixed 0 4 1 0 0 [(Value.int IntKind.i64 a1.X0), (Value.int IntKind.i64 a1.Y0), (Value.int IntKind.i64 a1.X1), (Value.int IntKind.i64 a1.Y1)] (by kernel_rfl) (by kernel_rfl) (by kernel_rfl) (by kernel_rfl) <|
                          L.frzP mixed 0 3 0 0 0 [(Value.int IntKind.i64 a0.W), (Value.int IntKind.i64 a0.H), (lst a0.L)] (by kernel_rfl) (by kernel_rfl) (by kernel_rfl) (by kernel_rfl) <|
                          L.jumpG mixed 1 [3, 4, 7, 12] [] [] (by kernel_rfl) (by kernel_rfl) (by kernel_rfl) trivial (by kernel_rfl) (by kernel_rfl) (IH15 u2.fst 0)))))))))))
          (fun h10 =>
          L.gu mixed 27 _ (by kernel_rfl)
            (fun h73 =>
            L.ret _ mixed Tryd.func5 _ (by kernel_rfl) rfl)
            (fun h73 =>
            L.br mixed 27 _ (by kernel_rfl)
              (fun h74 =>
              L.ret _ mixed Tryd.func5 _ (by kernel_rfl) rfl)
              (fun h74 =>
              L.callO mixed (fun u75 : Bool => .bool u75) (cR27_Within K a1 a0.W a0.H) (by kernel_rfl) (fun u75 hu75 =>
              L.br mixed 2 _ (by kernel_rfl)
                (fun h76 =>
                L.gu mixed 7 _ (by kernel_rfl)
                  (fun h77 =>
                  L.gu mixed 4 _ (by kernel_rfl)
                    (fun h78 =>
                    L.call mixed (awake_con) (by kernel_rfl) <|
                    L.ret _ mixed Tryd.func5 _ (by kernel_rfl) rfl)
                    (fun h78 =>
                    L.ret _ mixed Tryd.func5 _ (by kernel_rfl) rfl))
                  (fun h77 =>
                  L.ret _ mixed Tryd.func5 _ (by kernel_rfl) rfl))
                (fun h76 =>
                L.gu mixed 7 _ (by kernel_rfl)
                  (fun h79 =>
                  L.ret _ mixed Tryd.func5 _ (by kernel_rfl) rfl)
                  (fun h79 =>
                  L.gu mixed 10 _ (by kernel_rfl)
                    (fun h80 =>
                    L.ret _ mixed Tryd.func5 _ (by kernel_rfl) rfl)
                    (fun h80 =>
                    L.gu mixed 10 _ (by kernel_rfl)
                      (fun h81 =>
                      L.ret _ mixed Tryd.func5 _ (by kernel_rfl) rfl)
                      (fun h81 =>
                      L.br mixed 11 _ (by kernel_rfl)
                        (fun h82 =>
                        L.ret _ mixed Tryd.func5 _ (by kernel_rfl) rfl)
                        (fun h82 =>
                        L.frzP mixed 7 7 3 0 0 [(Value.int IntKind.i64 u2.fst.W), (Value.int IntKind.i64 u2.fst.H), (lst u2.fst.L)] (by kernel_rfl) (by kernel_rfl) (by kernel_rfl) (by kernel_rfl) <|
                        L.frzP mixed 0 4 1 0 0 [(Value.int IntKind.i64 a1.X0), (Value.int IntKind.i64 a1.Y0), (Value.int IntKind.i64 a1.X1), (Value.int IntKind.i64 a1.Y1)] (by kernel_rfl) (by kernel_rfl) (by kernel_rfl) (by kernel_rfl) <|
                        L.frzP mixed 0 3 0 0 0 [(Value.int IntKind.i64 a0.W), (Value.int IntKind.i64 a0.H), (lst a0.L)] (by kernel_rfl) (by kernel_rfl) (by kernel_rfl) (by kernel_rfl) <|
                        L.jumpG mixed 1 [3, 4, 7, 12] [] [] (by kernel_rfl) (by kernel_rfl) (by kernel_rfl) trivial (by kernel_rfl) (by kernel_rfl) (IH15 u2.fst 0)))))))))))))))

end

section
open Go Go.Dt Go.Proofs
set_option linter.unusedVariables false
set_option linter.unusedSimpArgs false
set_option maxRecDepth 8000

/-- A part's rows, from one on. -/
def rf (L : List Int) (W x w : Nat) : Nat → Nat → List Int
  | 0, _ => []
  | d + 1, y => (L.drop (y * W + x)).take w ++ rf L W x w d (y + 1)
theorem row_le {W H x w y n : Nat} (hn : n = W * H) (hx : x + w ≤ W) (hy : y < H) : y * W + x + w ≤ n := by
  have : (y + 1) * W ≤ H * W := Nat.mul_le_mul_right _ hy
  rw [Nat.add_mul, Nat.one_mul] at this
  rw [hn, Nat.mul_comm W H]
  omega
theorem rf_len {L : List Int} {W H x w : Nat} (hn : L.length = W * H) (hx : x + w ≤ W) : ∀ (d y : Nat), y + d ≤ H → (rf L W x w d y).length = d * w
  | 0, _, _ => by simp [rf]
  | d + 1, y, h => by
    have := row_le hn hx (show y < H by omega)
    rw [rf, List.length_append, rf_len hn hx d (y + 1) (by omega), List.length_take, List.length_drop, Nat.add_mul, Nat.one_mul]
    omega
theorem rf_get {L : List Int} {W H x w : Nat} (hn : L.length = W * H) (hx : x + w ≤ W) : ∀ (d y i : Nat), y + d ≤ H → i < d * w → getR (rf L W x w d y) i = getR L ((y + i / w) * W + x + i % w)
  | 0, _, i, _, hi => by simp at hi
  | d + 1, y, i, h, hi => by
    have hr := row_le hn hx (show y < H by omega)
    have hl : ((L.drop (y * W + x)).take w).length = w := by rw [List.length_take, List.length_drop]; omega
    rw [rf]
    rcases Nat.lt_or_ge i w with g | g
    · rw [Nat.div_eq_of_lt g, Nat.mod_eq_of_lt g, show y + 0 = y from rfl]
      unfold getR
      rw [List.getD_eq_getElem?_getD, List.getElem?_append_left (by omega), List.getElem?_take_of_lt g, List.getElem?_drop, List.getD_eq_getElem?_getD]
    · have hw : 0 < w := by
        rcases Nat.eq_zero_or_pos w with e | e
        · rw [e] at hi; simp at hi
        · exact e
      have e1 : i / w = (i - w) / w + 1 := by rw [Nat.div_eq_sub_div hw g]
      have e2 : i % w = (i - w) % w := Nat.mod_eq_sub_mod g
      have ih := rf_get hn hx d (y + 1) (i - w) (by omega) (by rw [Nat.add_mul, Nat.one_mul] at hi; omega)
      rw [e1, e2, show y + ((i - w) / w + 1) = y + 1 + (i - w) / w by omega, ← ih]
      unfold getR
      rw [List.getD_eq_getElem?_getD, List.getElem?_append_right (by omega), hl, List.getD_eq_getElem?_getD]
theorem crop_loop (m : TImage) (r : TRect) {W H x w y1 : Nat} (hW : m.W = W) (hn : m.L.length = W * H) (hx : x + w ≤ W) (hr0 : r.X0 = x) (hr1 : r.X1 = ((x + w : Nat) : Int)) (hy1 : r.Y1 = y1) (hb : W ≤ 256 ∧ H ≤ 256) (hyH : y1 ≤ H) :
    ∀ (d y K : Nat) (acc : List Int), y + d = y1 → d < K → acc.length + d * 256 ≤ 100000 →
      Fpic_Crop_7 m r K acc (y : Int) = some (⟨IntKind.i64.wrap (r.X1 - r.X0), IntKind.i64.wrap (r.Y1 - r.Y0), acc ++ rf m.L W x w d y⟩, 0)
  | 0, y, K + 1, acc, h, hK, ha => by
    rw [Fpic_Crop_7, hy1, decide_eq_false (show ¬ (y : Int) < (y1 : Int) by omega), rf, List.append_nil]; rfl
  | d + 1, y, K + 1, acc, h, hK, ha => by
    have hrow := row_le hn hx (show y < H by omega)
    have hyW : y * W ≤ 256 * 256 := Nat.mul_le_mul (by omega) hb.1
    have w1 : IntKind.i64.wrap ((y : Int) * (W : Int)) = ((y * W : Nat) : Int) := by rw [← Int.natCast_mul, wrap_i64_of (by omega) (by omega)]
    have w2 : IntKind.i64.wrap (((y * W : Nat) : Int) + (x : Int)) = ((y * W + x : Nat) : Int) := by rw [wrap_i64_of (by omega) (by omega)]; omega
    have w3 : IntKind.i64.wrap (((y * W : Nat) : Int) + ((x + w : Nat) : Int)) = ((y * W + x + w : Nat) : Int) := by rw [wrap_i64_of (by omega) (by omega)]; omega
    have hc : cutOk m.L.length ((y * W + x : Nat) : Int) ((y * W + x + w : Nat) : Int) = true := by
      simp only [cutOk, Bool.and_eq_true, decide_eq_true_eq]; omega
    rw [Fpic_Crop_7, hy1, decide_eq_true (show (y : Int) < (y1 : Int) by omega), hW, hr0, hr1, w1, w2, w3, wrap_succ (by omega)]
    simp only [Option.getD_some, cond_true, hc, Int.toNat_natCast]
    rw [show y * W + x + w - (y * W + x) = w by omega]
    have hrl : ((m.L.drop (y * W + x)).take w).length ≤ w := by rw [List.length_take]; omega
    have ih := fun acc => crop_loop m r hW hn hx hr0 hr1 hy1 hb hyH d (y + 1) K acc (by omega) (by omega)
    rw [hr0, hr1, hy1] at ih
    have ha' : acc.length + d * 256 + 256 ≤ 100000 := by rw [Nat.add_mul] at ha; omega
    cases he : ((m.L.drop (y * W + x)).take w).isEmpty with
    | true =>
      have e0 : (m.L.drop (y * W + x)).take w = [] := List.isEmpty_iff.1 he
      rw [cond_true, ih acc (by omega), rf, e0, List.nil_append]
    | false =>
      have hroom : room (acc.length + ((m.L.drop (y * W + x)).take w).length) 8 = true := by
        simp only [room, Bool.and_eq_true, decide_eq_true_eq]; omega
      rw [cond_false, hroom, cond_true, ih _ (by rw [List.length_append]; omega), rf, List.append_assoc]
  | _, _, 0, _, _, hK, _ => absurd hK (Nat.not_lt_zero _)
theorem crops_loop (m : TImage) (r : TRect) (q : TPoint) {W H x w y0 h : Nat} (hW : m.W = W) (hn : m.L.length = W * H) (hx : x + w ≤ W) (hr0 : r.X0 = x) (hy0 : r.Y0 = y0) (hb : W ≤ 256 ∧ H ≤ 256) (hyH : y0 + h ≤ H) (p : TImage) (hpW : p.W = w) (hpL : p.L = rf m.L W x w h y0) :
    ∀ (d i K : Nat), i + d = h * w → d < K → FL36_PicCrops_15 m r q K p (i : Int) = some true := by
  have hlen : p.L.length = h * w := by rw [hpL, rf_len hn hx h y0 (by omega)]
  have hmx : h * w ≤ 256 * 256 := Nat.mul_le_mul (by omega) (by omega)
  intro d
  induction d with
  | zero =>
    intro i K hi hK
    obtain ⟨K, rfl⟩ : ∃ k, K = k + 1 := ⟨K - 1, by omega⟩
    rw [FL36_PicCrops_15, decide_eq_false (show ¬ (i : Int) < (p.L.length : Int) by omega)]; rfl
  | succ d ih =>
    intro i K hi hK
    obtain ⟨K, rfl⟩ : ∃ k, K = k + 1 := ⟨K - 1, by omega⟩
    have hw : 0 < w := by
      rcases Nat.eq_zero_or_pos w with e | e
      · rw [e] at hi; simp at hi
      · exact e
    have hdiv : i / w < h := (Nat.div_lt_iff_lt_mul hw).2 (by omega)
    have hmod : i % w < w := Nat.mod_lt _ hw
    have hrow := row_le hn (show x + (i % w + 1) ≤ W by omega) (show y0 + i / w < H by omega)
    have hyW : (y0 + i / w) * W ≤ 256 * 256 := Nat.mul_le_mul (by omega) hb.1
    have hdl := Nat.div_le_self i w
    have w0 : IntKind.i64.wrap ((i : Int).tdiv (w : Int)) = ((i / w : Nat) : Int) := by
      rw [Int.tdiv_eq_ediv_of_nonneg (by omega), ← Int.natCast_ediv]
      exact wrap_nat (Nat.le_trans hdl (by omega))
    have w00 : (i : Int).tmod (w : Int) = ((i % w : Nat) : Int) := by
      rw [Int.tmod_eq_emod_of_nonneg (by omega), ← Int.natCast_emod]
    have w1 : IntKind.i64.wrap ((y0 : Int) + ((i / w : Nat) : Int)) = ((y0 + i / w : Nat) : Int) := by
      rw [← Int.natCast_add]
      exact wrap_nat (Nat.le_trans (Nat.add_le_add_left hdl _) (by omega))
    have w2 : IntKind.i64.wrap (((y0 + i / w : Nat) : Int) * (W : Int)) = (((y0 + i / w) * W : Nat) : Int) := by rw [← Int.natCast_mul, wrap_i64_of (by omega) (by omega)]
    have w3 : IntKind.i64.wrap ((((y0 + i / w) * W : Nat) : Int) + (x : Int)) = (((y0 + i / w) * W + x : Nat) : Int) := by rw [wrap_i64_of (by omega) (by omega)]; omega
    have w4 : IntKind.i64.wrap ((((y0 + i / w) * W + x : Nat) : Int) + ((i % w : Nat) : Int)) = (((y0 + i / w) * W + x + i % w : Nat) : Int) := by rw [wrap_i64_of (by omega) (by omega)]; omega
    have hg := rf_get hn hx h y0 i (by omega) (by omega)
    have hw0 : ((w : Int) != 0) = true := by rw [bne_iff_ne]; omega
    rw [FL36_PicCrops_15, decide_eq_true (show (i : Int) < (p.L.length : Int) by omega), inR_nat (show i < p.L.length by omega), hpW, hw0, hy0, hW, hr0, w0, w00, w1, w2, w3, w4, inR_nat (by omega), wrap_succ (by omega)]
    simp only [cond_true, Int.toNat_natCast, hpL, hg, bne_self_eq_false, cond_false]
    exact ih (i + 1) K (by omega) (by omega)

def tailC (K : Nat) (a0 : TImage) (a1 : TRect) (a2 : TPoint) (u2 : TImage × Int) : Option Bool :=
  (FR27_Within K a1 a0.W a0.H).bind fun u19 =>
    bif !u19 then
      bif ((↑u2.fst.L.length : Int) == 0) then
        bif (bif true then u2.snd == 12 else false) then
          some (bif true then Fawake else false)
        else
          some false
      else
        some false
    else
      bif (u2.snd != 0) then
        some false
      else
        bif (bif false then true else u2.fst.W != IntKind.i64.wrap (a1.X1 - a1.X0)) then
          some false
        else
          bif (bif false then true else u2.fst.H != IntKind.i64.wrap (a1.Y1 - a1.Y0)) then
            some false
          else
            bif (bif false then true else (↑u2.fst.L.length : Int) != IntKind.i64.wrap (u2.fst.W * u2.fst.H)) then
              some false
            else
              FL36_PicCrops_15 a0 a1 a2 K u2.fst 0
/-- The part is told; the law's rest holds of it. -/
theorem crop_tail (K : Nat) (hK : 100000 ≤ K) (m : TImage) (r : TRect) (q : TPoint) (hl : m.L.length ≤ 3000) (hR : Fpic_Right K m = some true) (hm : 0 ≤ m.W ∧ m.W ≤ 256 ∧ 0 ≤ m.H ∧ m.H ≤ 256 ∧ (m.L.length : Int) = m.W * m.H) :
    ∃ u, Fpic_Crop K m r = some u ∧ tailC K m r q u = some true := by
  unfold Fpic_Crop tailC FR27_Within
  rw [hR]
  simp only [Option.bind_some, Bool.not_true, cond_false, cond_true]
  have no : ∀ b : Option Bool, b = some false → ∃ u, some ((⟨0, 0, []⟩ : TImage), (12 : Int)) = some u ∧ (b.bind fun u19 =>
    bif !u19 then
      bif ((↑u.fst.L.length : Int) == 0) then
        bif (u.snd == 12) then
          some Fawake
        else
          some false
      else
        some false
    else
      bif (u.snd != 0) then
        some false
      else
        bif (u.fst.W != IntKind.i64.wrap (r.X1 - r.X0)) then
          some false
        else
          bif (u.fst.H != IntKind.i64.wrap (r.Y1 - r.Y0)) then
            some false
          else
            bif ((↑u.fst.L.length : Int) != IntKind.i64.wrap (u.fst.W * u.fst.H)) then
              some false
            else
              FL36_PicCrops_15 m r q K u.fst 0) = some true := fun b hb => ⟨_, rfl, by rw [hb]; rfl⟩
  rcases Decidable.em (r.X0 < 0) with g1 | g1
  · rw [decide_eq_true g1, decide_eq_false (show ¬ r.X0 ≥ 0 by omega)]; exact no _ rfl
  rw [decide_eq_false g1, decide_eq_true (show r.X0 ≥ 0 by omega)]
  rcases Decidable.em (r.X1 < r.X0) with g2 | g2
  · rw [decide_eq_true g2, decide_eq_false (show ¬ r.X1 ≥ r.X0 by omega)]; exact no _ rfl
  rw [decide_eq_false g2, decide_eq_true (show r.X1 ≥ r.X0 by omega)]
  rcases Decidable.em (r.X1 > m.W) with g3 | g3
  · rw [decide_eq_true g3, decide_eq_false (show ¬ r.X1 ≤ m.W by omega)]; exact no _ rfl
  rw [decide_eq_false g3, decide_eq_true (show r.X1 ≤ m.W by omega)]
  rcases Decidable.em (r.Y0 < 0) with g4 | g4
  · rw [decide_eq_true g4, decide_eq_false (show ¬ r.Y0 ≥ 0 by omega)]; exact no _ rfl
  rw [decide_eq_false g4, decide_eq_true (show r.Y0 ≥ 0 by omega)]
  rcases Decidable.em (r.Y1 < r.Y0) with g5 | g5
  · rw [decide_eq_true g5, decide_eq_false (show ¬ r.Y1 ≥ r.Y0 by omega)]; exact no _ rfl
  rw [decide_eq_false g5, decide_eq_true (show r.Y1 ≥ r.Y0 by omega)]
  rcases Decidable.em (r.Y1 > m.H) with g6 | g6
  · rw [decide_eq_true g6, decide_eq_false (show ¬ r.Y1 ≤ m.H by omega)]; exact no _ rfl
  rw [decide_eq_false g6, decide_eq_true (show r.Y1 ≤ m.H by omega)]
  obtain ⟨W, hW⟩ : ∃ W : Nat, m.W = W := ⟨m.W.toNat, by omega⟩
  obtain ⟨H, hH⟩ : ∃ H : Nat, m.H = H := ⟨m.H.toNat, by omega⟩
  obtain ⟨x, hx⟩ : ∃ x : Nat, r.X0 = x := ⟨r.X0.toNat, by omega⟩
  obtain ⟨y0, hy0⟩ : ∃ y : Nat, r.Y0 = y := ⟨r.Y0.toNat, by omega⟩
  obtain ⟨w, hw⟩ : ∃ w : Nat, r.X1 = ((x + w : Nat) : Int) := ⟨(r.X1 - r.X0).toNat, by omega⟩
  obtain ⟨h, hh⟩ : ∃ h : Nat, r.Y1 = ((y0 + h : Nat) : Int) := ⟨(r.Y1 - r.Y0).toNat, by omega⟩
  have hn : m.L.length = W * H := by
    have := hm.2.2.2.2
    rw [hW, hH, ← Int.natCast_mul] at this
    omega
  have e1 : IntKind.i64.wrap (r.X1 - r.X0) = (w : Int) := by rw [wrap_i64_of] <;> omega
  have e2 : IntKind.i64.wrap (r.Y1 - r.Y0) = (h : Int) := by rw [wrap_i64_of] <;> omega
  have hc := crop_loop m r hW hn (show x + w ≤ W by omega) hx hw hh ⟨by omega, by omega⟩ (show y0 + h ≤ H by omega) h y0 K [] rfl (by omega) (by simp; omega)
  rw [hy0]
  simp only [cond_false, cond_true]
  rw [hc, e1, ← hy0, e2, List.nil_append]
  refine ⟨_, rfl, ?_⟩
  have hlen := rf_len hn (show x + w ≤ W by omega) h y0 (by omega)
  have hmx : h * w ≤ 256 * 256 := Nat.mul_le_mul (by omega) (by omega)
  have e3 : IntKind.i64.wrap ((w : Int) * (h : Int)) = (((rf m.L W x w h y0).length : Nat) : Int) := by
    rw [← Int.natCast_mul, Nat.mul_comm w h, hlen, wrap_i64_of] <;> omega
  have hlp := crops_loop m r q hW hn (show x + w ≤ W by omega) hx hy0 ⟨by omega, by omega⟩ (show y0 + h ≤ H by omega) ⟨(w : Int), (h : Int), rf m.L W x w h y0⟩ rfl rfl (h * w) 0 K (by omega) (by omega)
  simp only [Option.bind_some, Bool.not_true, cond_false, e1, e2, e3, bne_self_eq_false]
  exact hlp
theorem FL_crops (K : Nat) (hK : 100000 ≤ K) (m : TImage) (r : TRect) (q : TPoint) : FL36_PicCrops K m r q = some true := by
  unfold FL36_PicCrops
  rcases Decidable.em ((m.L.length : Int) > 3000) with g1 | g1
  · rw [decide_eq_true g1]; rfl
  rw [decide_eq_false g1]
  obtain ⟨x, hx1, hx2, hx3⟩ := right_same m (by omega) (K := K) (by omega)
  cases x with
  | false =>
    unfold Fpic_Crop Fpic_At
    rw [hx1, hx2]
    rfl
  | true =>
    have hm := hx3 rfl
    obtain ⟨u, hu1, hu2⟩ := crop_tail K hK m r q (by omega) hx2 hm
    unfold Fpic_At
    rw [hu1, hx1, hx2]
    simp only [Option.bind_some, Bool.not_true, cond_false]
    rcases Decidable.em (q.X < 0) with c1 | c1
    · rw [decide_eq_true c1, decide_eq_false (show ¬ q.X ≥ 0 by omega)]; exact hu2
    rw [decide_eq_false c1, decide_eq_true (show q.X ≥ 0 by omega)]
    rcases Decidable.em (q.X ≥ m.W) with c2 | c2
    · rw [decide_eq_true c2, decide_eq_false (show ¬ q.X < m.W by omega)]; exact hu2
    rw [decide_eq_false c2, decide_eq_true (show q.X < m.W by omega)]
    rcases Decidable.em (q.Y < 0) with c3 | c3
    · rw [decide_eq_true c3, decide_eq_false (show ¬ q.Y ≥ 0 by omega)]; exact hu2
    rw [decide_eq_false c3, decide_eq_true (show q.Y ≥ 0 by omega)]
    rcases Decidable.em (q.Y ≥ m.H) with c4 | c4
    · rw [decide_eq_true c4, decide_eq_false (show ¬ q.Y < m.H by omega)]; exact hu2
    rw [decide_eq_false c4, decide_eq_true (show q.Y < m.H by omega)]
    obtain ⟨W, hW⟩ : ∃ W : Nat, m.W = W := ⟨m.W.toNat, by omega⟩
    obtain ⟨H, hH⟩ : ∃ H : Nat, m.H = H := ⟨m.H.toNat, by omega⟩
    obtain ⟨a, ha⟩ : ∃ a : Nat, q.X = a := ⟨q.X.toNat, by omega⟩
    obtain ⟨b, hb⟩ : ∃ b : Nat, q.Y = b := ⟨q.Y.toNat, by omega⟩
    have hn : m.L.length = W * H := by
      have := hm.2.2.2.2
      rw [hW, hH, ← Int.natCast_mul] at this
      omega
    have hrow := row_le hn (show a + 1 ≤ W by omega) (show b < H by omega)
    have hbW : b * W ≤ 256 * 256 := Nat.mul_le_mul (by omega) (by omega)
    have w1 : IntKind.i64.wrap ((b : Int) * (W : Int)) = ((b * W : Nat) : Int) := by rw [← Int.natCast_mul, wrap_i64_of (by omega) (by omega)]
    have w2 : IntKind.i64.wrap (((b * W : Nat) : Int) + (a : Int)) = ((b * W + a : Nat) : Int) := by rw [wrap_i64_of (by omega) (by omega)]; omega
    have e : inR (IntKind.i64.wrap (IntKind.i64.wrap (q.Y * m.W) + q.X)) m.L.length = true := by
      rw [hb, hW, ha, w1, w2]; exact inR_nat (by omega)
    rw [e]
    simp only [cond_true, cond_false, Option.bind_some, bne_self_eq_false]
    exact hu2
theorem picCrops_walk (m : TImage) (r : TRect) (q : TPoint) : Con Tryd.prog 5 [.agg ⟨[.int .i64 m.W, .int .i64 m.H, lst m.L]⟩, .agg ⟨[.int .i64 r.X0, .int .i64 r.Y0, .int .i64 r.X1, .int .i64 r.Y1]⟩, .agg ⟨[.int .i64 q.X, .int .i64 q.Y]⟩] (.bool true) :=
  cL36_PicCrops 100000 m r q true (FL_crops 100000 (Nat.le_refl _) m r q)

end

end Go.Proofs.YtllcomjnmkcdpaaDoor.Lf
