/- Several texts in one: EVh, EVe. -/
import Derived.Test.YtdmcdijlpnbghaaGreatDoorQI22
import Derived.Test.YtdmcdijlpnbghaaGreatDoorQI23
import Derived.Test.YtdmcdijlpnbghaaGreatDoorQI21
import Derived.Deep.RegionWith
namespace Go.Proofs.YtdmcdijlpnbghaaGreatDoor.Lf

section
open Go Go.Dt Go.Proofs
set_option linter.unusedVariables false

/-! ### 67 -/
abbrev Enum_lay : ByteArray → Value := fun r => .string r
def Fnum_lay_3 (a0 : Int) (a1 : Int) : Nat → Int → (List U8) → Option ByteArray
  | 0, _, _ => none
  | K + 1, p0, p5 =>
    bif (decide (p0 > 0)) then
      bif a1 != 0 then
        bif inR (p0.tmod a1) (ByteArray.mk #[OfNat.ofNat 48, OfNat.ofNat 49, OfNat.ofNat 50, OfNat.ofNat 51, OfNat.ofNat 52, OfNat.ofNat 53, OfNat.ofNat 54, OfNat.ofNat 55, OfNat.ofNat 56, OfNat.ofNat 57, OfNat.ofNat 97, OfNat.ofNat 98, OfNat.ofNat 99, OfNat.ofNat 100, OfNat.ofNat 101, OfNat.ofNat 102]).size then
          bif room (p5.length + ([⟨byteAt (ByteArray.mk #[OfNat.ofNat 48, OfNat.ofNat 49, OfNat.ofNat 50, OfNat.ofNat 51, OfNat.ofNat 52, OfNat.ofNat 53, OfNat.ofNat 54, OfNat.ofNat 55, OfNat.ofNat 56, OfNat.ofNat 57, OfNat.ofNat 97, OfNat.ofNat 98, OfNat.ofNat 99, OfNat.ofNat 100, OfNat.ofNat 101, OfNat.ofNat 102]) (p0.tmod a1)⟩] : List U8).length) 1 then
            bif a1 != 0 then
              Fnum_lay_3 a0 a1 K (IntKind.u64.wrap (p0.tdiv a1)) (p5 ++ [U8.mk (byteAt (ByteArray.mk #[OfNat.ofNat 48, OfNat.ofNat 49, OfNat.ofNat 50, OfNat.ofNat 51, OfNat.ofNat 52, OfNat.ofNat 53, OfNat.ofNat 54, OfNat.ofNat 55, OfNat.ofNat 56, OfNat.ofNat 57, OfNat.ofNat 97, OfNat.ofNat 98, OfNat.ofNat 99, OfNat.ofNat 100, OfNat.ofNat 101, OfNat.ofNat 102]) (p0.tmod a1))])
            else none
          else none
        else none
      else none
    else
      (Fslices_Reverse K p5).bind fun u8 =>
      some (strU u8.snd)
def Fnum_lay (K : Nat) (a0 : Int) (a1 : Int) : Option ByteArray :=
  bif a1 != 0 then
    bif inR (a0.tmod a1) (ByteArray.mk #[OfNat.ofNat 48, OfNat.ofNat 49, OfNat.ofNat 50, OfNat.ofNat 51, OfNat.ofNat 52, OfNat.ofNat 53, OfNat.ofNat 54, OfNat.ofNat 55, OfNat.ofNat 56, OfNat.ofNat 57, OfNat.ofNat 97, OfNat.ofNat 98, OfNat.ofNat 99, OfNat.ofNat 100, OfNat.ofNat 101, OfNat.ofNat 102]).size then
      bif a1 != 0 then
        Fnum_lay_3 a0 a1 K (IntKind.u64.wrap (a0.tdiv a1)) (([⟨byteAt (ByteArray.mk #[OfNat.ofNat 48, OfNat.ofNat 49, OfNat.ofNat 50, OfNat.ofNat 51, OfNat.ofNat 52, OfNat.ofNat 53, OfNat.ofNat 54, OfNat.ofNat 55, OfNat.ofNat 56, OfNat.ofNat 57, OfNat.ofNat 97, OfNat.ofNat 98, OfNat.ofNat 99, OfNat.ofNat 100, OfNat.ofNat 101, OfNat.ofNat 102]) (a0.tmod a1)⟩] : List U8))
      else none
    else none
  else none
def Hnum_lay_35O (fn : Func) (a0 : Int) (a1 : Int) (p0 : Int) (np5 : Nat) (p5 : List U8) : VS := headS fn 3 [(0, .int .u64 p0), (1, (Value.int IntKind.u64 a1)), (5, .slice (some ⟨0, 0, none⟩) np5 np5)] [ownB p5]
theorem lnum_lay (a0 : Int) (a1 : Int) : ∀ K : Nat, (∀ (p0 : Int) (np5 : Nat) (p5 : List U8) (_ : np5 = p5.length), Lifts Tryz.prog 67 0 Enum_lay (Hnum_lay_35O Tryz.f67 a0 a1 p0 np5 p5) (Fnum_lay_3 a0 a1 K p0 p5)) := by
  intro K
  induction K with
  | zero =>
    exact fun p0 np5 p5 ep5 => (by rw [Fnum_lay_3]; exact L.no)
  | succ K ih =>
    have IH35O := ih
    refine fun p0 np5 p5 ep5 => ?_
    · subst ep5; rw [Fnum_lay_3]
      exact
        L.br mixed 6 _ (by kernel_rfl)
          (fun h4 =>
          L.div mixed 7 true IntKind.u64 p0 _ (by kernel_rfl) (fun hd7 =>
          L.strIdx mixed 0 9 _ IntKind.u64 _ (by kernel_rfl) (by kernel_rfl) (fun h5a h5b =>
          L.app mixed 1 0 1 1 0 p5.length [(Value.int IntKind.u8 (byteAt (ByteArray.mk #[OfNat.ofNat 48, OfNat.ofNat 49, OfNat.ofNat 50, OfNat.ofNat 51, OfNat.ofNat 52, OfNat.ofNat 53, OfNat.ofNat 54, OfNat.ofNat 55, OfNat.ofNat 56, OfNat.ofNat 57, OfNat.ofNat 97, OfNat.ofNat 98, OfNat.ofNat 99, OfNat.ofNat 100, OfNat.ofNat 101, OfNat.ofNat 102]) (p0.tmod a1)))] p5 ([⟨byteAt (ByteArray.mk #[OfNat.ofNat 48, OfNat.ofNat 49, OfNat.ofNat 50, OfNat.ofNat 51, OfNat.ofNat 52, OfNat.ofNat 53, OfNat.ofNat 54, OfNat.ofNat 55, OfNat.ofNat 56, OfNat.ofNat 57, OfNat.ofNat 97, OfNat.ofNat 98, OfNat.ofNat 99, OfNat.ofNat 100, OfNat.ofNat 101, OfNat.ofNat 102]) (p0.tmod a1)⟩] : List U8) (by first | rfl | exact Eq.symm (by assumption) | (simp; done) | (simp [*]; done)) (by kernel_rfl) (by kernel_rfl) (Nat.le_of_ble_eq_true (by kernel_rfl)) (Nat.le_of_ble_eq_true (by kernel_rfl)) (by kernel_rfl) <|
          L.div mixed 6 false IntKind.u64 p0 _ (by kernel_rfl) (fun hd6 =>
          L.jumpG mixed 3 [0, 1, 5] [.ownp 2] [rows (p5 ++ [U8.mk (byteAt (ByteArray.mk #[OfNat.ofNat 48, OfNat.ofNat 49, OfNat.ofNat 50, OfNat.ofNat 51, OfNat.ofNat 52, OfNat.ofNat 53, OfNat.ofNat 54, OfNat.ofNat 55, OfNat.ofNat 56, OfNat.ofNat 57, OfNat.ofNat 97, OfNat.ofNat 98, OfNat.ofNat 99, OfNat.ofNat 100, OfNat.ofNat 101, OfNat.ofNat 102]) (p0.tmod a1))])] (by kernel_rfl) (by kernel_rfl) (by kernel_rfl) ⟨rows_pure _, trivial⟩ (by kernel_rfl) (by kernel_rfl) (IH35O (IntKind.u64.wrap (p0.tdiv a1)) ((p5 ++ [U8.mk (byteAt (ByteArray.mk #[OfNat.ofNat 48, OfNat.ofNat 49, OfNat.ofNat 50, OfNat.ofNat 51, OfNat.ofNat 52, OfNat.ofNat 53, OfNat.ofNat 54, OfNat.ofNat 55, OfNat.ofNat 56, OfNat.ofNat 57, OfNat.ofNat 97, OfNat.ofNat 98, OfNat.ofNat 99, OfNat.ofNat 100, OfNat.ofNat 101, OfNat.ofNat 102]) (p0.tmod a1))]).length) (p5 ++ [U8.mk (byteAt (ByteArray.mk #[OfNat.ofNat 48, OfNat.ofNat 49, OfNat.ofNat 50, OfNat.ofNat 51, OfNat.ofNat 52, OfNat.ofNat 53, OfNat.ofNat 54, OfNat.ofNat 55, OfNat.ofNat 56, OfNat.ofNat 57, OfNat.ofNat 97, OfNat.ofNat 98, OfNat.ofNat 99, OfNat.ofNat 100, OfNat.ofNat 101, OfNat.ofNat 102]) (p0.tmod a1))]) (by first | rfl | exact Eq.symm (by assumption) | (simp; done) | (simp [*]; done)))))))
          (fun h4 =>
          L.callPO mixed [.ownp 0] [0] [rows p5] (fun u8 : Unit × (List U8) => .tuple ⟨[]⟩) (fun u8 : Unit × (List U8) => [ownB u8.2]) (cslices_Reverse K p5) (by kernel_rfl) (fun _ => by kernel_rfl) (by kernel_rfl) ⟨rows_pure _, trivial⟩ (fun _ => ⟨rows_pure _, trivial⟩) (fun u8 hu8 =>
          have el8 : u8.2.length = p5.length := lenslices_Reverse hu8
          L.bytesO mixed 4 0 p5.length u8.snd (by first | rfl | exact Eq.symm (by assumption) | (simp; done) | (simp [*]; done)) (by kernel_rfl) <|
          L.ret _ mixed Tryz.func67 _ (by kernel_rfl) rfl))
theorem cnum_lay (K : Nat) (a0 : Int) (a1 : Int) : ∀ r, Fnum_lay K a0 a1 = some r → Con Tryz.prog 67 [.int .u64 a0, .int .u64 a1] (Enum_lay r) := by
  have IH35O := lnum_lay a0 a1 K
  refine Con.lift Tryz.func67 (by kernel_rfl) rfl (fun _ => rfl) ?_
  unfold Fnum_lay
  exact
    L.div mixed 8 true IntKind.u64 a0 _ (by kernel_rfl) (fun hd3 =>
    L.strIdx mixed 0 9 _ IntKind.u64 _ (by kernel_rfl) (by kernel_rfl) (fun h1a h1b =>
    L.div mixed 8 false IntKind.u64 a0 _ (by kernel_rfl) (fun hd2 =>
    L.jump mixed 4 [0, 1, 5] (by kernel_rfl) (IH35O (IntKind.u64.wrap (a0.tdiv a1)) 1 (([⟨byteAt (ByteArray.mk #[OfNat.ofNat 48, OfNat.ofNat 49, OfNat.ofNat 50, OfNat.ofNat 51, OfNat.ofNat 52, OfNat.ofNat 53, OfNat.ofNat 54, OfNat.ofNat 55, OfNat.ofNat 56, OfNat.ofNat 57, OfNat.ofNat 97, OfNat.ofNat 98, OfNat.ofNat 99, OfNat.ofNat 100, OfNat.ofNat 101, OfNat.ofNat 102]) (a0.tmod a1)⟩] : List U8)) (by first | rfl | exact Eq.symm (by assumption) | (simp; done) | (simp [*]; done))))))
/-! ### 47 -/
abbrev Enum_Dec : ByteArray → Value := fun r => .string r
def Fnum_Dec (K : Nat) (a0 : Int) : Option ByteArray :=
  bif (decide (a0 < 0)) then
    (Fnum_lay K (IntKind.u64.wrap (0 - IntKind.u64.wrap a0)) 10).bind fun u2 =>
    bif catOk (ByteArray.mk #[OfNat.ofNat 45]) u2 then
      some (ByteArray.mk #[OfNat.ofNat 45] ++ u2)
    else none
  else
    (Fnum_lay K (IntKind.u64.wrap a0) 10).bind fun u3 =>
    some u3
theorem cnum_Dec (K : Nat) (a0 : Int) : ∀ r, Fnum_Dec K a0 = some r → Con Tryz.prog 47 [.int .i64 a0] (Enum_Dec r) := by
  refine Con.lift Tryz.func47 (by kernel_rfl) rfl (fun _ => rfl) ?_
  unfold Fnum_Dec
  exact
    L.br mixed 10 _ (by kernel_rfl)
      (fun h1 =>
      L.callO mixed (fun u2 : ByteArray => .string u2) (cnum_lay K (IntKind.u64.wrap (0 - IntKind.u64.wrap a0)) 10) (by kernel_rfl) (fun u2 hu2 =>
      L.cat mixed 0 (ByteArray.mk #[OfNat.ofNat 45]) u2 (by kernel_rfl) <|
      L.ret _ mixed Tryz.func47 _ (by kernel_rfl) rfl))
      (fun h1 =>
      L.callO mixed (fun u3 : ByteArray => .string u3) (cnum_lay K (IntKind.u64.wrap a0) 10) (by kernel_rfl) (fun u3 hu3 =>
      L.ret _ mixed Tryz.func47 _ (by kernel_rfl) rfl))
/-! ### 58 -/
/-! ### 31 -/
abbrev ER03_Dec : ByteArray → Value := fun r => .string r
def FR03_Dec : Nat → Int → Option ByteArray
  | 0, _ => none
  | K + 1, a0 =>
    bif (decide (a0 < 0)) then
      bif (decide (a0 > -10)) then
        some (ByteArray.mk #[OfNat.ofNat 45] ++ strU [U8.mk (IntKind.u8.wrap (IntKind.i64.wrap (48 - a0)))])
      else
        (FR03_Dec K (IntKind.i64.wrap (a0.tdiv 10))).bind fun u3 =>
        bif catOk u3 (strU [U8.mk (IntKind.u8.wrap (IntKind.i64.wrap (48 - a0.tmod (OfNat.ofNat 10))))]) then
          some (u3 ++ strU [U8.mk (IntKind.u8.wrap (IntKind.i64.wrap (48 - a0.tmod (OfNat.ofNat 10))))])
        else none
    else
      bif (decide (a0 < 10)) then
        some (strU [U8.mk (IntKind.u8.wrap (IntKind.i64.wrap (48 + a0)))])
      else
        (FR03_Dec K (IntKind.i64.wrap (a0.tdiv 10))).bind fun u5 =>
        bif catOk u5 (strU [U8.mk (IntKind.u8.wrap (IntKind.i64.wrap (48 + a0.tmod (OfNat.ofNat 10))))]) then
          some (u5 ++ strU [U8.mk (IntKind.u8.wrap (IntKind.i64.wrap (48 + a0.tmod (OfNat.ofNat 10))))])
        else none
theorem cR03_Dec : ∀ (K : Nat) (a0 : Int), ∀ r, FR03_Dec K a0 = some r → Con Tryz.prog 31 [.int .i64 a0] (ER03_Dec r) := by
  intro K
  induction K with
  | zero =>
    intro a0 r hr
    rw [FR03_Dec] at hr
    cases hr
  | succ K ih =>
    intro a0
    refine Con.lift Tryz.func31 (by kernel_rfl) rfl (fun _ => rfl) ?_
    rw [FR03_Dec]
    exact
      L.br mixed 10 _ (by kernel_rfl)
        (fun h1 =>
        L.br mixed 6 _ (by kernel_rfl)
          (fun h2 =>
          L.bytesO mixed 6 0 1 (([⟨IntKind.u8.wrap (IntKind.i64.wrap (48 - a0))⟩] : List U8)) (by first | rfl | exact Eq.symm (by assumption) | (simp; done) | (simp [*]; done)) (by kernel_rfl) <|
          L.ret _ mixed Tryz.func31 _ (by kernel_rfl) rfl)
          (fun h2 =>
          L.callO mixed (fun u3 : ByteArray => .string u3) (ih (IntKind.i64.wrap (a0.tdiv 10))) (by kernel_rfl) (fun u3 hu3 =>
          L.bytesO mixed 5 0 1 (([⟨IntKind.u8.wrap (IntKind.i64.wrap (48 - a0.tmod 10))⟩] : List U8)) (by first | rfl | exact Eq.symm (by assumption) | (simp; done) | (simp [*]; done)) (by kernel_rfl) <|
          L.cat mixed 0 u3 (strU [U8.mk (IntKind.u8.wrap (IntKind.i64.wrap (48 - a0.tmod (OfNat.ofNat 10))))]) (by kernel_rfl) <|
          L.ret _ mixed Tryz.func31 _ (by kernel_rfl) rfl)))
        (fun h1 =>
        L.br mixed 7 _ (by kernel_rfl)
          (fun h4 =>
          L.bytesO mixed 6 0 1 (([⟨IntKind.u8.wrap (IntKind.i64.wrap (48 + a0))⟩] : List U8)) (by first | rfl | exact Eq.symm (by assumption) | (simp; done) | (simp [*]; done)) (by kernel_rfl) <|
          L.ret _ mixed Tryz.func31 _ (by kernel_rfl) rfl)
          (fun h4 =>
          L.callO mixed (fun u5 : ByteArray => .string u5) (ih (IntKind.i64.wrap (a0.tdiv 10))) (by kernel_rfl) (fun u5 hu5 =>
          L.bytesO mixed 5 0 1 (([⟨IntKind.u8.wrap (IntKind.i64.wrap (48 + a0.tmod 10))⟩] : List U8)) (by first | rfl | exact Eq.symm (by assumption) | (simp; done) | (simp [*]; done)) (by kernel_rfl) <|
          L.cat mixed 0 u5 (strU [U8.mk (IntKind.u8.wrap (IntKind.i64.wrap (48 + a0.tmod (OfNat.ofNat 10))))]) (by kernel_rfl) <|
          L.ret _ mixed Tryz.func31 _ (by kernel_rfl) rfl)))
/-! ### 75 -/
/-! ### 27 -/
abbrev ER03_Undec : Int × Bool → Value := fun r => .tuple ⟨[.int .i64 r.1, .bool r.2]⟩
def FR03_Undec_6 (a0 : ByteArray) : Nat → Int → Int → Option (Int × Bool)
  | 0, _, _ => none
  | K + 1, p5, p6 =>
    bif (decide (p6 < (↑a0.size : Int))) then
      bif (p6 == 0) then
        bif (bif true then byteAt a0 0 == 45 else false) then
          FR03_Undec_6 a0 K p5 (IntKind.i64.wrap (p6 + 1))
        else
          bif inR p6 a0.size then
            bif (decide (byteAt a0 p6 < 48)) then
              some ((0, false))
            else
              bif inR p6 a0.size then
                bif (bif false then true else decide (byteAt a0 p6 > 57)) then
                  some ((0, false))
                else
                  bif inR p6 a0.size then
                    FR03_Undec_6 a0 K (IntKind.u64.wrap (IntKind.u64.wrap (IntKind.u64.wrap (p5 * 10) + IntKind.u64.wrap (byteAt a0 p6)) - 48)) (IntKind.i64.wrap (p6 + 1))
                  else none
              else none
          else none
      else
        bif inR p6 a0.size then
          bif (decide (byteAt a0 p6 < 48)) then
            some ((0, false))
          else
            bif inR p6 a0.size then
              bif (bif false then true else decide (byteAt a0 p6 > 57)) then
                some ((0, false))
              else
                bif inR p6 a0.size then
                  FR03_Undec_6 a0 K (IntKind.u64.wrap (IntKind.u64.wrap (IntKind.u64.wrap (p5 * 10) + IntKind.u64.wrap (byteAt a0 p6)) - 48)) (IntKind.i64.wrap (p6 + 1))
                else none
            else none
        else none
    else
      bif (byteAt a0 0 == 45) then
        (FR03_Dec K (IntKind.i64.wrap (0 - IntKind.i64.wrap p5))).bind fun u18 =>
        some ((IntKind.i64.wrap (0 - IntKind.i64.wrap p5), u18.toList == a0.toList))
      else
        (FR03_Dec K (IntKind.i64.wrap p5)).bind fun u19 =>
        some ((IntKind.i64.wrap p5, u19.toList == a0.toList))
def FR03_Undec (K : Nat) (a0 : ByteArray) : Option (Int × Bool) :=
  bif ((↑a0.size : Int) == 0) then
    some ((0, false))
  else
    bif (bif false then true else decide ((↑a0.size : Int) > 20)) then
      some ((0, false))
    else
      bif inR 0 a0.size then
        FR03_Undec_6 a0 K 0 0
      else none
def HR03_Undec_6 (fn : Func) (a0 : ByteArray) (p5 : Int) (p6 : Int) : VS := headS fn 6 [(0, (Value.string a0)), (4, (Value.bool (byteAt a0 0 == 45))), (5, .int .u64 p5), (6, .int .i64 p6)] []
theorem lR03_Undec (a0 : ByteArray) : ∀ K : Nat, (∀ (p5 : Int) (p6 : Int), Lifts Tryz.prog 27 0 ER03_Undec (HR03_Undec_6 Tryz.f27 a0 p5 p6) (FR03_Undec_6 a0 K p5 p6)) := by
  intro K
  induction K with
  | zero =>
    exact fun p5 p6 => (by rw [FR03_Undec_6]; exact L.no)
  | succ K ih =>
    have IH6 := ih
    refine fun p5 p6 => ?_
    · rw [FR03_Undec_6]
      exact
        L.br mixed 8 _ (by kernel_rfl)
          (fun h4 =>
          L.gu mixed 9 _ (by kernel_rfl)
            (fun h5 =>
            L.br mixed 3 _ (by kernel_rfl)
              (fun h6 =>
              L.jump mixed 7 [0, 4, 5, 6] (by kernel_rfl) (IH6 p5 (IntKind.i64.wrap (p6 + 1))))
              (fun h6 =>
              L.strIdx mixed 6 9 _ IntKind.i64 _ (by kernel_rfl) (by kernel_rfl) (fun h7a h7b =>
              L.gu mixed 2 _ (by kernel_rfl)
                (fun h8 =>
                L.ret _ mixed Tryz.func27 _ (by kernel_rfl) rfl)
                (fun h8 =>
                L.strIdx mixed 2 9 _ IntKind.i64 _ (by kernel_rfl) (by kernel_rfl) (fun h9a h9b =>
                L.br mixed 3 _ (by kernel_rfl)
                  (fun h10 =>
                  L.ret _ mixed Tryz.func27 _ (by kernel_rfl) rfl)
                  (fun h10 =>
                  L.strIdx mixed 6 9 _ IntKind.i64 _ (by kernel_rfl) (by kernel_rfl) (fun h11a h11b =>
                  L.jump mixed 12 [0, 4, 5, 6] (by kernel_rfl) (IH6 (IntKind.u64.wrap (IntKind.u64.wrap (IntKind.u64.wrap (p5 * 10) + IntKind.u64.wrap (byteAt a0 p6)) - 48)) (IntKind.i64.wrap (p6 + 1))))))))))
            (fun h5 =>
            L.strIdx mixed 10 9 _ IntKind.i64 _ (by kernel_rfl) (by kernel_rfl) (fun h12a h12b =>
            L.gu mixed 2 _ (by kernel_rfl)
              (fun h13 =>
              L.ret _ mixed Tryz.func27 _ (by kernel_rfl) rfl)
              (fun h13 =>
              L.strIdx mixed 2 9 _ IntKind.i64 _ (by kernel_rfl) (by kernel_rfl) (fun h14a h14b =>
              L.br mixed 3 _ (by kernel_rfl)
                (fun h15 =>
                L.ret _ mixed Tryz.func27 _ (by kernel_rfl) rfl)
                (fun h15 =>
                L.strIdx mixed 6 9 _ IntKind.i64 _ (by kernel_rfl) (by kernel_rfl) (fun h16a h16b =>
                L.jump mixed 12 [0, 4, 5, 6] (by kernel_rfl) (IH6 (IntKind.u64.wrap (IntKind.u64.wrap (IntKind.u64.wrap (p5 * 10) + IntKind.u64.wrap (byteAt a0 p6)) - 48)) (IntKind.i64.wrap (p6 + 1))))))))))
          (fun h4 =>
          L.br mixed 12 _ (by kernel_rfl)
            (fun h17 =>
            L.callO mixed (fun u18 : ByteArray => .string u18) (cR03_Dec K (IntKind.i64.wrap (0 - IntKind.i64.wrap p5))) (by kernel_rfl) (fun u18 hu18 =>
            L.ret _ mixed Tryz.func27 _ (by kernel_rfl) rfl))
            (fun h17 =>
            L.callO mixed (fun u19 : ByteArray => .string u19) (cR03_Dec K (IntKind.i64.wrap p5)) (by kernel_rfl) (fun u19 hu19 =>
            L.ret _ mixed Tryz.func27 _ (by kernel_rfl) rfl)))
theorem cR03_Undec (K : Nat) (a0 : ByteArray) : ∀ r, FR03_Undec K a0 = some r → Con Tryz.prog 27 [.string a0] (ER03_Undec r) := by
  have IH6 := lR03_Undec a0 K
  refine Con.lift Tryz.func27 (by kernel_rfl) rfl (fun _ => rfl) ?_
  unfold FR03_Undec
  exact
    L.gu mixed 12 _ (by kernel_rfl)
      (fun h1 =>
      L.ret _ mixed Tryz.func27 _ (by kernel_rfl) rfl)
      (fun h1 =>
      L.br mixed 5 _ (by kernel_rfl)
        (fun h2 =>
        L.ret _ mixed Tryz.func27 _ (by kernel_rfl) rfl)
        (fun h2 =>
        L.strIdx mixed 4 9 _ IntKind.i64 _ (by kernel_rfl) (by kernel_rfl) (fun h3a h3b =>
        L.jump mixed 14 [0, 4, 5, 6] (by kernel_rfl) (IH6 0 0))))
/-! ### 90 -/
abbrev ER04_Sign : Bool → Value := fun r => .bool r
def FR04_Sign (K : Nat) (a0 : Int) : Option Bool :=
  bif (decide (a0 ≥ 0)) then
    bif (bif true then decide (a0 < 55296) else false) then
      some true
    else
      bif (decide (a0 > 57343)) then
        some (bif false then true else bif true then decide (a0 ≤ 1114111) else false)
      else
        some (bif false then true else false)
  else
    bif (decide (a0 > 57343)) then
      some (bif false then true else bif true then decide (a0 ≤ 1114111) else false)
    else
      some (bif false then true else false)
theorem cR04_Sign (K : Nat) (a0 : Int) : ∀ r, FR04_Sign K a0 = some r → Con Tryz.prog 90 [.int .i64 a0] (ER04_Sign r) := by
  refine Con.lift Tryz.func90 (by kernel_rfl) rfl (fun _ => rfl) ?_
  unfold FR04_Sign
  exact
    L.gu mixed 9 _ (by kernel_rfl)
      (fun h1 =>
      L.gu mixed 4 _ (by kernel_rfl)
        (fun h2 =>
        L.ret _ mixed Tryz.func90 _ (by kernel_rfl) rfl)
        (fun h2 =>
        L.gu mixed 3 _ (by kernel_rfl)
          (fun h3 =>
          L.ret _ mixed Tryz.func90 _ (by kernel_rfl) rfl)
          (fun h3 =>
          L.ret _ mixed Tryz.func90 _ (by kernel_rfl) rfl)))
      (fun h1 =>
      L.gu mixed 7 _ (by kernel_rfl)
        (fun h4 =>
        L.ret _ mixed Tryz.func90 _ (by kernel_rfl) rfl)
        (fun h4 =>
        L.ret _ mixed Tryz.func90 _ (by kernel_rfl) rfl))
/-! ### 91 -/
abbrev ER04_Lay : List U8 → Value := fun r => lst r
def FR04_Lay (K : Nat) (a0 : Int) : Option (List U8) :=
  bif (decide (a0 < 128)) then
    some [U8.mk (IntKind.u8.wrap a0)]
  else
    bif (decide (a0 < 2048)) then
      some [U8.mk (IntKind.u8.wrap (IntKind.i64.wrap (192 + IntKind.i64.wrap (a0.tdiv (OfNat.ofNat 64))))), U8.mk (IntKind.u8.wrap (IntKind.i64.wrap (128 + a0.tmod (OfNat.ofNat 64))))]
    else
      bif (decide (a0 < 65536)) then
        some [U8.mk (IntKind.u8.wrap (IntKind.i64.wrap (224 + IntKind.i64.wrap (a0.tdiv (OfNat.ofNat 4096))))), U8.mk (IntKind.u8.wrap (IntKind.i64.wrap (128 + (IntKind.i64.wrap (a0.tdiv (OfNat.ofNat 64))).tmod (OfNat.ofNat 64)))), U8.mk (IntKind.u8.wrap (IntKind.i64.wrap (128 + a0.tmod (OfNat.ofNat 64))))]
      else
        some [U8.mk (IntKind.u8.wrap (IntKind.i64.wrap (240 + IntKind.i64.wrap (a0.tdiv (OfNat.ofNat 262144))))), U8.mk (IntKind.u8.wrap (IntKind.i64.wrap (128 + (IntKind.i64.wrap (a0.tdiv (OfNat.ofNat 4096))).tmod (OfNat.ofNat 64)))), U8.mk (IntKind.u8.wrap (IntKind.i64.wrap (128 + (IntKind.i64.wrap (a0.tdiv (OfNat.ofNat 64))).tmod (OfNat.ofNat 64)))), U8.mk (IntKind.u8.wrap (IntKind.i64.wrap (128 + a0.tmod (OfNat.ofNat 64))))]
theorem cR04_Lay (K : Nat) (a0 : Int) : ∀ r, FR04_Lay K a0 = some r → Con Tryz.prog 91 [.int .i64 a0] (ER04_Lay r) := by
  refine Con.lift Tryz.func91 (by kernel_rfl) rfl (fun _ => rfl) ?_
  unfold FR04_Lay
  exact
    L.br mixed 10 _ (by kernel_rfl)
      (fun h1 =>
      L.frzO mixed 7 2 0 1 (([⟨IntKind.u8.wrap a0⟩] : List U8)) (by first | rfl | exact Eq.symm (by assumption) | (simp; done) | (simp [*]; done)) (by kernel_rfl) (by kernel_rfl) (by kernel_rfl) <|
      L.ret _ mixed Tryz.func91 _ (by kernel_rfl) rfl)
      (fun h1 =>
      L.br mixed 7 _ (by kernel_rfl)
        (fun h2 =>
        L.frzO mixed 13 2 0 2 (([⟨IntKind.u8.wrap (IntKind.i64.wrap (192 + IntKind.i64.wrap (a0.tdiv 64)))⟩, ⟨IntKind.u8.wrap (IntKind.i64.wrap (128 + a0.tmod 64))⟩] : List U8)) (by first | rfl | exact Eq.symm (by assumption) | (simp; done) | (simp [*]; done)) (by kernel_rfl) (by kernel_rfl) (by kernel_rfl) <|
        L.ret _ mixed Tryz.func91 _ (by kernel_rfl) rfl)
        (fun h2 =>
        L.br mixed 7 _ (by kernel_rfl)
          (fun h3 =>
          L.frzO mixed 18 2 0 3 (([⟨IntKind.u8.wrap (IntKind.i64.wrap (224 + IntKind.i64.wrap (a0.tdiv 4096)))⟩, ⟨IntKind.u8.wrap (IntKind.i64.wrap (128 + (IntKind.i64.wrap (a0.tdiv 64)).tmod 64))⟩, ⟨IntKind.u8.wrap (IntKind.i64.wrap (128 + a0.tmod 64))⟩] : List U8)) (by first | rfl | exact Eq.symm (by assumption) | (simp; done) | (simp [*]; done)) (by kernel_rfl) (by kernel_rfl) (by kernel_rfl) <|
          L.ret _ mixed Tryz.func91 _ (by kernel_rfl) rfl)
          (fun h3 =>
          L.frzO mixed 24 2 0 4 (([⟨IntKind.u8.wrap (IntKind.i64.wrap (240 + IntKind.i64.wrap (a0.tdiv 262144)))⟩, ⟨IntKind.u8.wrap (IntKind.i64.wrap (128 + (IntKind.i64.wrap (a0.tdiv 4096)).tmod 64))⟩, ⟨IntKind.u8.wrap (IntKind.i64.wrap (128 + (IntKind.i64.wrap (a0.tdiv 64)).tmod 64))⟩, ⟨IntKind.u8.wrap (IntKind.i64.wrap (128 + a0.tmod 64))⟩] : List U8)) (by first | rfl | exact Eq.symm (by assumption) | (simp; done) | (simp [*]; done)) (by kernel_rfl) (by kernel_rfl) (by kernel_rfl) <|
          L.ret _ mixed Tryz.func91 _ (by kernel_rfl) rfl)))
/-! ### 68 -/
abbrev ER04_First : Int × Int → Value := fun r => .tuple ⟨[.int .i64 r.1, .int .i64 r.2]⟩
def FR04_First_17 (a0 : ByteArray) : Nat → Int → Int → Int → Option (Int × Int)
  | 0, _, _, _ => none
  | K + 1, p4, p5, p6 =>
    bif (decide (p6 < p4)) then
      bif inR p6 a0.size then
        FR04_First_17 a0 K p4 (IntKind.i64.wrap (IntKind.i64.wrap (IntKind.i64.wrap (p5 * 64) + IntKind.i64.wrap (byteAt a0 p6)) - 128)) (IntKind.i64.wrap (p6 + 1))
      else none
    else
      (FR04_Sign K p5).bind fun u12 =>
      bif !u12 then
        some ((0, 0))
      else
        (FR04_Lay K p5).bind fun u14 =>
        bif cutOk (ByteArray.size a0) ((Option.none : Option Int).getD 0) ((some p4 : Option Int).getD (ByteArray.size a0 : Int)) then
          bif (bif false then true else !(strU u14).toList == (a0.extract 0 ((some p4).getD (↑a0.size : Int)).toNat).toList) then
            some ((0, 0))
          else
            some ((p5, p4))
        else none
def FR04_First (K : Nat) (a0 : ByteArray) : Option (Int × Int) :=
  bif ((↑a0.size : Int) == 0) then
    some ((0, 0))
  else
    bif inR 0 a0.size then
      bif (decide (IntKind.i64.wrap (byteAt a0 0) ≥ 240)) then
        bif (decide ((↑a0.size : Int) < 4)) then
          some ((0, 0))
        else
          FR04_First_17 a0 K 4 (IntKind.i64.wrap (IntKind.i64.wrap (byteAt a0 0) - 240)) 1
      else
        bif (decide (IntKind.i64.wrap (byteAt a0 0) ≥ 224)) then
          bif (decide ((↑a0.size : Int) < 3)) then
            some ((0, 0))
          else
            FR04_First_17 a0 K 3 (IntKind.i64.wrap (IntKind.i64.wrap (byteAt a0 0) - 224)) 1
        else
          bif (decide (IntKind.i64.wrap (byteAt a0 0) ≥ 192)) then
            bif (decide ((↑a0.size : Int) < 2)) then
              some ((0, 0))
            else
              FR04_First_17 a0 K 2 (IntKind.i64.wrap (IntKind.i64.wrap (byteAt a0 0) - 192)) 1
          else
            bif (decide ((↑a0.size : Int) < 1)) then
              some ((0, 0))
            else
              FR04_First_17 a0 K 1 (IntKind.i64.wrap (byteAt a0 0)) 1
    else none
def HR04_First_17 (fn : Func) (a0 : ByteArray) (p4 : Int) (p5 : Int) (p6 : Int) : VS := headS fn 17 [(0, (Value.string a0)), (4, .int .i64 p4), (5, .int .i64 p5), (6, .int .i64 p6)] []
theorem lR04_First (a0 : ByteArray) : ∀ K : Nat, (∀ (p4 : Int) (p5 : Int) (p6 : Int), Lifts Tryz.prog 68 0 ER04_First (HR04_First_17 Tryz.f68 a0 p4 p5 p6) (FR04_First_17 a0 K p4 p5 p6)) := by
  intro K
  induction K with
  | zero =>
    exact fun p4 p5 p6 => (by rw [FR04_First_17]; exact L.no)
  | succ K ih =>
    have IH17 := ih
    refine fun p4 p5 p6 => ?_
    · rw [FR04_First_17]
      exact
        L.br mixed 7 _ (by kernel_rfl)
          (fun h10 =>
          L.strIdx mixed 8 9 _ IntKind.i64 _ (by kernel_rfl) (by kernel_rfl) (fun h11a h11b =>
          L.jump mixed 12 [0, 4, 5, 6] (by kernel_rfl) (IH17 p4 (IntKind.i64.wrap (IntKind.i64.wrap (IntKind.i64.wrap (p5 * 64) + IntKind.i64.wrap (byteAt a0 p6)) - 128)) (IntKind.i64.wrap (p6 + 1)))))
          (fun h10 =>
          L.callO mixed (fun u12 : Bool => .bool u12) (cR04_Sign K p5) (by kernel_rfl) (fun u12 hu12 =>
          L.gu mixed 2 _ (by kernel_rfl)
            (fun h13 =>
            L.ret _ mixed Tryz.func68 _ (by kernel_rfl) rfl)
            (fun h13 =>
            L.callO mixed (fun u14 : List U8 => lst u14) (cR04_Lay K p5) (by kernel_rfl) (fun u14 hu14 =>
            L.bytesF mixed 0 u14 (by kernel_rfl) <|
            L.ssl mixed 2 a0 (Option.none : Option Int) (some p4 : Option Int) (by kernel_rfl) <|
            L.br mixed 3 _ (by kernel_rfl)
              (fun h15 =>
              L.ret _ mixed Tryz.func68 _ (by kernel_rfl) rfl)
              (fun h15 =>
              L.ret _ mixed Tryz.func68 _ (by kernel_rfl) rfl)))))
theorem cR04_First (K : Nat) (a0 : ByteArray) : ∀ r, FR04_First K a0 = some r → Con Tryz.prog 68 [.string a0] (ER04_First r) := by
  have IH17 := lR04_First a0 K
  refine Con.lift Tryz.func68 (by kernel_rfl) rfl (fun _ => rfl) ?_
  unfold FR04_First
  exact
    L.br mixed 12 _ (by kernel_rfl)
      (fun h1 =>
      L.ret _ mixed Tryz.func68 _ (by kernel_rfl) rfl)
      (fun h1 =>
      L.strIdx mixed 8 9 _ IntKind.i64 _ (by kernel_rfl) (by kernel_rfl) (fun h2a h2b =>
      L.br mixed 9 _ (by kernel_rfl)
        (fun h3 =>
        L.br mixed 17 _ (by kernel_rfl)
          (fun h4 =>
          L.ret _ mixed Tryz.func68 _ (by kernel_rfl) rfl)
          (fun h4 =>
          L.jump mixed 8 [0, 4, 5, 6] (by kernel_rfl) (IH17 4 (IntKind.i64.wrap (IntKind.i64.wrap (byteAt a0 0) - 240)) 1)))
        (fun h3 =>
        L.br mixed 5 _ (by kernel_rfl)
          (fun h5 =>
          L.br mixed 17 _ (by kernel_rfl)
            (fun h6 =>
            L.ret _ mixed Tryz.func68 _ (by kernel_rfl) rfl)
            (fun h6 =>
            L.jump mixed 8 [0, 4, 5, 6] (by kernel_rfl) (IH17 3 (IntKind.i64.wrap (IntKind.i64.wrap (byteAt a0 0) - 224)) 1)))
          (fun h5 =>
          L.br mixed 5 _ (by kernel_rfl)
            (fun h7 =>
            L.br mixed 17 _ (by kernel_rfl)
              (fun h8 =>
              L.ret _ mixed Tryz.func68 _ (by kernel_rfl) rfl)
              (fun h8 =>
              L.jump mixed 8 [0, 4, 5, 6] (by kernel_rfl) (IH17 2 (IntKind.i64.wrap (IntKind.i64.wrap (byteAt a0 0) - 192)) 1)))
            (fun h7 =>
            L.br mixed 9 _ (by kernel_rfl)
              (fun h9 =>
              L.ret _ mixed Tryz.func68 _ (by kernel_rfl) rfl)
              (fun h9 =>
              L.jump mixed 8 [0, 4, 5, 6] (by kernel_rfl) (IH17 1 (IntKind.i64.wrap (byteAt a0 0)) 1)))))))
/-! ### 48 -/
abbrev ER04_Signs : List Int × List Int × Bool → Value := fun r => .tuple ⟨[lst r.1, lst r.2.1, .bool r.2.2]⟩
def FR04_Signs_3 (a0 : ByteArray) : Nat → (List Int) → (List Int) → Int → Option (List Int × List Int × Bool)
  | 0, _, _, _ => none
  | K + 1, p5, p6, p7 =>
    bif (decide (p7 < (↑a0.size : Int))) then
      bif cutOk (ByteArray.size a0) ((some p7 : Option Int).getD 0) ((Option.none : Option Int).getD (ByteArray.size a0 : Int)) then
        (FR04_First K (a0.extract ((some p7).getD 0).toNat (none.getD (↑a0.size : Int)).toNat)).bind fun u5 =>
        bif (u5.snd == 0) then
          some ((([] : List Int), ([] : List Int), false))
        else
          bif room (p5.length + ([u5.fst] : List Int).length) 8 then
            bif room (p6.length + ([p7] : List Int).length) 8 then
              FR04_Signs_3 a0 K (p5 ++ [u5.fst]) (p6 ++ [p7]) (IntKind.i64.wrap (p7 + u5.snd))
            else none
          else none
      else none
    else
      some ((p5, p6, true))
def FR04_Signs (K : Nat) (a0 : ByteArray) : Option (List Int × List Int × Bool) :=
  FR04_Signs_3 a0 K [] [] 0
def HR04_Signs_35N6N (fn : Func) (a0 : ByteArray) (p7 : Int) : VS := headS fn 3 [(0, (Value.string a0)), (5, .slice none 0 0), (6, .slice none 0 0), (7, .int .i64 p7)] []
def HR04_Signs_35O6O (fn : Func) (a0 : ByteArray) (np5 : Nat) (p5 : List Int) (np6 : Nat) (p6 : List Int) (p7 : Int) : VS := headS fn 3 [(0, (Value.string a0)), (5, .slice (some ⟨0, 0, none⟩) np5 np5), (6, .slice (some ⟨1, 0, none⟩) np6 np6), (7, .int .i64 p7)] [ownB p5, ownB p6]
theorem lR04_Signs (a0 : ByteArray) : ∀ K : Nat, (∀ (p7 : Int), Lifts Tryz.prog 48 0 ER04_Signs (HR04_Signs_35N6N Tryz.f48 a0 p7) (FR04_Signs_3 a0 K [] [] p7)) ∧ (∀ (np5 : Nat) (p5 : List Int) (_ : np5 = p5.length) (np6 : Nat) (p6 : List Int) (_ : np6 = p6.length) (p7 : Int), Lifts Tryz.prog 48 0 ER04_Signs (HR04_Signs_35O6O Tryz.f48 a0 np5 p5 np6 p6 p7) (FR04_Signs_3 a0 K p5 p6 p7)) := by
  intro K
  induction K with
  | zero =>
    exact ⟨fun p7 => (by rw [FR04_Signs_3]; exact L.no), fun np5 p5 ep5 np6 p6 ep6 p7 => (by rw [FR04_Signs_3]; exact L.no)⟩
  | succ K ih =>
    obtain ⟨IH35N6N, IH35O6O⟩ := ih
    refine ⟨fun p7 => ?_, fun np5 p5 ep5 np6 p6 ep6 p7 => ?_⟩
    · rw [FR04_Signs_3]
      exact
        L.br mixed 8 _ (by kernel_rfl)
          (fun h1 =>
          L.ssl mixed 6 a0 (some p7 : Option Int) (Option.none : Option Int) (by kernel_rfl) <|
          L.callO mixed (fun u2 : Int × Int => .tuple ⟨[.int .i64 u2.1, .int .i64 u2.2]⟩) (cR04_First K (a0.extract ((some p7).getD 0).toNat (none.getD (↑a0.size : Int)).toNat)) (by kernel_rfl) (fun u2 hu2 =>
          L.br mixed 12 _ (by kernel_rfl)
            (fun h3 =>
            L.frzNil mixed 6 2 (by kernel_rfl) <|
            L.frzNil mixed 0 3 (by kernel_rfl) <|
            L.ret _ mixed Tryz.func48 _ (by kernel_rfl) rfl)
            (fun h3 =>
            L.push0 mixed 6 8 0 0 [(Value.int IntKind.i64 u2.fst)] ([u2.fst] : List Int) (by kernel_rfl) (Nat.le_of_ble_eq_true (by kernel_rfl)) (Nat.le_of_ble_eq_true (by kernel_rfl)) (by kernel_rfl) <|
            L.push0 mixed 7 8 2 0 [(Value.int IntKind.i64 p7)] ([p7] : List Int) (by kernel_rfl) (Nat.le_of_ble_eq_true (by kernel_rfl)) (Nat.le_of_ble_eq_true (by kernel_rfl)) (by kernel_rfl) <|
            L.jumpG mixed 10 [0, 5, 6, 7] [.ownp 1, .ownp 3] [rows [u2.fst], rows [p7]] (by kernel_rfl) (by kernel_rfl) (by kernel_rfl) ⟨rows_pure _, rows_pure _, trivial⟩ (by kernel_rfl) (by kernel_rfl) (IH35O6O [u2.fst].length [u2.fst] (by first | rfl | exact Eq.symm (by assumption) | (simp; done) | (simp [*]; done)) [p7].length [p7] (by first | rfl | exact Eq.symm (by assumption) | (simp; done) | (simp [*]; done)) (IntKind.i64.wrap (p7 + u2.snd))))))
          (fun h1 =>
          L.frzNil mixed 9 2 (by kernel_rfl) <|
          L.frzNil mixed 0 3 (by kernel_rfl) <|
          L.ret _ mixed Tryz.func48 _ (by kernel_rfl) rfl)
    · subst ep5; subst ep6; rw [FR04_Signs_3]
      exact
        L.br mixed 8 _ (by kernel_rfl)
          (fun h4 =>
          L.ssl mixed 6 a0 (some p7 : Option Int) (Option.none : Option Int) (by kernel_rfl) <|
          L.callO mixed (fun u5 : Int × Int => .tuple ⟨[.int .i64 u5.1, .int .i64 u5.2]⟩) (cR04_First K (a0.extract ((some p7).getD 0).toNat (none.getD (↑a0.size : Int)).toNat)) (by kernel_rfl) (fun u5 hu5 =>
          L.br mixed 12 _ (by kernel_rfl)
            (fun h6 =>
            L.frzNil mixed 6 2 (by kernel_rfl) <|
            L.frzNil mixed 0 3 (by kernel_rfl) <|
            L.ret _ mixed Tryz.func48 _ (by kernel_rfl) rfl)
            (fun h6 =>
            L.app mixed 6 0 8 2 0 p5.length [(Value.int IntKind.i64 u5.fst)] p5 ([u5.fst] : List Int) (by first | rfl | exact Eq.symm (by assumption) | (simp; done) | (simp [*]; done)) (by kernel_rfl) (by kernel_rfl) (Nat.le_of_ble_eq_true (by kernel_rfl)) (Nat.le_of_ble_eq_true (by kernel_rfl)) (by kernel_rfl) <|
            L.app mixed 7 1 8 4 0 p6.length [(Value.int IntKind.i64 p7)] p6 ([p7] : List Int) (by first | rfl | exact Eq.symm (by assumption) | (simp; done) | (simp [*]; done)) (by kernel_rfl) (by kernel_rfl) (Nat.le_of_ble_eq_true (by kernel_rfl)) (Nat.le_of_ble_eq_true (by kernel_rfl)) (by kernel_rfl) <|
            L.jumpG mixed 10 [0, 5, 6, 7] [.ownp 3, .ownp 5] [rows (p5 ++ [u5.fst]), rows (p6 ++ [p7])] (by kernel_rfl) (by kernel_rfl) (by kernel_rfl) ⟨rows_pure _, rows_pure _, trivial⟩ (by kernel_rfl) (by kernel_rfl) (IH35O6O ((p5 ++ [u5.fst]).length) (p5 ++ [u5.fst]) (by first | rfl | exact Eq.symm (by assumption) | (simp; done) | (simp [*]; done)) ((p6 ++ [p7]).length) (p6 ++ [p7]) (by first | rfl | exact Eq.symm (by assumption) | (simp; done) | (simp [*]; done)) (IntKind.i64.wrap (p7 + u5.snd))))))
          (fun h4 =>
          L.frzO mixed 9 2 0 p5.length p5 (by first | rfl | exact Eq.symm (by assumption) | (simp; done) | (simp [*]; done)) (by kernel_rfl) (by kernel_rfl) (by kernel_rfl) <|
          L.frzO mixed 0 3 1 p6.length p6 (by first | rfl | exact Eq.symm (by assumption) | (simp; done) | (simp [*]; done)) (by kernel_rfl) (by kernel_rfl) (by kernel_rfl) <|
          L.ret _ mixed Tryz.func48 _ (by kernel_rfl) rfl)
theorem cR04_Signs (K : Nat) (a0 : ByteArray) : ∀ r, FR04_Signs K a0 = some r → Con Tryz.prog 48 [.string a0] (ER04_Signs r) := by
  obtain ⟨IH35N6N, IH35O6O⟩ := lR04_Signs a0 K
  refine Con.lift Tryz.func48 (by kernel_rfl) rfl (fun _ => rfl) ?_
  unfold FR04_Signs
  exact
    L.jump mixed 18 [0, 5, 6, 7] (by kernel_rfl) (IH35N6N 0)
/-! ### 26 -/
abbrev ER04_Words : List ByteArray × Bool → Value := fun r => .tuple ⟨[lst r.1, .bool r.2]⟩
mutual
def FR04_Words_5 (a0 : ByteArray) : Nat → (List Int) → Int → Option (List ByteArray × Bool)
  | 0, _, _ => none
  | K + 1, p4, p7 =>
    bif (decide (p7 < (↑p4.length : Int))) then
      bif inR p7 p4.length then
        bif (decide (getR p4 p7.toNat < 32)) then
          some ((([] : List ByteArray), false))
        else
          bif inR p7 p4.length then
            bif (bif false then true else getR p4 p7.toNat == 127) then
              some ((([] : List ByteArray), false))
            else
              FR04_Words_5 a0 K p4 (IntKind.i64.wrap (p7 + 1))
          else none
      else none
    else
      FR04_Words_12 a0 K [] (ByteArray.mk #[]) 0
def FR04_Words_12 (a0 : ByteArray) : Nat → (List ByteArray) → ByteArray → Int → Option (List ByteArray × Bool)
  | 0, _, _, _ => none
  | K + 1, p8, p9, p10 =>
    bif (decide (p10 < (↑a0.size : Int))) then
      bif inR p10 a0.size then
        bif (byteAt a0 p10 != 32) then
          bif cutOk (ByteArray.size a0) ((some p10 : Option Int).getD 0) ((some (IntKind.i64.wrap (p10 + 1)) : Option Int).getD (ByteArray.size a0 : Int)) then
            bif catOk p9 (a0.extract ((some p10).getD 0).toNat ((some (IntKind.i64.wrap (p10 + 1))).getD (↑a0.size : Int)).toNat) then
              FR04_Words_12 a0 K p8 (p9 ++ a0.extract ((some p10).getD 0).toNat ((some (IntKind.i64.wrap (p10 + 1))).getD (↑a0.size : Int)).toNat) (IntKind.i64.wrap (p10 + 1))
            else none
          else none
        else
          bif (p9.toList == (ByteArray.mk #[]).toList) then
            some ((([] : List ByteArray), false))
          else
            bif room (p8.length + ([p9] : List ByteArray).length) 16 then
              FR04_Words_12 a0 K (p8 ++ [p9]) (ByteArray.mk #[]) (IntKind.i64.wrap (p10 + 1))
            else none
      else none
    else
      bif (decide ((↑a0.size : Int) > 0)) then
        bif (bif true then p9.toList == (ByteArray.mk #[]).toList else false) then
          some ((([] : List ByteArray), false))
        else
          bif (!p9.toList == (ByteArray.mk #[]).toList) then
            bif room (p8.length + ([p9] : List ByteArray).length) 16 then
              some ((p8 ++ [p9], true))
            else none
          else
            some ((p8, true))
      else
        bif (!p9.toList == (ByteArray.mk #[]).toList) then
          bif room (p8.length + ([p9] : List ByteArray).length) 16 then
            some ((p8 ++ [p9], true))
          else none
        else
          some ((p8, true))
end
def FR04_Words (K : Nat) (a0 : ByteArray) : Option (List ByteArray × Bool) :=
  (FR04_Signs K a0).bind fun u1 =>
  bif !u1.snd.snd then
    some ((([] : List ByteArray), false))
  else
    FR04_Words_5 a0 K u1.fst 0
def HR04_Words_5 (fn : Func) (a0 : ByteArray) (p4 : List Int) (p7 : Int) : VS := headS fn 5 [(0, (Value.string a0)), (4, lst p4), (7, .int .i64 p7)] []
def HR04_Words_128N (fn : Func) (a0 : ByteArray) (p9 : ByteArray) (p10 : Int) : VS := headS fn 12 [(0, (Value.string a0)), (8, .slice none 0 0), (9, .string p9), (10, .int .i64 p10)] []
def HR04_Words_128O (fn : Func) (a0 : ByteArray) (np8 : Nat) (p8 : List ByteArray) (p9 : ByteArray) (p10 : Int) : VS := headS fn 12 [(0, (Value.string a0)), (8, .slice (some ⟨0, 0, none⟩) np8 np8), (9, .string p9), (10, .int .i64 p10)] [ownB p8]
theorem lR04_Words (a0 : ByteArray) : ∀ K : Nat, (∀ (p4 : List Int) (p7 : Int), Lifts Tryz.prog 26 0 ER04_Words (HR04_Words_5 Tryz.f26 a0 p4 p7) (FR04_Words_5 a0 K p4 p7)) ∧ (∀ (p9 : ByteArray) (p10 : Int), Lifts Tryz.prog 26 0 ER04_Words (HR04_Words_128N Tryz.f26 a0 p9 p10) (FR04_Words_12 a0 K [] p9 p10)) ∧ (∀ (np8 : Nat) (p8 : List ByteArray) (_ : np8 = p8.length) (p9 : ByteArray) (p10 : Int), Lifts Tryz.prog 26 0 ER04_Words (HR04_Words_128O Tryz.f26 a0 np8 p8 p9 p10) (FR04_Words_12 a0 K p8 p9 p10)) := by
  intro K
  induction K with
  | zero =>
    exact ⟨fun p4 p7 => (by rw [FR04_Words_5]; exact L.no), fun p9 p10 => (by rw [FR04_Words_12]; exact L.no), fun np8 p8 ep8 p9 p10 => (by rw [FR04_Words_12]; exact L.no)⟩
  | succ K ih =>
    obtain ⟨IH5, IH128N, IH128O⟩ := ih
    refine ⟨fun p4 p7 => ?_, fun p9 p10 => ?_, fun np8 p8 ep8 p9 p10 => ?_⟩
    · rw [FR04_Words_5]
      exact
        L.br mixed 8 _ (by kernel_rfl)
          (fun h3 =>
          L.idx mixed 7 _ (rows p4) 1 IntKind.i64 _ (by kernel_rfl) (fun h4a h4b =>
          L.ld mixed 0 3 (rows p4) (p7.toNat * 1 + 0) (.int .i64 (getR p4 p7.toNat)) (by kernel_rfl) (load1_rows (i := p7.toNat) (d := 0) rfl (toNat_lt h4a h4b) (by kernel_rfl) (Nat.le_of_ble_eq_true (by kernel_rfl)) (by kernel_rfl)) <|
          L.gu mixed 2 _ (by kernel_rfl)
            (fun h5 =>
            L.frzNil mixed 13 2 (by kernel_rfl) <|
            L.ret _ mixed Tryz.func26 _ (by kernel_rfl) rfl)
            (fun h5 =>
            L.idx mixed 2 _ (rows p4) 1 IntKind.i64 _ (by kernel_rfl) (fun h6a h6b =>
            L.ld mixed 0 3 (rows p4) (p7.toNat * 1 + 0) (.int .i64 (getR p4 p7.toNat)) (by kernel_rfl) (load1_rows (i := p7.toNat) (d := 0) rfl (toNat_lt h6a h6b) (by kernel_rfl) (Nat.le_of_ble_eq_true (by kernel_rfl)) (by kernel_rfl)) <|
            L.br mixed 3 _ (by kernel_rfl)
              (fun h7 =>
              L.frzNil mixed 5 2 (by kernel_rfl) <|
              L.ret _ mixed Tryz.func26 _ (by kernel_rfl) rfl)
              (fun h7 =>
              L.jump mixed 8 [0, 4, 7] (by kernel_rfl) (IH5 p4 (IntKind.i64.wrap (p7 + 1))))))))
          (fun h3 =>
          L.jump mixed 16 [0, 8, 9, 10] (by kernel_rfl) (IH128N (ByteArray.mk #[]) 0))
    · rw [FR04_Words_12]
      exact
        L.br mixed 8 _ (by kernel_rfl)
          (fun h8 =>
          L.strIdx mixed 8 9 _ IntKind.i64 _ (by kernel_rfl) (by kernel_rfl) (fun h9a h9b =>
          L.br mixed 2 _ (by kernel_rfl)
            (fun h10 =>
            L.ssl mixed 7 a0 (some p10 : Option Int) (some (IntKind.i64.wrap (p10 + 1)) : Option Int) (by kernel_rfl) <|
            L.cat mixed 0 p9 (a0.extract ((some p10).getD 0).toNat ((some (IntKind.i64.wrap (p10 + 1))).getD (↑a0.size : Int)).toNat) (by kernel_rfl) <|
            L.jump mixed 9 [0, 8, 9, 10] (by kernel_rfl) (IH128N (p9 ++ a0.extract ((some p10).getD 0).toNat ((some (IntKind.i64.wrap (p10 + 1))).getD (↑a0.size : Int)).toNat) (IntKind.i64.wrap (p10 + 1))))
            (fun h10 =>
            L.br mixed 7 _ (by kernel_rfl)
              (fun h11 =>
              L.frzNil mixed 5 2 (by kernel_rfl) <|
              L.ret _ mixed Tryz.func26 _ (by kernel_rfl) rfl)
              (fun h11 =>
              L.push0 mixed 6 16 0 0 [(Value.string p9)] ([p9] : List ByteArray) (by kernel_rfl) (Nat.le_of_ble_eq_true (by kernel_rfl)) (Nat.le_of_ble_eq_true (by kernel_rfl)) (by kernel_rfl) <|
              L.jumpG mixed 12 [0, 8, 9, 10] [.ownp 1] [rows [p9]] (by kernel_rfl) (by kernel_rfl) (by kernel_rfl) ⟨rows_pure _, trivial⟩ (by kernel_rfl) (by kernel_rfl) (IH128O [p9].length [p9] (by first | rfl | exact Eq.symm (by assumption) | (simp; done) | (simp [*]; done)) (ByteArray.mk #[]) (IntKind.i64.wrap (p10 + 1)))))))
          (fun h8 =>
          L.gu mixed 8 _ (by kernel_rfl)
            (fun h12 =>
            L.br mixed 4 _ (by kernel_rfl)
              (fun h13 =>
              L.frzNil mixed 5 2 (by kernel_rfl) <|
              L.ret _ mixed Tryz.func26 _ (by kernel_rfl) rfl)
              (fun h13 =>
              L.br mixed 7 _ (by kernel_rfl)
                (fun h14 =>
                L.push0 mixed 4 16 0 0 [(Value.string p9)] ([p9] : List ByteArray) (by kernel_rfl) (Nat.le_of_ble_eq_true (by kernel_rfl)) (Nat.le_of_ble_eq_true (by kernel_rfl)) (by kernel_rfl) <|
                L.frzO mixed 8 2 1 [p9].length [p9] (by first | rfl | exact Eq.symm (by assumption) | (simp; done) | (simp [*]; done)) (by kernel_rfl) (by kernel_rfl) (by kernel_rfl) <|
                L.ret _ mixed Tryz.func26 _ (by kernel_rfl) rfl)
                (fun h14 =>
                L.frzNil mixed 7 2 (by kernel_rfl) <|
                L.ret _ mixed Tryz.func26 _ (by kernel_rfl) rfl)))
            (fun h12 =>
            L.br mixed 12 _ (by kernel_rfl)
              (fun h15 =>
              L.push0 mixed 4 16 0 0 [(Value.string p9)] ([p9] : List ByteArray) (by kernel_rfl) (Nat.le_of_ble_eq_true (by kernel_rfl)) (Nat.le_of_ble_eq_true (by kernel_rfl)) (by kernel_rfl) <|
              L.frzO mixed 8 2 1 [p9].length [p9] (by first | rfl | exact Eq.symm (by assumption) | (simp; done) | (simp [*]; done)) (by kernel_rfl) (by kernel_rfl) (by kernel_rfl) <|
              L.ret _ mixed Tryz.func26 _ (by kernel_rfl) rfl)
              (fun h15 =>
              L.frzNil mixed 7 2 (by kernel_rfl) <|
              L.ret _ mixed Tryz.func26 _ (by kernel_rfl) rfl)))
    · subst ep8; rw [FR04_Words_12]
      exact
        L.br mixed 8 _ (by kernel_rfl)
          (fun h16 =>
          L.strIdx mixed 8 9 _ IntKind.i64 _ (by kernel_rfl) (by kernel_rfl) (fun h17a h17b =>
          L.br mixed 2 _ (by kernel_rfl)
            (fun h18 =>
            L.ssl mixed 7 a0 (some p10 : Option Int) (some (IntKind.i64.wrap (p10 + 1)) : Option Int) (by kernel_rfl) <|
            L.cat mixed 0 p9 (a0.extract ((some p10).getD 0).toNat ((some (IntKind.i64.wrap (p10 + 1))).getD (↑a0.size : Int)).toNat) (by kernel_rfl) <|
            L.jump mixed 9 [0, 8, 9, 10] (by kernel_rfl) (IH128O p8.length p8 (by first | rfl | exact Eq.symm (by assumption) | (simp; done) | (simp [*]; done)) (p9 ++ a0.extract ((some p10).getD 0).toNat ((some (IntKind.i64.wrap (p10 + 1))).getD (↑a0.size : Int)).toNat) (IntKind.i64.wrap (p10 + 1))))
            (fun h18 =>
            L.br mixed 7 _ (by kernel_rfl)
              (fun h19 =>
              L.frzNil mixed 5 2 (by kernel_rfl) <|
              L.ret _ mixed Tryz.func26 _ (by kernel_rfl) rfl)
              (fun h19 =>
              L.app mixed 6 0 16 1 0 p8.length [(Value.string p9)] p8 ([p9] : List ByteArray) (by first | rfl | exact Eq.symm (by assumption) | (simp; done) | (simp [*]; done)) (by kernel_rfl) (by kernel_rfl) (Nat.le_of_ble_eq_true (by kernel_rfl)) (Nat.le_of_ble_eq_true (by kernel_rfl)) (by kernel_rfl) <|
              L.jumpG mixed 12 [0, 8, 9, 10] [.ownp 2] [rows (p8 ++ [p9])] (by kernel_rfl) (by kernel_rfl) (by kernel_rfl) ⟨rows_pure _, trivial⟩ (by kernel_rfl) (by kernel_rfl) (IH128O ((p8 ++ [p9]).length) (p8 ++ [p9]) (by first | rfl | exact Eq.symm (by assumption) | (simp; done) | (simp [*]; done)) (ByteArray.mk #[]) (IntKind.i64.wrap (p10 + 1)))))))
          (fun h16 =>
          L.gu mixed 8 _ (by kernel_rfl)
            (fun h20 =>
            L.br mixed 4 _ (by kernel_rfl)
              (fun h21 =>
              L.frzNil mixed 5 2 (by kernel_rfl) <|
              L.ret _ mixed Tryz.func26 _ (by kernel_rfl) rfl)
              (fun h21 =>
              L.br mixed 7 _ (by kernel_rfl)
                (fun h22 =>
                L.app mixed 4 0 16 1 0 p8.length [(Value.string p9)] p8 ([p9] : List ByteArray) (by first | rfl | exact Eq.symm (by assumption) | (simp; done) | (simp [*]; done)) (by kernel_rfl) (by kernel_rfl) (Nat.le_of_ble_eq_true (by kernel_rfl)) (Nat.le_of_ble_eq_true (by kernel_rfl)) (by kernel_rfl) <|
                L.frzO mixed 8 2 2 ((p8 ++ [p9]).length) (p8 ++ [p9]) (by first | rfl | exact Eq.symm (by assumption) | (simp; done) | (simp [*]; done)) (by kernel_rfl) (by kernel_rfl) (by kernel_rfl) <|
                L.ret _ mixed Tryz.func26 _ (by kernel_rfl) rfl)
                (fun h22 =>
                L.frzO mixed 7 2 0 p8.length p8 (by first | rfl | exact Eq.symm (by assumption) | (simp; done) | (simp [*]; done)) (by kernel_rfl) (by kernel_rfl) (by kernel_rfl) <|
                L.ret _ mixed Tryz.func26 _ (by kernel_rfl) rfl)))
            (fun h20 =>
            L.br mixed 12 _ (by kernel_rfl)
              (fun h23 =>
              L.app mixed 4 0 16 1 0 p8.length [(Value.string p9)] p8 ([p9] : List ByteArray) (by first | rfl | exact Eq.symm (by assumption) | (simp; done) | (simp [*]; done)) (by kernel_rfl) (by kernel_rfl) (Nat.le_of_ble_eq_true (by kernel_rfl)) (Nat.le_of_ble_eq_true (by kernel_rfl)) (by kernel_rfl) <|
              L.frzO mixed 8 2 2 ((p8 ++ [p9]).length) (p8 ++ [p9]) (by first | rfl | exact Eq.symm (by assumption) | (simp; done) | (simp [*]; done)) (by kernel_rfl) (by kernel_rfl) (by kernel_rfl) <|
              L.ret _ mixed Tryz.func26 _ (by kernel_rfl) rfl)
              (fun h23 =>
              L.frzO mixed 7 2 0 p8.length p8 (by first | rfl | exact Eq.symm (by assumption) | (simp; done) | (simp [*]; done)) (by kernel_rfl) (by kernel_rfl) (by kernel_rfl) <|
              L.ret _ mixed Tryz.func26 _ (by kernel_rfl) rfl)))
theorem cR04_Words (K : Nat) (a0 : ByteArray) : ∀ r, FR04_Words K a0 = some r → Con Tryz.prog 26 [.string a0] (ER04_Words r) := by
  obtain ⟨IH5, IH128N, IH128O⟩ := lR04_Words a0 K
  refine Con.lift Tryz.func26 (by kernel_rfl) rfl (fun _ => rfl) ?_
  unfold FR04_Words
  exact
    L.callO mixed (fun u1 : List Int × List Int × Bool => .tuple ⟨[lst u1.1, lst u1.2.1, .bool u1.2.2]⟩) (cR04_Signs K a0) (by kernel_rfl) (fun u1 hu1 =>
    L.br mixed 14 _ (by kernel_rfl)
      (fun h2 =>
      L.frzNil mixed 5 2 (by kernel_rfl) <|
      L.ret _ mixed Tryz.func26 _ (by kernel_rfl) rfl)
      (fun h2 =>
      L.jump mixed 8 [0, 4, 7] (by kernel_rfl) (IH5 u1.fst 0)))
/-! ### 30 -/
abbrev ER37_word : ByteArray → Value := fun r => .string r
def FR37_word (K : Nat) (a0 : Int) : Option ByteArray :=
  bif inR a0 6 then
    some (getR [ByteArray.mk #[], ByteArray.mk #[OfNat.ofNat 99, OfNat.ofNat 108, OfNat.ofNat 97, OfNat.ofNat 105, OfNat.ofNat 109], ByteArray.mk #[OfNat.ofNat 100, OfNat.ofNat 114, OfNat.ofNat 97, OfNat.ofNat 119], ByteArray.mk #[OfNat.ofNat 115, OfNat.ofNat 116, OfNat.ofNat 101, OfNat.ofNat 97, OfNat.ofNat 108], ByteArray.mk #[OfNat.ofNat 100, OfNat.ofNat 111, OfNat.ofNat 110, OfNat.ofNat 101], ByteArray.mk #[OfNat.ofNat 101, OfNat.ofNat 110, OfNat.ofNat 100]] a0.toNat)
  else none
theorem cR37_word (K : Nat) (a0 : Int) : ∀ r, FR37_word K a0 = some r → Con Tryz.prog 30 [.int .i64 a0] (ER37_word r) := by
  refine Con.lift Tryz.func30 (by kernel_rfl) rfl (fun _ => rfl) ?_
  unfold FR37_word
  exact
    L.oidx mixed 8 0 0 _ 1 IntKind.i64 _ (by kernel_rfl) (fun h1a h1b =>
    L.old1 mixed 0 1 0 (0 + a0.toNat * 1) (rows ([ByteArray.mk #[], ByteArray.mk #[OfNat.ofNat 99, OfNat.ofNat 108, OfNat.ofNat 97, OfNat.ofNat 105, OfNat.ofNat 109], ByteArray.mk #[OfNat.ofNat 100, OfNat.ofNat 114, OfNat.ofNat 97, OfNat.ofNat 119], ByteArray.mk #[OfNat.ofNat 115, OfNat.ofNat 116, OfNat.ofNat 101, OfNat.ofNat 97, OfNat.ofNat 108], ByteArray.mk #[OfNat.ofNat 100, OfNat.ofNat 111, OfNat.ofNat 110, OfNat.ofNat 101], ByteArray.mk #[OfNat.ofNat 101, OfNat.ofNat 110, OfNat.ofNat 100]] : List ByteArray)) (.string (getR (([ByteArray.mk #[], ByteArray.mk #[OfNat.ofNat 99, OfNat.ofNat 108, OfNat.ofNat 97, OfNat.ofNat 105, OfNat.ofNat 109], ByteArray.mk #[OfNat.ofNat 100, OfNat.ofNat 114, OfNat.ofNat 97, OfNat.ofNat 119], ByteArray.mk #[OfNat.ofNat 115, OfNat.ofNat 116, OfNat.ofNat 101, OfNat.ofNat 97, OfNat.ofNat 108], ByteArray.mk #[OfNat.ofNat 100, OfNat.ofNat 111, OfNat.ofNat 110, OfNat.ofNat 101], ByteArray.mk #[OfNat.ofNat 101, OfNat.ofNat 110, OfNat.ofNat 100]] : List ByteArray)) a0.toNat)) (by kernel_rfl) (rows_sub1 (i := a0.toNat) (d := 0) (by show 0 + a0.toNat * 1 = a0.toNat * 1 + 0; omega) (by have := (toNat_lt h1a h1b); simpa using this) (Nat.le_of_ble_eq_true (by kernel_rfl)) (by kernel_rfl)) <|
    L.ret _ mixed Tryz.func30 _ (by kernel_rfl) rfl)
/-! ### 10 -/
abbrev ER37_May : Bool → Value := fun r => .bool r
def FR37_May (K : Nat) (a0 : TEvent) : Option Bool :=
  bif (decide (a0.Kind < 1)) then
    some false
  else
    bif (bif false then true else decide (a0.Kind > 5)) then
      some false
    else
      bif (a0.Kind == 5) then
        bif (bif true then a0.A != 0 else false) then
          some false
        else
          bif (a0.Kind == 2) then
            some true
          else
            bif (bif false then true else a0.Kind == 3) then
              some true
            else
              some (bif false then true else a0.B == 0)
      else
        bif (a0.Kind == 2) then
          some true
        else
          bif (bif false then true else a0.Kind == 3) then
            some true
          else
            some (bif false then true else a0.B == 0)
theorem cR37_May (K : Nat) (a0 : TEvent) : ∀ r, FR37_May K a0 = some r → Con Tryz.prog 10 [.agg ⟨[.int .i64 a0.Who, .int .i64 a0.Kind, .int .i64 a0.A, .int .i64 a0.B]⟩] (ER37_May r) := by
  refine Con.lift Tryz.func10 (by kernel_rfl) rfl (fun _ => rfl) ?_
  unfold FR37_May
  exact
    L.gu mixed 12 _ (by kernel_rfl)
      (fun h1 =>
      L.ret _ mixed Tryz.func10 _ (by kernel_rfl) rfl)
      (fun h1 =>
      L.br mixed 5 _ (by kernel_rfl)
        (fun h2 =>
        L.ret _ mixed Tryz.func10 _ (by kernel_rfl) rfl)
        (fun h2 =>
        L.gu mixed 8 _ (by kernel_rfl)
          (fun h3 =>
          L.br mixed 5 _ (by kernel_rfl)
            (fun h4 =>
            L.ret _ mixed Tryz.func10 _ (by kernel_rfl) rfl)
            (fun h4 =>
            L.gu mixed 7 _ (by kernel_rfl)
              (fun h5 =>
              L.ret _ mixed Tryz.func10 _ (by kernel_rfl) rfl)
              (fun h5 =>
              L.gu mixed 5 _ (by kernel_rfl)
                (fun h6 =>
                L.ret _ mixed Tryz.func10 _ (by kernel_rfl) rfl)
                (fun h6 =>
                L.ret _ mixed Tryz.func10 _ (by kernel_rfl) rfl))))
          (fun h3 =>
          L.gu mixed 13 _ (by kernel_rfl)
            (fun h7 =>
            L.ret _ mixed Tryz.func10 _ (by kernel_rfl) rfl)
            (fun h7 =>
            L.gu mixed 5 _ (by kernel_rfl)
              (fun h8 =>
              L.ret _ mixed Tryz.func10 _ (by kernel_rfl) rfl)
              (fun h8 =>
              L.ret _ mixed Tryz.func10 _ (by kernel_rfl) rfl)))))
/-! ### 11 -/
abbrev ER37_Line : ByteArray → Value := fun r => .string r
def FR37_Line (K : Nat) (a0 : TEvent) : Option ByteArray :=
  (FR37_word K a0.Kind).bind fun u1 =>
  bif catOk u1 (ByteArray.mk #[OfNat.ofNat 32]) then
    (FR03_Dec K a0.Who).bind fun u2 =>
    bif catOk (u1 ++ ByteArray.mk #[OfNat.ofNat 32]) u2 then
      bif (a0.Kind != 5) then
        bif catOk (u1 ++ ByteArray.mk #[OfNat.ofNat 32] ++ u2) (ByteArray.mk #[OfNat.ofNat 32]) then
          (FR03_Dec K a0.A).bind fun u4 =>
          bif catOk (u1 ++ ByteArray.mk #[OfNat.ofNat 32] ++ u2 ++ ByteArray.mk #[OfNat.ofNat 32]) u4 then
            bif (a0.Kind == 2) then
              bif catOk (u1 ++ ByteArray.mk #[OfNat.ofNat 32] ++ u2 ++ ByteArray.mk #[OfNat.ofNat 32] ++ u4) (ByteArray.mk #[OfNat.ofNat 32]) then
                (FR03_Dec K a0.B).bind fun u6 =>
                bif catOk (u1 ++ ByteArray.mk #[OfNat.ofNat 32] ++ u2 ++ ByteArray.mk #[OfNat.ofNat 32] ++ u4 ++ ByteArray.mk #[OfNat.ofNat 32]) u6 then
                  some (u1 ++ ByteArray.mk #[OfNat.ofNat 32] ++ u2 ++ ByteArray.mk #[OfNat.ofNat 32] ++ u4 ++ ByteArray.mk #[OfNat.ofNat 32] ++ u6)
                else none
              else none
            else
              bif (bif false then true else a0.Kind == 3) then
                bif catOk (u1 ++ ByteArray.mk #[OfNat.ofNat 32] ++ u2 ++ ByteArray.mk #[OfNat.ofNat 32] ++ u4) (ByteArray.mk #[OfNat.ofNat 32]) then
                  (FR03_Dec K a0.B).bind fun u8 =>
                  bif catOk (u1 ++ ByteArray.mk #[OfNat.ofNat 32] ++ u2 ++ ByteArray.mk #[OfNat.ofNat 32] ++ u4 ++ ByteArray.mk #[OfNat.ofNat 32]) u8 then
                    some (u1 ++ ByteArray.mk #[OfNat.ofNat 32] ++ u2 ++ ByteArray.mk #[OfNat.ofNat 32] ++ u4 ++ ByteArray.mk #[OfNat.ofNat 32] ++ u8)
                  else none
                else none
              else
                some (u1 ++ ByteArray.mk #[OfNat.ofNat 32] ++ u2 ++ ByteArray.mk #[OfNat.ofNat 32] ++ u4)
          else none
        else none
      else
        bif (a0.Kind == 2) then
          bif catOk (u1 ++ ByteArray.mk #[OfNat.ofNat 32] ++ u2) (ByteArray.mk #[OfNat.ofNat 32]) then
            (FR03_Dec K a0.B).bind fun u10 =>
            bif catOk (u1 ++ ByteArray.mk #[OfNat.ofNat 32] ++ u2 ++ ByteArray.mk #[OfNat.ofNat 32]) u10 then
              some (u1 ++ ByteArray.mk #[OfNat.ofNat 32] ++ u2 ++ ByteArray.mk #[OfNat.ofNat 32] ++ u10)
            else none
          else none
        else
          bif (bif false then true else a0.Kind == 3) then
            bif catOk (u1 ++ ByteArray.mk #[OfNat.ofNat 32] ++ u2) (ByteArray.mk #[OfNat.ofNat 32]) then
              (FR03_Dec K a0.B).bind fun u12 =>
              bif catOk (u1 ++ ByteArray.mk #[OfNat.ofNat 32] ++ u2 ++ ByteArray.mk #[OfNat.ofNat 32]) u12 then
                some (u1 ++ ByteArray.mk #[OfNat.ofNat 32] ++ u2 ++ ByteArray.mk #[OfNat.ofNat 32] ++ u12)
              else none
            else none
          else
            some (u1 ++ ByteArray.mk #[OfNat.ofNat 32] ++ u2)
    else none
  else none
theorem cR37_Line (K : Nat) (a0 : TEvent) : ∀ r, FR37_Line K a0 = some r → Con Tryz.prog 11 [.agg ⟨[.int .i64 a0.Who, .int .i64 a0.Kind, .int .i64 a0.A, .int .i64 a0.B]⟩] (ER37_Line r) := by
  refine Con.lift Tryz.func11 (by kernel_rfl) rfl (fun _ => rfl) ?_
  unfold FR37_Line
  exact
    L.callO mixed (fun u1 : ByteArray => .string u1) (cR37_word K a0.Kind) (by kernel_rfl) (fun u1 hu1 =>
    L.cat mixed 0 u1 (ByteArray.mk #[OfNat.ofNat 32]) (by kernel_rfl) <|
    L.callO mixed (fun u2 : ByteArray => .string u2) (cR03_Dec K a0.Who) (by kernel_rfl) (fun u2 hu2 =>
    L.cat mixed 0 (u1 ++ ByteArray.mk #[OfNat.ofNat 32]) u2 (by kernel_rfl) <|
    L.br mixed 9 _ (by kernel_rfl)
      (fun h3 =>
      L.cat mixed 2 (u1 ++ ByteArray.mk #[OfNat.ofNat 32] ++ u2) (ByteArray.mk #[OfNat.ofNat 32]) (by kernel_rfl) <|
      L.callO mixed (fun u4 : ByteArray => .string u4) (cR03_Dec K a0.A) (by kernel_rfl) (fun u4 hu4 =>
      L.cat mixed 0 (u1 ++ ByteArray.mk #[OfNat.ofNat 32] ++ u2 ++ ByteArray.mk #[OfNat.ofNat 32]) u4 (by kernel_rfl) <|
      L.gu mixed 9 _ (by kernel_rfl)
        (fun h5 =>
        L.cat mixed 8 (u1 ++ ByteArray.mk #[OfNat.ofNat 32] ++ u2 ++ ByteArray.mk #[OfNat.ofNat 32] ++ u4) (ByteArray.mk #[OfNat.ofNat 32]) (by kernel_rfl) <|
        L.callO mixed (fun u6 : ByteArray => .string u6) (cR03_Dec K a0.B) (by kernel_rfl) (fun u6 hu6 =>
        L.cat mixed 0 (u1 ++ ByteArray.mk #[OfNat.ofNat 32] ++ u2 ++ ByteArray.mk #[OfNat.ofNat 32] ++ u4 ++ ByteArray.mk #[OfNat.ofNat 32]) u6 (by kernel_rfl) <|
        L.ret _ mixed Tryz.func11 _ (by kernel_rfl) rfl))
        (fun h5 =>
        L.br mixed 5 _ (by kernel_rfl)
          (fun h7 =>
          L.cat mixed 2 (u1 ++ ByteArray.mk #[OfNat.ofNat 32] ++ u2 ++ ByteArray.mk #[OfNat.ofNat 32] ++ u4) (ByteArray.mk #[OfNat.ofNat 32]) (by kernel_rfl) <|
          L.callO mixed (fun u8 : ByteArray => .string u8) (cR03_Dec K a0.B) (by kernel_rfl) (fun u8 hu8 =>
          L.cat mixed 0 (u1 ++ ByteArray.mk #[OfNat.ofNat 32] ++ u2 ++ ByteArray.mk #[OfNat.ofNat 32] ++ u4 ++ ByteArray.mk #[OfNat.ofNat 32]) u8 (by kernel_rfl) <|
          L.ret _ mixed Tryz.func11 _ (by kernel_rfl) rfl))
          (fun h7 =>
          L.ret _ mixed Tryz.func11 _ (by kernel_rfl) rfl))))
      (fun h3 =>
      L.gu mixed 8 _ (by kernel_rfl)
        (fun h9 =>
        L.cat mixed 8 (u1 ++ ByteArray.mk #[OfNat.ofNat 32] ++ u2) (ByteArray.mk #[OfNat.ofNat 32]) (by kernel_rfl) <|
        L.callO mixed (fun u10 : ByteArray => .string u10) (cR03_Dec K a0.B) (by kernel_rfl) (fun u10 hu10 =>
        L.cat mixed 0 (u1 ++ ByteArray.mk #[OfNat.ofNat 32] ++ u2 ++ ByteArray.mk #[OfNat.ofNat 32]) u10 (by kernel_rfl) <|
        L.ret _ mixed Tryz.func11 _ (by kernel_rfl) rfl))
        (fun h9 =>
        L.br mixed 5 _ (by kernel_rfl)
          (fun h11 =>
          L.cat mixed 2 (u1 ++ ByteArray.mk #[OfNat.ofNat 32] ++ u2) (ByteArray.mk #[OfNat.ofNat 32]) (by kernel_rfl) <|
          L.callO mixed (fun u12 : ByteArray => .string u12) (cR03_Dec K a0.B) (by kernel_rfl) (fun u12 hu12 =>
          L.cat mixed 0 (u1 ++ ByteArray.mk #[OfNat.ofNat 32] ++ u2 ++ ByteArray.mk #[OfNat.ofNat 32]) u12 (by kernel_rfl) <|
          L.ret _ mixed Tryz.func11 _ (by kernel_rfl) rfl))
          (fun h11 =>
          L.ret _ mixed Tryz.func11 _ (by kernel_rfl) rfl)))))
/-! ### 64 -/
abbrev Eslices_Index : Int → Value := fun r => .int .i64 r
def Fslices_Index_2 (a0 : List ByteArray) (a1 : ByteArray) : Nat → Int → Option Int
  | 0, _ => none
  | K + 1, p8 =>
    bif (decide (p8 < (↑a0.length : Int))) then
      bif inR p8 a0.length then
        bif (a1.toList == (getR a0 p8.toNat).toList) then
          some p8
        else
          Fslices_Index_2 a0 a1 K (IntKind.i64.wrap (p8 + 1))
      else none
    else
      some (-1)
def Fslices_Index (K : Nat) (a0 : List ByteArray) (a1 : ByteArray) : Option Int :=
  Fslices_Index_2 a0 a1 K 0
def Hslices_Index_2 (fn : Func) (a0 : List ByteArray) (a1 : ByteArray) (p8 : Int) : VS := headS fn 2 [(0, (lst a0)), (1, (Value.string a1)), (7, (Value.int IntKind.i64 ((↑a0.length : Int)))), (8, .int .i64 p8)] []
theorem lslices_Index (a0 : List ByteArray) (a1 : ByteArray) : ∀ K : Nat, (∀ (p8 : Int), Lifts Tryz.prog 64 0 Eslices_Index (Hslices_Index_2 Tryz.f64 a0 a1 p8) (Fslices_Index_2 a0 a1 K p8)) := by
  intro K
  induction K with
  | zero =>
    exact fun p8 => (by rw [Fslices_Index_2]; exact L.no)
  | succ K ih =>
    have IH2 := ih
    refine fun p8 => ?_
    · rw [Fslices_Index_2]
      exact
        L.br mixed 5 _ (by kernel_rfl)
          (fun h1 =>
          L.idx mixed 13 _ (rows a0) 1 IntKind.i64 _ (by kernel_rfl) (fun h2a h2b =>
          L.ld mixed 0 9 (rows a0) (p8.toNat * 1 + 0) (.string (getR a0 p8.toNat)) (by kernel_rfl) (load1_rows (i := p8.toNat) (d := 0) rfl (toNat_lt h2a h2b) (by kernel_rfl) (Nat.le_of_ble_eq_true (by kernel_rfl)) (by kernel_rfl)) <|
          L.br mixed 2 _ (by kernel_rfl)
            (fun h3 =>
            L.ret _ mixed Tryz.func64 _ (by kernel_rfl) rfl)
            (fun h3 =>
            L.jump mixed 7 [0, 1, 7, 8] (by kernel_rfl) (IH2 (IntKind.i64.wrap (p8 + 1))))))
          (fun h1 =>
          L.ret _ mixed Tryz.func64 _ (by kernel_rfl) rfl)
theorem cslices_Index (K : Nat) (a0 : List ByteArray) (a1 : ByteArray) : ∀ r, Fslices_Index K a0 a1 = some r → Con Tryz.prog 64 [lst a0, .string a1] (Eslices_Index r) := by
  have IH2 := lslices_Index a0 a1 K
  refine Con.lift Tryz.func64 (by kernel_rfl) rfl (fun _ => rfl) ?_
  unfold Fslices_Index
  exact
    L.jump mixed 13 [0, 1, 7, 8] (by kernel_rfl) (IH2 0)
/-! ### 45 -/
abbrev Eslices_Contains : Bool → Value := fun r => .bool r
def Fslices_Contains (K : Nat) (a0 : List ByteArray) (a1 : ByteArray) : Option Bool :=
  (Fslices_Index K a0 a1).bind fun u1 =>
  some (decide (u1 ≥ 0))
theorem cslices_Contains (K : Nat) (a0 : List ByteArray) (a1 : ByteArray) : ∀ r, Fslices_Contains K a0 a1 = some r → Con Tryz.prog 45 [lst a0, .string a1] (Eslices_Contains r) := by
  refine Con.lift Tryz.func45 (by kernel_rfl) rfl (fun _ => rfl) ?_
  unfold Fslices_Contains
  exact
    L.callO mixed (fun u1 : Int => .int .i64 u1) (cslices_Index K a0 a1) (by kernel_rfl) (fun u1 hu1 =>
    L.ret _ mixed Tryz.func45 _ (by kernel_rfl) rfl)
/-! ### 23 -/
abbrev Etrace_shapes : List TTraceshape → Value := fun r => lst r
def Ftrace_shapes (K : Nat) : Option (List TTraceshape) :=
  some ([TTraceshape.mk (ByteArray.mk #[]) 0, TTraceshape.mk (ByteArray.mk #[OfNat.ofNat 99, OfNat.ofNat 108, OfNat.ofNat 97, OfNat.ofNat 105, OfNat.ofNat 109]) 2, TTraceshape.mk (ByteArray.mk #[OfNat.ofNat 100, OfNat.ofNat 114, OfNat.ofNat 97, OfNat.ofNat 119]) 3, TTraceshape.mk (ByteArray.mk #[OfNat.ofNat 115, OfNat.ofNat 116, OfNat.ofNat 101, OfNat.ofNat 97, OfNat.ofNat 108]) 3, TTraceshape.mk (ByteArray.mk #[OfNat.ofNat 100, OfNat.ofNat 111, OfNat.ofNat 110, OfNat.ofNat 101]) 2, TTraceshape.mk (ByteArray.mk #[OfNat.ofNat 101, OfNat.ofNat 110, OfNat.ofNat 100]) 1])
theorem ctrace_shapes (K : Nat) : ∀ r, Ftrace_shapes K = some r → Con Tryz.prog 23 [] (Etrace_shapes r) := by
  refine Con.lift Tryz.func23 (by kernel_rfl) rfl (fun _ => rfl) ?_
  unfold Ftrace_shapes
  exact
    L.frzO mixed 15 0 0 6 (([(⟨ByteArray.mk #[], 0⟩ : TTraceshape), (⟨ByteArray.mk #[99, 108, 97, 105, 109], 2⟩ : TTraceshape), (⟨ByteArray.mk #[100, 114, 97, 119], 3⟩ : TTraceshape), (⟨ByteArray.mk #[115, 116, 101, 97, 108], 3⟩ : TTraceshape), (⟨ByteArray.mk #[100, 111, 110, 101], 2⟩ : TTraceshape), (⟨ByteArray.mk #[101, 110, 100], 1⟩ : TTraceshape)] : List TTraceshape)) (by first | rfl | exact Eq.symm (by assumption) | (simp; done) | (simp [*]; done)) (by kernel_rfl) (by kernel_rfl) (by kernel_rfl) <|
    L.ret _ mixed Tryz.func23 _ (by kernel_rfl) rfl
/-! ### 28 -/
abbrev Etrace_numbers : A3I → Value := fun r => .agg ⟨[.int .i64 r.e0, .int .i64 r.e1, .int .i64 r.e2]⟩
def Ftrace_numbers (K : Nat) (a0 : TEvent) : Option A3I :=
  some ((⟨a0.Who, a0.A, a0.B⟩ : A3I))
theorem ctrace_numbers (K : Nat) (a0 : TEvent) : ∀ r, Ftrace_numbers K a0 = some r → Con Tryz.prog 28 [.agg ⟨[.int .i64 a0.Who, .int .i64 a0.Kind, .int .i64 a0.A, .int .i64 a0.B]⟩] (Etrace_numbers r) := by
  refine Con.lift Tryz.func28 (by kernel_rfl) rfl (fun _ => rfl) ?_
  unfold Ftrace_numbers
  exact
    L.ret _ mixed Tryz.func28 _ (by kernel_rfl) rfl
/-! ### 29 -/
abbrev Etrace_join : ByteArray → Value := fun r => .string r
def Ftrace_join_2 (a0 : ByteArray) (a1 : List Int) : Nat → ByteArray → Int → Option ByteArray
  | 0, _, _ => none
  | K + 1, p0, p9 =>
    bif (decide (p9 < (↑a1.length : Int))) then
      bif inR p9 a1.length then
        (Fnum_Dec K (getR a1 p9.toNat)).bind fun u3 =>
        bif catOk (ByteArray.mk #[OfNat.ofNat 32]) u3 then
          bif catOk p0 (ByteArray.mk #[OfNat.ofNat 32] ++ u3) then
            Ftrace_join_2 a0 a1 K (p0 ++ (ByteArray.mk #[OfNat.ofNat 32] ++ u3)) (IntKind.i64.wrap (p9 + 1))
          else none
        else none
      else none
    else
      some p0
def Ftrace_join (K : Nat) (a0 : ByteArray) (a1 : List Int) : Option ByteArray :=
  Ftrace_join_2 a0 a1 K a0 0
def Htrace_join_2 (fn : Func) (a0 : ByteArray) (a1 : List Int) (p0 : ByteArray) (p9 : Int) : VS := headS fn 2 [(0, .string p0), (7, (lst a1)), (8, (Value.int IntKind.i64 ((↑a1.length : Int)))), (9, .int .i64 p9)] []
theorem ltrace_join (a0 : ByteArray) (a1 : List Int) : ∀ K : Nat, (∀ (p0 : ByteArray) (p9 : Int), Lifts Tryz.prog 29 0 Etrace_join (Htrace_join_2 Tryz.f29 a0 a1 p0 p9) (Ftrace_join_2 a0 a1 K p0 p9)) := by
  intro K
  induction K with
  | zero =>
    exact fun p0 p9 => (by rw [Ftrace_join_2]; exact L.no)
  | succ K ih =>
    have IH2 := ih
    refine fun p0 p9 => ?_
    · rw [Ftrace_join_2]
      exact
        L.br mixed 5 _ (by kernel_rfl)
          (fun h1 =>
          L.idx mixed 5 _ (rows a1) 1 IntKind.i64 _ (by kernel_rfl) (fun h2a h2b =>
          L.ld mixed 0 3 (rows a1) (p9.toNat * 1 + 0) (.int .i64 (getR a1 p9.toNat)) (by kernel_rfl) (load1_rows (i := p9.toNat) (d := 0) rfl (toNat_lt h2a h2b) (by kernel_rfl) (Nat.le_of_ble_eq_true (by kernel_rfl)) (by kernel_rfl)) <|
          L.callO mixed (fun u3 : ByteArray => .string u3) (cnum_Dec K (getR a1 p9.toNat)) (by kernel_rfl) (fun u3 hu3 =>
          L.cat mixed 0 (ByteArray.mk #[OfNat.ofNat 32]) u3 (by kernel_rfl) <|
          L.cat mixed 0 p0 (ByteArray.mk #[OfNat.ofNat 32] ++ u3) (by kernel_rfl) <|
          L.jump mixed 8 [0, 7, 8, 9] (by kernel_rfl) (IH2 (p0 ++ (ByteArray.mk #[OfNat.ofNat 32] ++ u3)) (IntKind.i64.wrap (p9 + 1))))))
          (fun h1 =>
          L.ret _ mixed Tryz.func29 _ (by kernel_rfl) rfl)
theorem ctrace_join (K : Nat) (a0 : ByteArray) (a1 : List Int) : ∀ r, Ftrace_join K a0 a1 = some r → Con Tryz.prog 29 [.string a0, lst a1] (Etrace_join r) := by
  have IH2 := ltrace_join a0 a1 K
  refine Con.lift Tryz.func29 (by kernel_rfl) rfl (fun _ => rfl) ?_
  unfold Ftrace_join
  exact
    L.jump mixed 13 [0, 7, 8, 9] (by kernel_rfl) (IH2 a0 0)
/-! ### 9 -/
abbrev Etrace_Line : ByteArray × Int → Value := fun r => .tuple ⟨[.string r.1, .int .i64 r.2]⟩
def Ftrace_Line_6 (a0 : TEvent) : Nat → TTraceshape → A3I → (List Int) → Int → Int → Option (ByteArray × Int)
  | 0, _, _, _, _, _ => none
  | K + 1, p5, p6, p29, p30, p31 =>
    bif (decide (p31 < p30)) then
      bif inR p31 p29.length then
        bif (getR p29 p31.toNat != 0) then
          some ((ByteArray.mk #[], 9))
        else
          Ftrace_Line_6 a0 K p5 p6 p29 p30 (IntKind.i64.wrap (p31 + 1))
      else none
    else
      bif cutOk (([p6.e0, p6.e1, p6.e2] : List Int)).length ((Option.none : Option Int).getD 0) ((some p5.many).getD (([p6.e0, p6.e1, p6.e2] : List Int)).length) then
        (Ftrace_join K p5.word (List.take (((some p5.many).getD (↑[p6.e0, p6.e1, p6.e2].length : Int)).toNat - 0) (List.drop 0 [p6.e0, p6.e1, p6.e2]))).bind fun u9 =>
        some ((u9, 0))
      else none
def Ftrace_Line (K : Nat) (a0 : TEvent) : Option (ByteArray × Int) :=
  (Ftrace_shapes K).bind fun u1 =>
  bif (decide (a0.Kind < 1)) then
    some ((ByteArray.mk #[], 9))
  else
    bif (bif false then true else decide (a0.Kind ≥ (↑u1.length : Int))) then
      some ((ByteArray.mk #[], 9))
    else
      bif inR a0.Kind u1.length then
        (Ftrace_numbers K a0).bind fun u5 =>
        bif cutOk (([u5.e0, u5.e1, u5.e2] : List Int)).length ((some ((getR u1 a0.Kind.toNat).many)).getD 0) ((Option.none : Option Int).getD (([u5.e0, u5.e1, u5.e2] : List Int)).length) then
          Ftrace_Line_6 a0 K ((getR u1 a0.Kind.toNat)) u5 (List.take ((none.getD (↑[u5.e0, u5.e1, u5.e2].length : Int)).toNat - ((some (getR u1 a0.Kind.toNat).many).getD 0).toNat) (List.drop ((some (getR u1 a0.Kind.toNat).many).getD 0).toNat [u5.e0, u5.e1, u5.e2])) ((↑(List.take ((none.getD (↑[u5.e0, u5.e1, u5.e2].length : Int)).toNat - ((some (getR u1 a0.Kind.toNat).many).getD 0).toNat) (List.drop ((some (getR u1 a0.Kind.toNat).many).getD 0).toNat [u5.e0, u5.e1, u5.e2])).length : Int)) 0
        else none
      else none
def Htrace_Line_6 (fn : Func) (a0 : TEvent) (p5 : TTraceshape) (p6 : A3I) (p29 : List Int) (p30 : Int) (p31 : Int) : VS := headS fn 6 [(5, frp [.string p5.word, .int .i64 p5.many] 0), (6, frp [.int .i64 p6.e0, .int .i64 p6.e1, .int .i64 p6.e2] 0), (29, lst p29), (30, .int .i64 p30), (31, .int .i64 p31)] []
theorem ltrace_Line (a0 : TEvent) : ∀ K : Nat, (∀ (p5 : TTraceshape) (p6 : A3I) (p29 : List Int) (p30 : Int) (p31 : Int), Lifts Tryz.prog 9 0 Etrace_Line (Htrace_Line_6 Tryz.f9 a0 p5 p6 p29 p30 p31) (Ftrace_Line_6 a0 K p5 p6 p29 p30 p31)) := by
  intro K
  induction K with
  | zero =>
    exact fun p5 p6 p29 p30 p31 => (by rw [Ftrace_Line_6]; exact L.no)
  | succ K ih =>
    have IH6 := ih
    refine fun p5 p6 p29 p30 p31 => ?_
    · rw [Ftrace_Line_6]
      exact
        L.br mixed 5 _ (by kernel_rfl)
          (fun h6 =>
          L.idx mixed 5 _ (rows p29) 1 IntKind.i64 _ (by kernel_rfl) (fun h7a h7b =>
          L.ld mixed 0 3 (rows p29) (p31.toNat * 1 + 0) (.int .i64 (getR p29 p31.toNat)) (by kernel_rfl) (load1_rows (i := p31.toNat) (d := 0) rfl (toNat_lt h7a h7b) (by kernel_rfl) (Nat.le_of_ble_eq_true (by kernel_rfl)) (by kernel_rfl)) <|
          L.br mixed 7 _ (by kernel_rfl)
            (fun h8 =>
            L.ret _ mixed Tryz.func9 _ (by kernel_rfl) rfl)
            (fun h8 =>
            L.jump mixed 7 [5, 6, 29, 30, 31] (by kernel_rfl) (IH6 p5 p6 p29 p30 (IntKind.i64.wrap (p31 + 1))))))
          (fun h6 =>
          L.ld mixed 4 9 [(Value.string p5.word), (Value.int IntKind.i64 p5.many)] 0 ((Value.string p5.word)) (by kernel_rfl) (by kernel_rfl) <|
          L.ld mixed 1 3 [(Value.string p5.word), (Value.int IntKind.i64 p5.many)] 1 ((Value.int IntKind.i64 p5.many)) (by kernel_rfl) (by kernel_rfl) <|
          L.slPB mixed 0 (([p6.e0, p6.e1, p6.e2] : List Int)) (Option.none : Option Int) (some p5.many) (by kernel_rfl) <|
          L.callO mixed (fun u9 : ByteArray => .string u9) (ctrace_join K p5.word (List.take (((some p5.many).getD (↑[p6.e0, p6.e1, p6.e2].length : Int)).toNat - 0) (List.drop 0 [p6.e0, p6.e1, p6.e2]))) (by kernel_rfl) (fun u9 hu9 =>
          L.ret _ mixed Tryz.func9 _ (by kernel_rfl) rfl))
theorem ctrace_Line (K : Nat) (a0 : TEvent) : ∀ r, Ftrace_Line K a0 = some r → Con Tryz.prog 9 [.agg ⟨[.int .i64 a0.Who, .int .i64 a0.Kind, .int .i64 a0.A, .int .i64 a0.B]⟩] (Etrace_Line r) := by
  have IH6 := ltrace_Line a0 K
  refine Con.lift Tryz.func9 (by kernel_rfl) rfl (fun _ => rfl) ?_
  unfold Ftrace_Line
  exact
    L.callO mixed (fun u1 : List TTraceshape => lst u1) (ctrace_shapes K) (by kernel_rfl) (fun u1 hu1 =>
    L.gu mixed 9 _ (by kernel_rfl)
      (fun h2 =>
      L.ret _ mixed Tryz.func9 _ (by kernel_rfl) rfl)
      (fun h2 =>
      L.br mixed 7 _ (by kernel_rfl)
        (fun h3 =>
        L.ret _ mixed Tryz.func9 _ (by kernel_rfl) rfl)
        (fun h3 =>
        L.idx mixed 6 _ (rows u1) 2 IntKind.i64 _ (by kernel_rfl) (fun h4a h4b =>
        L.ld mixed 0 63 (rows u1) (a0.Kind.toNat * 2 + 0) (.agg ⟨[.string (getR u1 a0.Kind.toNat).word, .int .i64 (getR u1 a0.Kind.toNat).many]⟩) (by kernel_rfl) (loadN_rows (i := a0.Kind.toNat) (d := 0) (k := 2) rfl (toNat_lt h4a h4b) (by kernel_rfl) (by kernel_rfl) (Nat.le_of_ble_eq_true (by kernel_rfl)) (by kernel_rfl)) <|
        L.callO mixed (fun u5 : A3I => .agg ⟨[.int .i64 u5.e0, .int .i64 u5.e1, .int .i64 u5.e2]⟩) (ctrace_numbers K a0) (by kernel_rfl) (fun u5 hu5 =>
        L.frzP mixed 7 6 2 0 0 [(Value.int IntKind.i64 u5.e0), (Value.int IntKind.i64 u5.e1), (Value.int IntKind.i64 u5.e2)] (by kernel_rfl) (by kernel_rfl) (by kernel_rfl) (by kernel_rfl) <|
        L.slPB mixed 3 (([u5.e0, u5.e1, u5.e2] : List Int)) (some ((getR u1 a0.Kind.toNat).many)) (Option.none : Option Int) (by kernel_rfl) <|
        L.frzP mixed 4 5 1 0 0 [(Value.string (getR u1 a0.Kind.toNat).word), (Value.int IntKind.i64 ((getR u1 a0.Kind.toNat).many))] (by kernel_rfl) (by kernel_rfl) (by kernel_rfl) (by kernel_rfl) <|
        L.jumpG mixed 1 [5, 6, 29, 30, 31] [] [] (by kernel_rfl) (by kernel_rfl) (by kernel_rfl) trivial (by kernel_rfl) (by kernel_rfl) (IH6 ((getR u1 a0.Kind.toNat)) u5 (List.take ((none.getD (↑[u5.e0, u5.e1, u5.e2].length : Int)).toNat - ((some (getR u1 a0.Kind.toNat).many).getD 0).toNat) (List.drop ((some (getR u1 a0.Kind.toNat).many).getD 0).toNat [u5.e0, u5.e1, u5.e2])) ((↑(List.take ((none.getD (↑[u5.e0, u5.e1, u5.e2].length : Int)).toNat - ((some (getR u1 a0.Kind.toNat).many).getD 0).toNat) (List.drop ((some (getR u1 a0.Kind.toNat).many).getD 0).toNat [u5.e0, u5.e1, u5.e2])).length : Int)) 0))))))

end

section
open Go Go.Dt Go.Proofs Go.Shelf Go.RowKit
set_option linter.unusedVariables false
set_option linter.unusedSimpArgs false

theorem fro_cell {w : World} {r i : Nat} {c : Array Value} {v : Value} (h : froH w r = some c) (hi : c[i]? = some v) : w.cell? ⟨r, i, none⟩ = some v := by
  obtain ⟨t, fz, hh⟩ := froH_ok h
  simp only [World.cell?, hh]
  exact hi
theorem tabs_of {w : World} (h : GloOk (froH w)) : Tabs w := by
  obtain ⟨⟨m, h4⟩, ⟨c0, h0, p0⟩, ⟨c1, h1, p1⟩, _⟩ := h
  exact ⟨⟨fun k hk => fro_cell h0 (p0 k hk), fun i hi => ⟨fro_cell h1 (p1 i hi).1, fro_cell h1 (p1 i hi).2⟩⟩, m, fro_cell h4 rfl⟩
theorem froH_below {w w' : World} (k : Below w.heap.size w w') : ∀ r c, froH w r = some c → froH w' r = some c := fun r c h => by
  obtain ⟨t, fz, hh⟩ := froH_ok h
  exact froH_of ((k.block r (Array.getElem?_eq_some_iff.1 hh).1).trans hh)
theorem glo_below {w w' : World} (h : GloOk (froH w)) (k : Below w.heap.size w w') : GloOk (froH w') := GloOk.mono (froH_below k) h

theorem rows_str : ∀ l : List ByteArray, rows l = l.map Value.string
  | [] => rfl
  | x :: l => congrArg (Value.string x :: ·) (rows_str l)
theorem pures_str : ∀ l : List ByteArray, pures (l.map Value.string) = true
  | [] => rfl
  | x :: l => pures_str l
/-- A block of texts is a row of texts. -/
theorem rv_strs {ι : Map} {r : Nat} {l : List ByteArray} (h : ι.fro r = some (l.map Value.string).toArray) : RV ι (lst l) (.slice (some ⟨r, 0, none⟩) l.length l.length) := by
  have hl : (rows l).length = l.length := by rw [rows_str]; simp
  refine RV.frz h (Nat.le_refl _) (by rw [rows_str]; exact pures_str l) (by rw [hl]; simp) fun i hi => ?_
  rw [hl] at hi
  have : (rows l).getD i undef = .string (l[i]'hi) := by rw [rows_str]; simp [List.getD_eq_getElem?_getD, hi]
  rw [this]
  have : ((l.map Value.string).toArray).getD (0 + i) undef = .string (l[i]'hi) := by simp [hi]
  rw [this]
  exact RV.string _

/-! ### Is one of the words empty? -/
def emptyIn (l : List ByteArray) : Bool := l.any fun w => w.size == 0
theorem toList_nil {w : ByteArray} : ((ByteArray.mk #[]).toList == w.toList) = (w.size == 0) := by
  rw [ByteArray.toList_eq, ByteArray.toList_eq]
  rw [Bool.eq_iff_iff]
  simp only [beq_iff_eq]
  constructor
  · intro h
    have : w.data.toList.length = 0 := by rw [← h]; rfl
    rw [Lib.size_eq]
    exact this
  · intro h
    rw [Lib.size_eq] at h
    exact (List.length_eq_zero_iff.1 h).symm
theorem idx_empty (l : List ByteArray) (hl : l.length ≤ 1000000) : ∀ (m i K : Nat), i + m = l.length → m < K → ∃ r, Fslices_Index_2 l ⟨#[]⟩ K (i : Int) = some r ∧ decide (r ≥ 0) = emptyIn (l.drop i)
  | 0, i, K, him, hK => by
    obtain ⟨K, rfl⟩ : ∃ k, K = k + 1 := ⟨K - 1, by omega⟩
    rw [Fslices_Index_2, decide_eq_false (show ¬ (i : Int) < (l.length : Int) by omega)]
    refine ⟨-1, rfl, ?_⟩
    rw [List.drop_eq_nil_of_le (by omega)]
    rfl
  | m + 1, i, K, him, hK => by
    obtain ⟨K, rfl⟩ : ∃ k, K = k + 1 := ⟨K - 1, by omega⟩
    have hi : i < l.length := by omega
    have e2 : inR (i : Int) l.length = true := by simp only [inR, Bool.and_eq_true, decide_eq_true_eq]; omega
    have e3 : IntKind.i64.wrap ((i : Int) + 1) = ((i + 1 : Nat) : Int) := by rw [wrap_i64_of (by omega) (by omega)]; omega
    have e4 : getR l (i : Int).toNat = l[i] := by
      show l.getD i _ = _
      simp [List.getD_eq_getElem?_getD, hi]
    rw [Fslices_Index_2, decide_eq_true (show (i : Int) < (l.length : Int) by omega), e2, e3, e4, toList_nil]
    simp only [cond_true]
    rw [List.drop_eq_getElem_cons hi]
    cases h : (l[i].size == 0) with
    | true =>
      refine ⟨i, rfl, ?_⟩
      have : decide ((i : Int) ≥ 0) = true := decide_eq_true (by omega)
      rw [this, show emptyIn (l[i] :: l.drop (i + 1)) = (l[i].size == 0 || emptyIn (l.drop (i + 1))) from rfl, h]
      rfl
    | false =>
      obtain ⟨r, h1, h2⟩ := idx_empty l hl m (i + 1) K (by omega) (by omega)
      refine ⟨r, h1, ?_⟩
      rw [h2, show emptyIn (l[i] :: l.drop (i + 1)) = (l[i].size == 0 || emptyIn (l.drop (i + 1))) from rfl, h]
      rfl
theorem contains_empty (l : List ByteArray) (hl : l.length ≤ 1000000) : Fslices_Contains 1000002 l ⟨#[]⟩ = some (emptyIn l) := by
  obtain ⟨r, h1, h2⟩ := idx_empty l hl l.length 0 1000002 (by omega) (by omega)
  have h1 : Fslices_Index 1000002 l ⟨#[]⟩ = some r := h1
  unfold Fslices_Contains
  rw [h1]
  exact congrArg some h2

/-! ### The walk -/
/-- A line's words, and the error. -/
def wordsF (s : ByteArray) : List ByteArray × Int := if lineB s then (if s.size = 0 then ([], 0) else if emptyIn (splS s) then ([], 13) else (splS s, 0)) else ([], 13)
def WordsRes (r : List ByteArray × Int) (w : World) (e : Ending) (w' : World) : Prop :=
  Below w.heap.size w w' ∧ ((r.1 = [] ∧ e = .returned (.tuple #[.slice none 0 0, .int .i64 r.2])) ∨
    ∃ b t fz, w.heap.size ≤ b ∧ e = .returned (.tuple #[.slice (some ⟨b, 0, none⟩) r.1.length r.1.length, .int .i64 r.2]) ∧ w'.heap[b]? = some (.cells (r.1.map Value.string).toArray t fz))
theorem split_calls (s : ByteArray) (hs : s.size ≤ 100000) (w : World) (ht : Tabs w) :
    Calls Tryz.prog 44 #[.string s, .string blankS] w fun e w' => e = .returned (.slice (some ⟨w.heap.size, 0, none⟩) (splS s).length (splS s).length) ∧ w' = w.alloc (.cells ((splS s).map Value.string).toArray 9) := by
  obtain ⟨_, m, hm⟩ := ht
  have h := Any.strings_Split laysS (by kernel_rfl) s blankS m w (by omega) hm (by decide)
  rw [splS_len]
  exact h
theorem contains_calls (l : List ByteArray) (hl : l.length ≤ 1000000) (w : World) (hg : GloOk (froH w)) (b : Nat) (t : TypeId) (fz : Nat × Nat) (h : w.heap[b]? = some (.cells (l.map Value.string).toArray t fz)) :
    Calls Tryz.prog 45 #[.slice (some ⟨b, 0, none⟩) l.length l.length, .string ⟨#[]⟩] w fun e w' => e = .returned (.bool (emptyIn l)) ∧ Below w.heap.size w w' :=
  Con.calls (cslices_Contains 1000002 l ⟨#[]⟩ _ (contains_empty l hl)) rfl #[.slice (some ⟨b, 0, none⟩) l.length l.length, .string ⟨#[]⟩] w rfl (fun i => by
    rcases i with _ | _ | i
    · exact rv_strs (froH_of h)
    · exact RV.string _
    · exact RV.any _) hg
theorem splS_small {s : ByteArray} (hs : s.size ≤ 100000) : (splS s).length ≤ 1000000 := by
  rw [splS_len]
  have := Lib.countB_le blankS (by decide) s.size s (Nat.le_refl _)
  omega

set_option maxHeartbeats 4000000 in
set_option maxRecDepth 100000 in
theorem words_calls (s : ByteArray) (hs : s.size ≤ 100000) (w : World) (hg : GloOk (froH w)) : Calls Tryz.prog 21 #[.string s] w (WordsRes (wordsF s) w) := by
  have ht := tabs_of hg
  have hl := line_calls s hs w ht
  have hsm := splS_small hs
  have hz : (s.toList == (ByteArray.mk #[]).toList) = (s.size == 0) := by rw [Bool.beq_comm, toList_nil]
  have hz2 : s.toList.isEmpty = (s.size == 0) := by
    rw [← hz, show (ByteArray.mk #[]).toList = [] from ByteArray.toList_eq _]
    cases s.toList <;> rfl
  unfold wordsF
  cases hb : lineB s with
  | false =>
    rw [hb] at hl
    go_enter Tryz.func21, Tryz.ntmps21
    go_wp2_with (go_at_call 43; refine hl.mono ?_; rintro e W1 ⟨rfl, k1⟩)
    go_ret2
    exact ⟨k1, Or.inl ⟨rfl, rfl⟩⟩
  | true =>
    rw [hb] at hl
    rw [if_pos rfl]
    cases h0 : (s.size == 0) with
    | true =>
      rw [h0] at hz hz2
      rw [if_pos (by simpa using h0)]
      go_enter Tryz.func21, Tryz.ntmps21
      go_wp2_with (go_at_call 43; refine hl.mono ?_; rintro e W1 ⟨rfl, k1⟩)
      go_ret2
      exact ⟨k1, Or.inl ⟨rfl, rfl⟩⟩
    | false =>
      rw [h0] at hz hz2
      rw [if_neg (by simpa using h0)]
      have hsp := fun (W : World) (k : Below w.heap.size w W) => split_calls s hs W (ht.below (n := 0) k)
      have hco := fun (W : World) (k : Below w.heap.size w W) => contains_calls (splS s) hsm (W.alloc (.cells ((splS s).map Value.string).toArray 9)) (glo_below hg (k.trans ((Below.refl _ W).alloc (Nat.le_refl _) _ |>.mono k.size))) W.heap.size 9 (0, 0) (heap_alloc_new _ _)
      cases he : emptyIn (splS s) with
      | true =>
        rw [he] at hco
        go_enter Tryz.func21, Tryz.ntmps21
        go_wp2_with (first
          | (go_at_call 43; refine hl.mono ?_; rintro e W1 ⟨rfl, k1⟩)
          | (go_at_call 44; refine (hsp _ (by assumption)).mono ?_; rintro e W2 ⟨rfl, rfl⟩)
          | (go_at_call 45; refine (hco _ (by assumption)).mono ?_; rintro e W3 ⟨rfl, k3⟩))
        go_ret2
        have kA : Below w.heap.size w (W1.alloc (.cells ((splS s).map Value.string).toArray 9)) := k1.trans (((Below.refl _ W1).alloc (Nat.le_refl _) _).mono k1.size)
        have kW : Below w.heap.size w W3 := kA.trans (k3.mono kA.size)
        exact ⟨kW, Or.inl ⟨rfl, rfl⟩⟩
      | false =>
        rw [he] at hco
        go_enter Tryz.func21, Tryz.ntmps21
        go_wp2_with (first
          | (go_at_call 43; refine hl.mono ?_; rintro e W1 ⟨rfl, k1⟩)
          | (go_at_call 44; refine (hsp _ (by assumption)).mono ?_; rintro e W2 ⟨rfl, rfl⟩)
          | (go_at_call 45; refine (hco _ (by assumption)).mono ?_; rintro e W3 ⟨rfl, k3⟩))
        go_ret2
        have kA : Below w.heap.size w (W1.alloc (.cells ((splS s).map Value.string).toArray 9)) := k1.trans (((Below.refl _ W1).alloc (Nat.le_refl _) _).mono k1.size)
        have kW : Below w.heap.size w W3 := kA.trans (k3.mono kA.size)
        exact ⟨kW, Or.inr ⟨_, _, _, k1.size, rfl, (k3.block W1.heap.size (by rw [World.size_alloc]; omega)).trans (heap_alloc_new _ _)⟩⟩
/-! ### As a contract -/
theorem sim_frz {ι : Map} {C : Cont} {w w' : World} {b : Nat} {c : Array Value} {t : TypeId} {fz : Nat × Nat} (h : Sim ι C w) (k : Below w.heap.size w w') (hb : w.heap.size ≤ b) (hh : w'.heap[b]? = some (.cells c t fz)) :
    Sim ⟨ι.loc, fun r => if r = b then some c else ι.fro r⟩ C w' ∧ Ext ι C w ⟨ι.loc, fun r => if r = b then some c else ι.fro r⟩ C w' := by
  have hlt : ∀ r x, ι.fro r = some x → r ≠ b := fun r x hr => by
    obtain ⟨t, fz, h2⟩ := h.fro r x hr
    have := (Array.getElem?_eq_some_iff.1 h2).1
    omega
  have hle : Le ι ⟨ι.loc, fun r => if r = b then some c else ι.fro r⟩ := ⟨fun _ _ h => h, fun r x hr => by
    show (if r = b then some c else ι.fro r) = some x
    rw [if_neg (hlt r x hr)]; exact hr⟩
  have hcase : ∀ r x, (if r = b then some c else ι.fro r) = some x → (r = b ∧ x = c) ∨ ι.fro r = some x := fun r x hr => by
    split at hr
    · rename_i e; cases hr; exact .inl ⟨e, rfl⟩
    · exact .inr hr
  have hblk : ∀ x L, (C x).own = true → ι x = some L → L.blk < w.heap.size := fun x L ho hL => by
    have hl : (C x).live = true := by
      cases hx : C x with
      | gone => rw [hx] at ho; cases ho
      | cells _ _ _ => rfl
      | map _ _ => rfl
    obtain ⟨L', hL', hlt⟩ := (h.blk x).loc hl
    rw [hL] at hL'; cases hL'
    exact hlt
  refine ⟨⟨fun x => (h.blk x).keep hle fun hl L hL => ?_, h.sep, fun r x hr => ?_, fun x L r y ho hL hr => ?_, GloOk.mono hle.fro h.glo⟩, ⟨hle, k.size, k.os, k.tape, k.output, fun i hi _ => k.block i hi, fun _ h => .inl h, fun _ h => .inl h, fun r x hr => ?_⟩⟩
  · obtain ⟨L', hL', hlt⟩ := (h.blk x).loc hl
    rw [hL] at hL'; cases hL'
    exact k.block _ hlt
  · rcases hcase r x hr with ⟨rfl, rfl⟩ | hr
    · exact ⟨t, fz, hh⟩
    · obtain ⟨t, fz, h2⟩ := h.fro r x hr
      exact ⟨t, fz, (k.block r (Array.getElem?_eq_some_iff.1 h2).1).trans h2⟩
  · rcases hcase r y hr with ⟨rfl, rfl⟩ | hr
    · have := hblk x L ho hL; omega
    · exact h.apart x L r y ho hL hr
  · rcases hcase r x hr with ⟨rfl, rfl⟩ | hr
    · exact .inr (.inr hb)
    · exact .inl hr
theorem sim_glo {ι : Map} {C : Cont} {w : World} (h : Sim ι C w) : GloOk (froH w) := GloOk.mono (fun r c hr => by
  obtain ⟨t, fz, hh⟩ := h.fro r c hr
  exact froH_of hh) h.glo
theorem sim_below {ι : Map} {C : Cont} {w w' : World} (h : Sim ι C w) (k : Below w.heap.size w w') : Sim ι C w' where
  blk := fun b => (h.blk b).keep (Le.refl _) fun hl L hL => by
    obtain ⟨L', hL', hlt⟩ := (h.blk b).loc hl
    rw [hL] at hL'; cases hL'
    exact k.block _ hlt
  sep := h.sep
  fro := fun r c hr => by
    obtain ⟨t, fz, hh⟩ := h.fro r c hr
    exact ⟨t, fz, (k.block r (Array.getElem?_eq_some_iff.1 hh).1).trans hh⟩
  apart := h.apart
  glo := h.glo
theorem ext_below {ι : Map} {C : Cont} {w w' : World} (k : Below w.heap.size w w') : Ext ι C w ι C w' :=
  ⟨Le.refl _, k.size, k.os, k.tape, k.output, fun i hi _ => k.block i hi, fun _ h => .inl h, fun _ h => .inl h, fun _ _ h => .inl h⟩
theorem args_plain {ι : Map} {args : List Value} {args' : Array Value} (hp : plains args = true) (hsz : args'.size = args.length) (hargs : ∀ i, RV ι (args.getD i undef) (args'.getD i undef)) : args' = args.toArray := by
  apply Array.ext (by simpa using hsz)
  intro i h1 h2
  have hi : i < args.length := by simpa using h2
  have := RV.eq_of_plain (hargs i) (plains_get hp hi)
  simp [List.getD_eq_getElem?_getD, Array.getD_eq_getD_getElem?, hi, h1] at this
  simp [this]
/-- A contract for all worlds in which the package variables are what they are. -/
theorem FnEq.ofBelowG {P : Program} {f : FuncId} {args : List Value} {v : Value} (hp : plains args = true) (hv : plain v = true)
    (h : ∀ w, GloOk (froH w) → Calls P f args.toArray w fun e w' => e = .returned v ∧ Below w.heap.size w w') : FnEq P f args [] v [] := fun ι args' w hsz hargs hs hd => by
  obtain rfl := args_plain hp hsz hargs
  exact (h w (sim_glo hs)).mono fun e w' ⟨he, hb⟩ => ⟨v, ι, he, RV.refl ι v hv, sim_below hs hb, hd, ext_below hb⟩
abbrev Ewords : List ByteArray × Int → Value := fun r => .tuple ⟨[lst r.1, .int .i64 r.2]⟩
theorem words_fn (s : ByteArray) (hs : s.size ≤ 100000) : FnEq Tryz.prog 21 [.string s] [] (Ewords (wordsF s)) [] := fun ι args' w hsz hargs hsim hd => by
  obtain rfl := args_plain (args := [.string s]) rfl hsz hargs
  refine (words_calls s hs w (sim_glo hsim)).mono fun e w' ⟨hb, h⟩ => ?_
  rcases h with ⟨h0, rfl⟩ | ⟨b, t, fz, hbb, rfl, hh⟩
  · refine ⟨_, ι, rfl, ?_, sim_below hsim hb, hd, ext_below hb⟩
    refine RV.tuple rfl fun i => ?_
    rcases i with _ | _ | i
    · show RV ι (lst (wordsF s).1) (.slice none 0 0)
      rw [h0]
      exact RV.frzN
    · exact RV.int _ _
    · exact RV.any _
  · obtain ⟨h1, h2⟩ := sim_frz hsim hb hbb hh
    refine ⟨_, _, rfl, ?_, h1, hd, h2⟩
    refine RV.tuple rfl fun i => ?_
    rcases i with _ | _ | i
    · exact rv_strs (if_pos rfl)
    · exact RV.int _ _
    · exact RV.any _
/-- What lex.Words tells; of a text that is too long, nothing is said. -/
def Flex_Words (_ : Nat) (s : ByteArray) : Option (List ByteArray × Int) := bif decide (s.size ≤ 100000) then some (wordsF s) else none
abbrev Elex_Words := Ewords
theorem clex_Words (K : Nat) (a0 : ByteArray) : ∀ r, Flex_Words K a0 = some r → Con Tryz.prog 21 [.string a0] (Elex_Words r) := fun r h => by
  unfold Flex_Words at h
  cases hd : decide (a0.size ≤ 100000) with
  | false => rw [hd] at h; cases h
  | true =>
    rw [hd] at h
    cases h
    refine Con.of Tryz.func21 (by kernel_rfl) ?_ (words_fn a0 (of_decide_eq_true hd))
    show (true && pureV (.tuple ⟨[lst (wordsF a0).1, .int .i64 (wordsF a0).2]⟩)) = true
    simp [pureV, pures]
    exact Or.inr (rows_pure _)

end

end Go.Proofs.YtdmcdijlpnbghaaGreatDoor.Lf
