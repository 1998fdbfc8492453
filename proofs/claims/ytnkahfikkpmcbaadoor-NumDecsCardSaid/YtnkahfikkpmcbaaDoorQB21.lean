/- Several texts in one: LNc, LNd, LNe. -/
import Derived.Test.YtnkahfikkpmcbaaDoorQB20
namespace Go.Proofs.YtnkahfikkpmcbaaDoor.Lf

section
open Go Go.Dt Go.Proofs
set_option linter.unusedVariables false

/-! ### 16 -/
abbrev Enum_lay : ByteArray → Value := fun r => .string r
def Fnum_lay_3 (a0 : Int) (a1 : Int) : Nat → Int → (List U8) → Option ByteArray
  | 0, _, _ => none
  | K + 1, p0, p5 =>
    bif (decide (p0 > 0)) then
      bif a1 != 0 then
        bif inR (p0.tmod a1) (ByteArray.mk #[OfNat.ofNat 48, OfNat.ofNat 49, OfNat.ofNat 50, OfNat.ofNat 51, OfNat.ofNat 52, OfNat.ofNat 53, OfNat.ofNat 54, OfNat.ofNat 55, OfNat.ofNat 56, OfNat.ofNat 57, OfNat.ofNat 97, OfNat.ofNat 98, OfNat.ofNat 99, OfNat.ofNat 100, OfNat.ofNat 101, OfNat.ofNat 102]).size then
          bif room (p5.length + ([⟨byteAt (ByteArray.mk #[OfNat.ofNat 48, OfNat.ofNat 49, OfNat.ofNat 50, OfNat.ofNat 51, OfNat.ofNat 52, OfNat.ofNat 53, OfNat.ofNat 54, OfNat.ofNat 55, OfNat.ofNat 56, OfNat.ofNat 57, OfNat.ofNat 97, OfNat.ofNat 98, OfNat.ofNat 99, OfNat.ofNat 100, OfNat.ofNat 101, OfNat.ofNat 102]) (p0.tmod a1)⟩] : List U8).length) 1 then
            bif a1 != 0 then
              Fnum_lay_3 a0 a1 K (IntKind.u64.wrap (p0.tdiv a1)) (p5 ++ [U8.mk (byteAt (ByteArray.mk #[OfNat.ofNat 48, OfNat.ofNat 49, OfNat.ofNat 50, OfNat.ofNat 51, OfNat.ofNat 52, OfNat.ofNat 53, OfNat.ofNat 54, OfNat.ofNat 55, OfNat.ofNat 56, OfNat.ofNat 57, OfNat.ofNat 97, OfNat.ofNat 98, OfNat.ofNat 99, OfNat.ofNat 100, OfNat.ofNat 101, OfNat.ofNat 102]) (p0.tmod a1))])
            else none
          else none
        else none
      else none
    else
      (Fslices_Reverse K p5).bind fun u8 =>
      some (strU u8.snd)
def Fnum_lay (K : Nat) (a0 : Int) (a1 : Int) : Option ByteArray :=
  bif a1 != 0 then
    bif inR (a0.tmod a1) (ByteArray.mk #[OfNat.ofNat 48, OfNat.ofNat 49, OfNat.ofNat 50, OfNat.ofNat 51, OfNat.ofNat 52, OfNat.ofNat 53, OfNat.ofNat 54, OfNat.ofNat 55, OfNat.ofNat 56, OfNat.ofNat 57, OfNat.ofNat 97, OfNat.ofNat 98, OfNat.ofNat 99, OfNat.ofNat 100, OfNat.ofNat 101, OfNat.ofNat 102]).size then
      bif a1 != 0 then
        Fnum_lay_3 a0 a1 K (IntKind.u64.wrap (a0.tdiv a1)) (([⟨byteAt (ByteArray.mk #[OfNat.ofNat 48, OfNat.ofNat 49, OfNat.ofNat 50, OfNat.ofNat 51, OfNat.ofNat 52, OfNat.ofNat 53, OfNat.ofNat 54, OfNat.ofNat 55, OfNat.ofNat 56, OfNat.ofNat 57, OfNat.ofNat 97, OfNat.ofNat 98, OfNat.ofNat 99, OfNat.ofNat 100, OfNat.ofNat 101, OfNat.ofNat 102]) (a0.tmod a1)⟩] : List U8))
      else none
    else none
  else none
def Hnum_lay_35O (fn : Func) (a0 : Int) (a1 : Int) (p0 : Int) (np5 : Nat) (p5 : List U8) : VS := headS fn 3 [(0, .int .u64 p0), (1, (Value.int IntKind.u64 a1)), (5, .slice (some ⟨0, 0, none⟩) np5 np5)] [ownB p5]
theorem lnum_lay (a0 : Int) (a1 : Int) : ∀ K : Nat, (∀ (p0 : Int) (np5 : Nat) (p5 : List U8) (_ : np5 = p5.length), Lifts Tryd.prog 16 0 Enum_lay (Hnum_lay_35O Tryd.f16 a0 a1 p0 np5 p5) (Fnum_lay_3 a0 a1 K p0 p5)) := by
  intro K
  induction K with
  | zero =>
    exact fun p0 np5 p5 ep5 => (by rw [Fnum_lay_3]; exact L.no)
  | succ K ih =>
    have IH35O := ih
    refine fun p0 np5 p5 ep5 => ?_
    · subst ep5; rw [Fnum_lay_3]
      exact
        L.br mixed 6 _ (by kernel_rfl)
          (fun h4 =>
          L.div mixed 7 true IntKind.u64 p0 _ (by kernel_rfl) (fun hd7 =>
          L.strIdx mixed 0 9 _ IntKind.u64 _ (by kernel_rfl) (by kernel_rfl) (fun h5a h5b =>
          L.app mixed 1 0 1 1 0 p5.length [(Value.int IntKind.u8 (byteAt (ByteArray.mk #[OfNat.ofNat 48, OfNat.ofNat 49, OfNat.ofNat 50, OfNat.ofNat 51, OfNat.ofNat 52, OfNat.ofNat 53, OfNat.ofNat 54, OfNat.ofNat 55, OfNat.ofNat 56, OfNat.ofNat 57, OfNat.ofNat 97, OfNat.ofNat 98, OfNat.ofNat 99, OfNat.ofNat 100, OfNat.ofNat 101, OfNat.ofNat 102]) (p0.tmod a1)))] p5 ([⟨byteAt (ByteArray.mk #[OfNat.ofNat 48, OfNat.ofNat 49, OfNat.ofNat 50, OfNat.ofNat 51, OfNat.ofNat 52, OfNat.ofNat 53, OfNat.ofNat 54, OfNat.ofNat 55, OfNat.ofNat 56, OfNat.ofNat 57, OfNat.ofNat 97, OfNat.ofNat 98, OfNat.ofNat 99, OfNat.ofNat 100, OfNat.ofNat 101, OfNat.ofNat 102]) (p0.tmod a1)⟩] : List U8) (by first | rfl | exact Eq.symm (by assumption) | (simp; done) | (simp [*]; done)) (by kernel_rfl) (by kernel_rfl) (Nat.le_of_ble_eq_true (by kernel_rfl)) (Nat.le_of_ble_eq_true (by kernel_rfl)) (by kernel_rfl) <|
          L.div mixed 6 false IntKind.u64 p0 _ (by kernel_rfl) (fun hd6 =>
          L.jumpG mixed 3 [0, 1, 5] [.ownp 2] [rows (p5 ++ [U8.mk (byteAt (ByteArray.mk #[OfNat.ofNat 48, OfNat.ofNat 49, OfNat.ofNat 50, OfNat.ofNat 51, OfNat.ofNat 52, OfNat.ofNat 53, OfNat.ofNat 54, OfNat.ofNat 55, OfNat.ofNat 56, OfNat.ofNat 57, OfNat.ofNat 97, OfNat.ofNat 98, OfNat.ofNat 99, OfNat.ofNat 100, OfNat.ofNat 101, OfNat.ofNat 102]) (p0.tmod a1))])] (by kernel_rfl) (by kernel_rfl) (by kernel_rfl) ⟨rows_pure _, trivial⟩ (by kernel_rfl) (by kernel_rfl) (IH35O (IntKind.u64.wrap (p0.tdiv a1)) ((p5 ++ [U8.mk (byteAt (ByteArray.mk #[OfNat.ofNat 48, OfNat.ofNat 49, OfNat.ofNat 50, OfNat.ofNat 51, OfNat.ofNat 52, OfNat.ofNat 53, OfNat.ofNat 54, OfNat.ofNat 55, OfNat.ofNat 56, OfNat.ofNat 57, OfNat.ofNat 97, OfNat.ofNat 98, OfNat.ofNat 99, OfNat.ofNat 100, OfNat.ofNat 101, OfNat.ofNat 102]) (p0.tmod a1))]).length) (p5 ++ [U8.mk (byteAt (ByteArray.mk #[OfNat.ofNat 48, OfNat.ofNat 49, OfNat.ofNat 50, OfNat.ofNat 51, OfNat.ofNat 52, OfNat.ofNat 53, OfNat.ofNat 54, OfNat.ofNat 55, OfNat.ofNat 56, OfNat.ofNat 57, OfNat.ofNat 97, OfNat.ofNat 98, OfNat.ofNat 99, OfNat.ofNat 100, OfNat.ofNat 101, OfNat.ofNat 102]) (p0.tmod a1))]) (by first | rfl | exact Eq.symm (by assumption) | (simp; done) | (simp [*]; done)))))))
          (fun h4 =>
          L.callPO mixed [.ownp 0] [0] [rows p5] (fun u8 : Unit × (List U8) => .tuple ⟨[]⟩) (fun u8 : Unit × (List U8) => [ownB u8.2]) (cslices_Reverse K p5) (by kernel_rfl) (fun _ => by kernel_rfl) (by kernel_rfl) ⟨rows_pure _, trivial⟩ (fun _ => ⟨rows_pure _, trivial⟩) (fun u8 hu8 =>
          have el8 : u8.2.length = p5.length := lenslices_Reverse hu8
          L.bytesO mixed 4 0 p5.length u8.snd (by first | rfl | exact Eq.symm (by assumption) | (simp; done) | (simp [*]; done)) (by kernel_rfl) <|
          L.ret _ mixed Tryd.func16 _ (by kernel_rfl) rfl))
theorem cnum_lay (K : Nat) (a0 : Int) (a1 : Int) : ∀ r, Fnum_lay K a0 a1 = some r → Con Tryd.prog 16 [.int .u64 a0, .int .u64 a1] (Enum_lay r) := by
  have IH35O := lnum_lay a0 a1 K
  refine Con.lift Tryd.func16 (by kernel_rfl) rfl (fun _ => rfl) ?_
  unfold Fnum_lay
  exact
    L.div mixed 8 true IntKind.u64 a0 _ (by kernel_rfl) (fun hd3 =>
    L.strIdx mixed 0 9 _ IntKind.u64 _ (by kernel_rfl) (by kernel_rfl) (fun h1a h1b =>
    L.div mixed 8 false IntKind.u64 a0 _ (by kernel_rfl) (fun hd2 =>
    L.jump mixed 4 [0, 1, 5] (by kernel_rfl) (IH35O (IntKind.u64.wrap (a0.tdiv a1)) 1 (([⟨byteAt (ByteArray.mk #[OfNat.ofNat 48, OfNat.ofNat 49, OfNat.ofNat 50, OfNat.ofNat 51, OfNat.ofNat 52, OfNat.ofNat 53, OfNat.ofNat 54, OfNat.ofNat 55, OfNat.ofNat 56, OfNat.ofNat 57, OfNat.ofNat 97, OfNat.ofNat 98, OfNat.ofNat 99, OfNat.ofNat 100, OfNat.ofNat 101, OfNat.ofNat 102]) (a0.tmod a1)⟩] : List U8)) (by first | rfl | exact Eq.symm (by assumption) | (simp; done) | (simp [*]; done))))))
/-! ### 7 -/
abbrev Enum_Dec : ByteArray → Value := fun r => .string r
def Fnum_Dec (K : Nat) (a0 : Int) : Option ByteArray :=
  bif (decide (a0 < 0)) then
    (Fnum_lay K (IntKind.u64.wrap (0 - IntKind.u64.wrap a0)) 10).bind fun u2 =>
    bif catOk (ByteArray.mk #[OfNat.ofNat 45]) u2 then
      some (ByteArray.mk #[OfNat.ofNat 45] ++ u2)
    else none
  else
    (Fnum_lay K (IntKind.u64.wrap a0) 10).bind fun u3 =>
    some u3
theorem cnum_Dec (K : Nat) (a0 : Int) : ∀ r, Fnum_Dec K a0 = some r → Con Tryd.prog 7 [.int .i64 a0] (Enum_Dec r) := by
  refine Con.lift Tryd.func7 (by kernel_rfl) rfl (fun _ => rfl) ?_
  unfold Fnum_Dec
  exact
    L.br mixed 10 _ (by kernel_rfl)
      (fun h1 =>
      L.callO mixed (fun u2 : ByteArray => .string u2) (cnum_lay K (IntKind.u64.wrap (0 - IntKind.u64.wrap a0)) 10) (by kernel_rfl) (fun u2 hu2 =>
      L.cat mixed 0 (ByteArray.mk #[OfNat.ofNat 45]) u2 (by kernel_rfl) <|
      L.ret _ mixed Tryd.func7 _ (by kernel_rfl) rfl))
      (fun h1 =>
      L.callO mixed (fun u3 : ByteArray => .string u3) (cnum_lay K (IntKind.u64.wrap a0) 10) (by kernel_rfl) (fun u3 hu3 =>
      L.ret _ mixed Tryd.func7 _ (by kernel_rfl) rfl))
/-! ### 13 -/
/-! ### 12 -/
/-! ### 14 -/
/-! ### 9 -/
abbrev ER03_Dec : ByteArray → Value := fun r => .string r
def FR03_Dec : Nat → Int → Option ByteArray
  | 0, _ => none
  | K + 1, a0 =>
    bif (decide (a0 < 0)) then
      bif (decide (a0 > -10)) then
        some (ByteArray.mk #[OfNat.ofNat 45] ++ strU [U8.mk (IntKind.u8.wrap (IntKind.i64.wrap (48 - a0)))])
      else
        (FR03_Dec K (IntKind.i64.wrap (a0.tdiv 10))).bind fun u3 =>
        bif catOk u3 (strU [U8.mk (IntKind.u8.wrap (IntKind.i64.wrap (48 - a0.tmod (OfNat.ofNat 10))))]) then
          some (u3 ++ strU [U8.mk (IntKind.u8.wrap (IntKind.i64.wrap (48 - a0.tmod (OfNat.ofNat 10))))])
        else none
    else
      bif (decide (a0 < 10)) then
        some (strU [U8.mk (IntKind.u8.wrap (IntKind.i64.wrap (48 + a0)))])
      else
        (FR03_Dec K (IntKind.i64.wrap (a0.tdiv 10))).bind fun u5 =>
        bif catOk u5 (strU [U8.mk (IntKind.u8.wrap (IntKind.i64.wrap (48 + a0.tmod (OfNat.ofNat 10))))]) then
          some (u5 ++ strU [U8.mk (IntKind.u8.wrap (IntKind.i64.wrap (48 + a0.tmod (OfNat.ofNat 10))))])
        else none
theorem cR03_Dec : ∀ (K : Nat) (a0 : Int), ∀ r, FR03_Dec K a0 = some r → Con Tryd.prog 9 [.int .i64 a0] (ER03_Dec r) := by
  intro K
  induction K with
  | zero =>
    intro a0 r hr
    rw [FR03_Dec] at hr
    cases hr
  | succ K ih =>
    intro a0
    refine Con.lift Tryd.func9 (by kernel_rfl) rfl (fun _ => rfl) ?_
    rw [FR03_Dec]
    exact
      L.br mixed 10 _ (by kernel_rfl)
        (fun h1 =>
        L.br mixed 6 _ (by kernel_rfl)
          (fun h2 =>
          L.bytesO mixed 6 0 1 (([⟨IntKind.u8.wrap (IntKind.i64.wrap (48 - a0))⟩] : List U8)) (by first | rfl | exact Eq.symm (by assumption) | (simp; done) | (simp [*]; done)) (by kernel_rfl) <|
          L.ret _ mixed Tryd.func9 _ (by kernel_rfl) rfl)
          (fun h2 =>
          L.callO mixed (fun u3 : ByteArray => .string u3) (ih (IntKind.i64.wrap (a0.tdiv 10))) (by kernel_rfl) (fun u3 hu3 =>
          L.bytesO mixed 5 0 1 (([⟨IntKind.u8.wrap (IntKind.i64.wrap (48 - a0.tmod 10))⟩] : List U8)) (by first | rfl | exact Eq.symm (by assumption) | (simp; done) | (simp [*]; done)) (by kernel_rfl) <|
          L.cat mixed 0 u3 (strU [U8.mk (IntKind.u8.wrap (IntKind.i64.wrap (48 - a0.tmod (OfNat.ofNat 10))))]) (by kernel_rfl) <|
          L.ret _ mixed Tryd.func9 _ (by kernel_rfl) rfl)))
        (fun h1 =>
        L.br mixed 7 _ (by kernel_rfl)
          (fun h4 =>
          L.bytesO mixed 6 0 1 (([⟨IntKind.u8.wrap (IntKind.i64.wrap (48 + a0))⟩] : List U8)) (by first | rfl | exact Eq.symm (by assumption) | (simp; done) | (simp [*]; done)) (by kernel_rfl) <|
          L.ret _ mixed Tryd.func9 _ (by kernel_rfl) rfl)
          (fun h4 =>
          L.callO mixed (fun u5 : ByteArray => .string u5) (ih (IntKind.i64.wrap (a0.tdiv 10))) (by kernel_rfl) (fun u5 hu5 =>
          L.bytesO mixed 5 0 1 (([⟨IntKind.u8.wrap (IntKind.i64.wrap (48 + a0.tmod 10))⟩] : List U8)) (by first | rfl | exact Eq.symm (by assumption) | (simp; done) | (simp [*]; done)) (by kernel_rfl) <|
          L.cat mixed 0 u5 (strU [U8.mk (IntKind.u8.wrap (IntKind.i64.wrap (48 + a0.tmod (OfNat.ofNat 10))))]) (by kernel_rfl) <|
          L.ret _ mixed Tryd.func9 _ (by kernel_rfl) rfl)))
/-! ### 8 -/
abbrev ER03_Undec : Int × Bool → Value := fun r => .tuple ⟨[.int .i64 r.1, .bool r.2]⟩
def FR03_Undec_6 (a0 : ByteArray) : Nat → Int → Int → Option (Int × Bool)
  | 0, _, _ => none
  | K + 1, p5, p6 =>
    bif (decide (p6 < (↑a0.size : Int))) then
      bif (p6 == 0) then
        bif (bif true then byteAt a0 0 == 45 else false) then
          FR03_Undec_6 a0 K p5 (IntKind.i64.wrap (p6 + 1))
        else
          bif inR p6 a0.size then
            bif (decide (byteAt a0 p6 < 48)) then
              some ((0, false))
            else
              bif inR p6 a0.size then
                bif (bif false then true else decide (byteAt a0 p6 > 57)) then
                  some ((0, false))
                else
                  bif inR p6 a0.size then
                    FR03_Undec_6 a0 K (IntKind.u64.wrap (IntKind.u64.wrap (IntKind.u64.wrap (p5 * 10) + IntKind.u64.wrap (byteAt a0 p6)) - 48)) (IntKind.i64.wrap (p6 + 1))
                  else none
              else none
          else none
      else
        bif inR p6 a0.size then
          bif (decide (byteAt a0 p6 < 48)) then
            some ((0, false))
          else
            bif inR p6 a0.size then
              bif (bif false then true else decide (byteAt a0 p6 > 57)) then
                some ((0, false))
              else
                bif inR p6 a0.size then
                  FR03_Undec_6 a0 K (IntKind.u64.wrap (IntKind.u64.wrap (IntKind.u64.wrap (p5 * 10) + IntKind.u64.wrap (byteAt a0 p6)) - 48)) (IntKind.i64.wrap (p6 + 1))
                else none
            else none
        else none
    else
      bif (byteAt a0 0 == 45) then
        (FR03_Dec K (IntKind.i64.wrap (0 - IntKind.i64.wrap p5))).bind fun u18 =>
        some ((IntKind.i64.wrap (0 - IntKind.i64.wrap p5), u18.toList == a0.toList))
      else
        (FR03_Dec K (IntKind.i64.wrap p5)).bind fun u19 =>
        some ((IntKind.i64.wrap p5, u19.toList == a0.toList))
def FR03_Undec (K : Nat) (a0 : ByteArray) : Option (Int × Bool) :=
  bif ((↑a0.size : Int) == 0) then
    some ((0, false))
  else
    bif (bif false then true else decide ((↑a0.size : Int) > 20)) then
      some ((0, false))
    else
      bif inR 0 a0.size then
        FR03_Undec_6 a0 K 0 0
      else none
def HR03_Undec_6 (fn : Func) (a0 : ByteArray) (p5 : Int) (p6 : Int) : VS := headS fn 6 [(0, (Value.string a0)), (4, (Value.bool (byteAt a0 0 == 45))), (5, .int .u64 p5), (6, .int .i64 p6)] []
theorem lR03_Undec (a0 : ByteArray) : ∀ K : Nat, (∀ (p5 : Int) (p6 : Int), Lifts Tryd.prog 8 0 ER03_Undec (HR03_Undec_6 Tryd.f8 a0 p5 p6) (FR03_Undec_6 a0 K p5 p6)) := by
  intro K
  induction K with
  | zero =>
    exact fun p5 p6 => (by rw [FR03_Undec_6]; exact L.no)
  | succ K ih =>
    have IH6 := ih
    refine fun p5 p6 => ?_
    · rw [FR03_Undec_6]
      exact
        L.br mixed 8 _ (by kernel_rfl)
          (fun h4 =>
          L.gu mixed 9 _ (by kernel_rfl)
            (fun h5 =>
            L.br mixed 3 _ (by kernel_rfl)
              (fun h6 =>
              L.jump mixed 7 [0, 4, 5, 6] (by kernel_rfl) (IH6 p5 (IntKind.i64.wrap (p6 + 1))))
              (fun h6 =>
              L.strIdx mixed 6 9 _ IntKind.i64 _ (by kernel_rfl) (by kernel_rfl) (fun h7a h7b =>
              L.gu mixed 2 _ (by kernel_rfl)
                (fun h8 =>
                L.ret _ mixed Tryd.func8 _ (by kernel_rfl) rfl)
                (fun h8 =>
                L.strIdx mixed 2 9 _ IntKind.i64 _ (by kernel_rfl) (by kernel_rfl) (fun h9a h9b =>
                L.br mixed 3 _ (by kernel_rfl)
                  (fun h10 =>
                  L.ret _ mixed Tryd.func8 _ (by kernel_rfl) rfl)
                  (fun h10 =>
                  L.strIdx mixed 6 9 _ IntKind.i64 _ (by kernel_rfl) (by kernel_rfl) (fun h11a h11b =>
                  L.jump mixed 12 [0, 4, 5, 6] (by kernel_rfl) (IH6 (IntKind.u64.wrap (IntKind.u64.wrap (IntKind.u64.wrap (p5 * 10) + IntKind.u64.wrap (byteAt a0 p6)) - 48)) (IntKind.i64.wrap (p6 + 1))))))))))
            (fun h5 =>
            L.strIdx mixed 10 9 _ IntKind.i64 _ (by kernel_rfl) (by kernel_rfl) (fun h12a h12b =>
            L.gu mixed 2 _ (by kernel_rfl)
              (fun h13 =>
              L.ret _ mixed Tryd.func8 _ (by kernel_rfl) rfl)
              (fun h13 =>
              L.strIdx mixed 2 9 _ IntKind.i64 _ (by kernel_rfl) (by kernel_rfl) (fun h14a h14b =>
              L.br mixed 3 _ (by kernel_rfl)
                (fun h15 =>
                L.ret _ mixed Tryd.func8 _ (by kernel_rfl) rfl)
                (fun h15 =>
                L.strIdx mixed 6 9 _ IntKind.i64 _ (by kernel_rfl) (by kernel_rfl) (fun h16a h16b =>
                L.jump mixed 12 [0, 4, 5, 6] (by kernel_rfl) (IH6 (IntKind.u64.wrap (IntKind.u64.wrap (IntKind.u64.wrap (p5 * 10) + IntKind.u64.wrap (byteAt a0 p6)) - 48)) (IntKind.i64.wrap (p6 + 1))))))))))
          (fun h4 =>
          L.br mixed 12 _ (by kernel_rfl)
            (fun h17 =>
            L.callO mixed (fun u18 : ByteArray => .string u18) (cR03_Dec K (IntKind.i64.wrap (0 - IntKind.i64.wrap p5))) (by kernel_rfl) (fun u18 hu18 =>
            L.ret _ mixed Tryd.func8 _ (by kernel_rfl) rfl))
            (fun h17 =>
            L.callO mixed (fun u19 : ByteArray => .string u19) (cR03_Dec K (IntKind.i64.wrap p5)) (by kernel_rfl) (fun u19 hu19 =>
            L.ret _ mixed Tryd.func8 _ (by kernel_rfl) rfl)))
theorem cR03_Undec (K : Nat) (a0 : ByteArray) : ∀ r, FR03_Undec K a0 = some r → Con Tryd.prog 8 [.string a0] (ER03_Undec r) := by
  have IH6 := lR03_Undec a0 K
  refine Con.lift Tryd.func8 (by kernel_rfl) rfl (fun _ => rfl) ?_
  unfold FR03_Undec
  exact
    L.gu mixed 12 _ (by kernel_rfl)
      (fun h1 =>
      L.ret _ mixed Tryd.func8 _ (by kernel_rfl) rfl)
      (fun h1 =>
      L.br mixed 5 _ (by kernel_rfl)
        (fun h2 =>
        L.ret _ mixed Tryd.func8 _ (by kernel_rfl) rfl)
        (fun h2 =>
        L.strIdx mixed 4 9 _ IntKind.i64 _ (by kernel_rfl) (by kernel_rfl) (fun h3a h3b =>
        L.jump mixed 14 [0, 4, 5, 6] (by kernel_rfl) (IH6 0 0))))
/-! ### 36 -/
/-! ### 23 -/
end

section
open Go Go.Dt Go.Proofs
set_option linter.unusedVariables false

def zeros (n : Nat) : ByteArray := ⟨(List.replicate n 48).toArray⟩
theorem rep0 : Con Tryd.prog 17 [.string ⟨#[48]⟩, .int .i64 0] (.string (zeros 0)) := Con.of Tryd.func17 (by kernel_rfl) rfl (FnEq.eval mixed (X := []) (fun f e h => by simp at h) 3000 Tryd.func17 (by kernel_rfl) rfl (by kernel_rfl))
theorem rep1 : Con Tryd.prog 17 [.string ⟨#[48]⟩, .int .i64 1] (.string (zeros 1)) := Con.of Tryd.func17 (by kernel_rfl) rfl (FnEq.eval mixed (X := []) (fun f e h => by simp at h) 3000 Tryd.func17 (by kernel_rfl) rfl (by kernel_rfl))
theorem rep2 : Con Tryd.prog 17 [.string ⟨#[48]⟩, .int .i64 2] (.string (zeros 2)) := Con.of Tryd.func17 (by kernel_rfl) rfl (FnEq.eval mixed (X := []) (fun f e h => by simp at h) 3000 Tryd.func17 (by kernel_rfl) rfl (by kernel_rfl))
theorem rep3 : Con Tryd.prog 17 [.string ⟨#[48]⟩, .int .i64 3] (.string (zeros 3)) := Con.of Tryd.func17 (by kernel_rfl) rfl (FnEq.eval mixed (X := []) (fun f e h => by simp at h) 3000 Tryd.func17 (by kernel_rfl) rfl (by kernel_rfl))
theorem rep4 : Con Tryd.prog 17 [.string ⟨#[48]⟩, .int .i64 4] (.string (zeros 4)) := Con.of Tryd.func17 (by kernel_rfl) rfl (FnEq.eval mixed (X := []) (fun f e h => by simp at h) 3000 Tryd.func17 (by kernel_rfl) rfl (by kernel_rfl))
theorem rep5 : Con Tryd.prog 17 [.string ⟨#[48]⟩, .int .i64 5] (.string (zeros 5)) := Con.of Tryd.func17 (by kernel_rfl) rfl (FnEq.eval mixed (X := []) (fun f e h => by simp at h) 3000 Tryd.func17 (by kernel_rfl) rfl (by kernel_rfl))
theorem rep6 : Con Tryd.prog 17 [.string ⟨#[48]⟩, .int .i64 6] (.string (zeros 6)) := Con.of Tryd.func17 (by kernel_rfl) rfl (FnEq.eval mixed (X := []) (fun f e h => by simp at h) 3000 Tryd.func17 (by kernel_rfl) rfl (by kernel_rfl))
theorem rep7 : Con Tryd.prog 17 [.string ⟨#[48]⟩, .int .i64 7] (.string (zeros 7)) := Con.of Tryd.func17 (by kernel_rfl) rfl (FnEq.eval mixed (X := []) (fun f e h => by simp at h) 3000 Tryd.func17 (by kernel_rfl) rfl (by kernel_rfl))
theorem rep8 : Con Tryd.prog 17 [.string ⟨#[48]⟩, .int .i64 8] (.string (zeros 8)) := Con.of Tryd.func17 (by kernel_rfl) rfl (FnEq.eval mixed (X := []) (fun f e h => by simp at h) 3000 Tryd.func17 (by kernel_rfl) rfl (by kernel_rfl))
theorem rep9 : Con Tryd.prog 17 [.string ⟨#[48]⟩, .int .i64 9] (.string (zeros 9)) := Con.of Tryd.func17 (by kernel_rfl) rfl (FnEq.eval mixed (X := []) (fun f e h => by simp at h) 3000 Tryd.func17 (by kernel_rfl) rfl (by kernel_rfl))
theorem rep10 : Con Tryd.prog 17 [.string ⟨#[48]⟩, .int .i64 10] (.string (zeros 10)) := Con.of Tryd.func17 (by kernel_rfl) rfl (FnEq.eval mixed (X := []) (fun f e h => by simp at h) 3000 Tryd.func17 (by kernel_rfl) rfl (by kernel_rfl))
theorem rep11 : Con Tryd.prog 17 [.string ⟨#[48]⟩, .int .i64 11] (.string (zeros 11)) := Con.of Tryd.func17 (by kernel_rfl) rfl (FnEq.eval mixed (X := []) (fun f e h => by simp at h) 3000 Tryd.func17 (by kernel_rfl) rfl (by kernel_rfl))
theorem rep12 : Con Tryd.prog 17 [.string ⟨#[48]⟩, .int .i64 12] (.string (zeros 12)) := Con.of Tryd.func17 (by kernel_rfl) rfl (FnEq.eval mixed (X := []) (fun f e h => by simp at h) 3000 Tryd.func17 (by kernel_rfl) rfl (by kernel_rfl))
theorem rep13 : Con Tryd.prog 17 [.string ⟨#[48]⟩, .int .i64 13] (.string (zeros 13)) := Con.of Tryd.func17 (by kernel_rfl) rfl (FnEq.eval mixed (X := []) (fun f e h => by simp at h) 3000 Tryd.func17 (by kernel_rfl) rfl (by kernel_rfl))
theorem rep14 : Con Tryd.prog 17 [.string ⟨#[48]⟩, .int .i64 14] (.string (zeros 14)) := Con.of Tryd.func17 (by kernel_rfl) rfl (FnEq.eval mixed (X := []) (fun f e h => by simp at h) 3000 Tryd.func17 (by kernel_rfl) rfl (by kernel_rfl))
theorem rep15 : Con Tryd.prog 17 [.string ⟨#[48]⟩, .int .i64 15] (.string (zeros 15)) := Con.of Tryd.func17 (by kernel_rfl) rfl (FnEq.eval mixed (X := []) (fun f e h => by simp at h) 3000 Tryd.func17 (by kernel_rfl) rfl (by kernel_rfl))
def Frep (K : Nat) (s : ByteArray) (n : Int) : Option ByteArray := bif decide (s = ⟨#[48]⟩) && (decide (0 ≤ n) && decide (n ≤ 15)) then some (zeros n.toNat) else none
theorem krep (K : Nat) (s : ByteArray) (n : Int) : ∀ r, Frep K s n = some r → Con Tryd.prog 17 [.string s, .int .i64 n] (.string r) := fun r hr => by
  unfold Frep at hr
  cases h : (decide (s = ⟨#[48]⟩) && (decide (0 ≤ n) && decide (n ≤ 15))) with
  | false => rw [h] at hr; cases hr
  | true =>
    rw [h] at hr; cases hr
    simp only [Bool.and_eq_true, decide_eq_true_eq] at h
    obtain ⟨rfl, h0, h1⟩ := h
    obtain ⟨k, rfl⟩ : ∃ k : Nat, n = k := ⟨n.toNat, by omega⟩
    rcases k with _ | _ | _ | _ | _ | _ | _ | _ | _ | _ | _ | _ | _ | _ | _ | _ | k
    · exact rep0
    · exact rep1
    · exact rep2
    · exact rep3
    · exact rep4
    · exact rep5
    · exact rep6
    · exact rep7
    · exact rep8
    · exact rep9
    · exact rep10
    · exact rep11
    · exact rep12
    · exact rep13
    · exact rep14
    · exact rep15
    · omega

end

section
open Go Go.Dt Go.Proofs
set_option linter.unusedVariables false

/-! ### 28 -/
/-! ### 18 -/
/-! ### 11 -/
/-! ### 10 -/
abbrev Enum_Hex : ByteArray × Int → Value := fun r => .tuple ⟨[.string r.1, .int .i64 r.2]⟩
def Fnum_Hex (K : Nat) (a0 : Int) (a1 : Int) : Option (ByteArray × Int) :=
  bif (decide (a1 < 1)) then
    some ((ByteArray.mk #[], 2))
  else
    bif (bif false then true else decide (a1 > 15)) then
      some ((ByteArray.mk #[], 2))
    else
      bif (decide (a0 < 0)) then
        some ((ByteArray.mk #[], 3))
      else
        bif decide (0 ≤ (IntKind.i64.wrap (4 * a1))) then
          bif (bif false then true else decide (a0.fdiv (2 ^ min (IntKind.i64.wrap (4 * a1)).toNat 64) > 0)) then
            some ((ByteArray.mk #[], 3))
          else
            (Fnum_lay K (IntKind.u64.wrap a0) 16).bind fun u5 =>
            (Frep K (ByteArray.mk #[48]) (IntKind.i64.wrap (a1 - (↑u5.size : Int)))).bind fun u6 =>
            bif catOk u6 u5 then
              some ((u6 ++ u5, 0))
            else none
        else none
theorem cnum_Hex (K : Nat) (a0 : Int) (a1 : Int) : ∀ r, Fnum_Hex K a0 a1 = some r → Con Tryd.prog 10 [.int .i64 a0, .int .i64 a1] (Enum_Hex r) := by
  refine Con.lift Tryd.func10 (by kernel_rfl) rfl (fun _ => rfl) ?_
  unfold Fnum_Hex
  exact
    L.gu mixed 12 _ (by kernel_rfl)
      (fun h1 =>
      L.ret _ mixed Tryd.func10 _ (by kernel_rfl) rfl)
      (fun h1 =>
      L.br mixed 5 _ (by kernel_rfl)
        (fun h2 =>
        L.ret _ mixed Tryd.func10 _ (by kernel_rfl) rfl)
        (fun h2 =>
        L.gu mixed 5 _ (by kernel_rfl)
          (fun h3 =>
          L.ret _ mixed Tryd.func10 _ (by kernel_rfl) rfl)
          (fun h3 =>
          L.shift mixed 3 true IntKind.i64 a0 _ (by kernel_rfl) (fun hd7 =>
          L.br mixed 4 _ (by kernel_rfl)
            (fun h4 =>
            L.ret _ mixed Tryd.func10 _ (by kernel_rfl) rfl)
            (fun h4 =>
            L.callO mixed (fun u5 : ByteArray => .string u5) (cnum_lay K (IntKind.u64.wrap a0) 16) (by kernel_rfl) (fun u5 hu5 =>
            L.callO mixed (fun u6 : ByteArray => .string u6) (krep K (ByteArray.mk #[48]) (IntKind.i64.wrap (a1 - (↑u5.size : Int)))) (by kernel_rfl) (fun u6 hu6 =>
            L.cat mixed 1 u6 u5 (by kernel_rfl) <|
            L.ret _ mixed Tryd.func10 _ (by kernel_rfl) rfl)))))))

end

end Go.Proofs.YtnkahfikkpmcbaaDoor.Lf
