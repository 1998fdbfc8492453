/- Several texts in one: EWi, EWj, EWk. -/
import Derived.Test.YtdmcdijlpnbghaaGreatDoorQI28
import Derived.Test.YtdmcdijlpnbghaaGreatDoorQI34
import Derived.Test.YtdmcdijlpnbghaaGreatDoorQI38
import Derived.Test.YtdmcdijlpnbghaaGreatDoorQI39
import Derived.Test.YtdmcdijlpnbghaaGreatDoorQI40
import Derived.Test.YtdmcdijlpnbghaaGreatDoorQI29
namespace Go.Proofs.YtdmcdijlpnbghaaGreatDoor.Lf

section
open Go Go.Dt Go.Proofs
set_option linter.unusedVariables false

/-! ### 5 -/
abbrev EL37_TraceLines : Bool → Value := fun r => .bool r
mutual
def FL37_TraceLines_8 (a0 : List TEvent) (a1 : ByteArray) : Nat → (List TEvent) → Int → (List ByteArray) → (List TEvent) → Bool → Int → Option Bool
  | 0, _, _, _, _, _, _ => none
  | K + 1, p5, p6, p7, p9, p10, p11 =>
    bif (decide (p11 < (↑p7.length : Int))) then
      bif (bif true then p10 else false) then
        bif inR p11 p7.length then
          (FR37_Event K (getR p7 p11.toNat)).bind fun u24 =>
          bif room (p9.length + ([u24.fst] : List TEvent).length) 32 then
            FL37_TraceLines_8 a0 a1 K p5 p6 p7 (p9 ++ [u24.fst]) u24.snd (IntKind.i64.wrap (p11 + 1))
          else none
        else none
      else
        bif !p10 then
          bif ((↑p5.length : Int) != 0) then
            some false
          else
            bif (bif false then true else p6 != 13) then
              some false
            else
              (Ftrace_Lines K a0).bind fun u28 =>
              FL37_TraceLines_26 a0 a1 K u28.fst u28.snd (ByteArray.mk #[]) 0
        else
          bif (p6 != 0) then
            some false
          else
            bif (bif false then true else (↑p5.length : Int) != (↑p9.length : Int)) then
              some false
            else
              FL37_TraceLines_19 a0 a1 K p5 p9 0
    else
      bif !p10 then
        bif ((↑p5.length : Int) != 0) then
          some false
        else
          bif (bif false then true else p6 != 13) then
            some false
          else
            (Ftrace_Lines K a0).bind fun u34 =>
            FL37_TraceLines_26 a0 a1 K u34.fst u34.snd (ByteArray.mk #[]) 0
      else
        bif (p6 != 0) then
          some false
        else
          bif (bif false then true else (↑p5.length : Int) != (↑p9.length : Int)) then
            some false
          else
            FL37_TraceLines_19 a0 a1 K p5 p9 0
def FL37_TraceLines_26 (a0 : List TEvent) (a1 : ByteArray) : Nat → ByteArray → Int → ByteArray → Int → Option Bool
  | 0, _, _, _, _ => none
  | K + 1, p15, p16, p17, p18 =>
    bif (decide (p18 < (↑a0.length : Int))) then
      bif inR p18 a0.length then
        (FR37_May K ((getR a0 p18.toNat))).bind fun u39 =>
        bif !u39 then
          bif (p15.toList == (ByteArray.mk #[]).toList) then
            bif (bif true then p16 == 9 else false) then
              some (bif true then Fawake else false)
            else
              some false
          else
            some false
        else
          bif inR p18 a0.length then
            (FR37_Line K ((getR a0 p18.toNat))).bind fun u44 =>
            bif catOk p17 u44 then
              bif catOk (p17 ++ u44) (ByteArray.mk #[OfNat.ofNat 10]) then
                FL37_TraceLines_26 a0 a1 K p15 p16 (p17 ++ u44 ++ ByteArray.mk #[OfNat.ofNat 10]) (IntKind.i64.wrap (p18 + 1))
              else none
            else none
          else none
      else none
    else
      bif (p15.toList == p17.toList) then
        bif (bif true then p16 == 0 else false) then
          some (bif true then Fawake else false)
        else
          some false
      else
        some false
def FL37_TraceLines_19 (a0 : List TEvent) (a1 : ByteArray) : Nat → (List TEvent) → (List TEvent) → Int → Option Bool
  | 0, _, _, _ => none
  | K + 1, p5, p9, p14 =>
    bif (decide (p14 < (↑p5.length : Int))) then
      bif inR p14 p5.length then
        bif inR p14 p9.length then
          bif (bif true then !((getR p5 p14.toNat).Who == (getR p9 p14.toNat).Who && ((getR p5 p14.toNat).Kind == (getR p9 p14.toNat).Kind && ((getR p5 p14.toNat).A == (getR p9 p14.toNat).A && ((getR p5 p14.toNat).B == (getR p9 p14.toNat).B && true)))) else (getR p5 p14.toNat).Who == (getR p9 p14.toNat).Who && ((getR p5 p14.toNat).Kind == (getR p9 p14.toNat).Kind && ((getR p5 p14.toNat).A == (getR p9 p14.toNat).A && ((getR p5 p14.toNat).B == (getR p9 p14.toNat).B && true)))) then
            some false
          else
            FL37_TraceLines_19 a0 a1 K p5 p9 (IntKind.i64.wrap (p14 + 1))
        else none
      else none
    else
      (Ftrace_Lines K a0).bind fun u54 =>
      FL37_TraceLines_26 a0 a1 K u54.fst u54.snd (ByteArray.mk #[]) 0
end
def FL37_TraceLines (K : Nat) (a0 : List TEvent) (a1 : ByteArray) : Option Bool :=
  bif (decide ((↑a0.length : Int) > 40)) then
    some Fawake
  else
    bif (bif false then true else decide ((↑a1.size : Int) > 1000)) then
      some Fawake
    else
      (Ftrace_Events K a1).bind fun u3 =>
      (FR37_Split K a1).bind fun u4 =>
      FL37_TraceLines_8 a0 a1 K u3.fst u3.snd u4.fst [] u4.snd 0
def HL37_TraceLines_89N (fn : Func) (a0 : List TEvent) (a1 : ByteArray) (p5 : List TEvent) (p6 : Int) (p7 : List ByteArray) (p10 : Bool) (p11 : Int) : VS := headS fn 8 [(0, (lst a0)), (5, lst p5), (6, .int .i64 p6), (7, lst p7), (9, .slice none 0 0), (10, .bool p10), (11, .int .i64 p11)] []
def HL37_TraceLines_89O (fn : Func) (a0 : List TEvent) (a1 : ByteArray) (p5 : List TEvent) (p6 : Int) (p7 : List ByteArray) (np9 : Nat) (p9 : List TEvent) (p10 : Bool) (p11 : Int) : VS := headS fn 8 [(0, (lst a0)), (5, lst p5), (6, .int .i64 p6), (7, lst p7), (9, .slice (some ⟨0, 0, none⟩) np9 np9), (10, .bool p10), (11, .int .i64 p11)] [ownB p9]
def HL37_TraceLines_26 (fn : Func) (a0 : List TEvent) (a1 : ByteArray) (p15 : ByteArray) (p16 : Int) (p17 : ByteArray) (p18 : Int) : VS := headS fn 26 [(0, (lst a0)), (15, .string p15), (16, .int .i64 p16), (17, .string p17), (18, .int .i64 p18)] []
def HL37_TraceLines_199N (fn : Func) (a0 : List TEvent) (a1 : ByteArray) (p5 : List TEvent) (p14 : Int) : VS := headS fn 19 [(0, (lst a0)), (5, lst p5), (9, .slice none 0 0), (14, .int .i64 p14)] []
def HL37_TraceLines_199O (fn : Func) (a0 : List TEvent) (a1 : ByteArray) (p5 : List TEvent) (np9 : Nat) (p9 : List TEvent) (p14 : Int) : VS := headS fn 19 [(0, (lst a0)), (5, lst p5), (9, .slice (some ⟨0, 0, none⟩) np9 np9), (14, .int .i64 p14)] [ownB p9]
theorem lL37_TraceLines (a0 : List TEvent) (a1 : ByteArray) : ∀ K : Nat, (∀ (p5 : List TEvent) (p6 : Int) (p7 : List ByteArray) (p10 : Bool) (p11 : Int), Lifts Tryz.prog 5 0 EL37_TraceLines (HL37_TraceLines_89N Tryz.f5 a0 a1 p5 p6 p7 p10 p11) (FL37_TraceLines_8 a0 a1 K p5 p6 p7 [] p10 p11)) ∧ (∀ (p5 : List TEvent) (p6 : Int) (p7 : List ByteArray) (np9 : Nat) (p9 : List TEvent) (_ : np9 = p9.length) (p10 : Bool) (p11 : Int), Lifts Tryz.prog 5 0 EL37_TraceLines (HL37_TraceLines_89O Tryz.f5 a0 a1 p5 p6 p7 np9 p9 p10 p11) (FL37_TraceLines_8 a0 a1 K p5 p6 p7 p9 p10 p11)) ∧ (∀ (p15 : ByteArray) (p16 : Int) (p17 : ByteArray) (p18 : Int), Lifts Tryz.prog 5 0 EL37_TraceLines (HL37_TraceLines_26 Tryz.f5 a0 a1 p15 p16 p17 p18) (FL37_TraceLines_26 a0 a1 K p15 p16 p17 p18)) ∧ (∀ (p5 : List TEvent) (p14 : Int), Lifts Tryz.prog 5 0 EL37_TraceLines (HL37_TraceLines_199N Tryz.f5 a0 a1 p5 p14) (FL37_TraceLines_19 a0 a1 K p5 [] p14)) ∧ (∀ (p5 : List TEvent) (np9 : Nat) (p9 : List TEvent) (_ : np9 = p9.length) (p14 : Int), Lifts Tryz.prog 5 0 EL37_TraceLines (HL37_TraceLines_199O Tryz.f5 a0 a1 p5 np9 p9 p14) (FL37_TraceLines_19 a0 a1 K p5 p9 p14)) := by
  intro K
  induction K with
  | zero =>
    exact ⟨fun p5 p6 p7 p10 p11 => (by rw [FL37_TraceLines_8]; exact L.no), fun p5 p6 p7 np9 p9 ep9 p10 p11 => (by rw [FL37_TraceLines_8]; exact L.no), fun p15 p16 p17 p18 => (by rw [FL37_TraceLines_26]; exact L.no), fun p5 p14 => (by rw [FL37_TraceLines_19]; exact L.no), fun p5 np9 p9 ep9 p14 => (by rw [FL37_TraceLines_19]; exact L.no)⟩
  | succ K ih =>
    obtain ⟨IH89N, IH89O, IH26, IH199N, IH199O⟩ := ih
    refine ⟨fun p5 p6 p7 p10 p11 => ?_, fun p5 p6 p7 np9 p9 ep9 p10 p11 => ?_, fun p15 p16 p17 p18 => ?_, fun p5 p14 => ?_, fun p5 np9 p9 ep9 p14 => ?_⟩
    · rw [FL37_TraceLines_8]
      exact
        L.gu mixed 8 _ (by kernel_rfl)
          (fun h5 =>
          L.br mixed 3 _ (by kernel_rfl)
            (fun h6 =>
            L.idx mixed 7 _ (rows p7) 1 IntKind.i64 _ (by kernel_rfl) (fun h7a h7b =>
            L.ld mixed 0 9 (rows p7) (p11.toNat * 1 + 0) (.string (getR p7 p11.toNat)) (by kernel_rfl) (load1_rows (i := p11.toNat) (d := 0) rfl (toNat_lt h7a h7b) (by kernel_rfl) (Nat.le_of_ble_eq_true (by kernel_rfl)) (by kernel_rfl)) <|
            L.callO mixed (fun u8 : TEvent × Bool => .tuple ⟨[.agg ⟨[.int .i64 u8.1.Who, .int .i64 u8.1.Kind, .int .i64 u8.1.A, .int .i64 u8.1.B]⟩, .bool u8.2]⟩) (cR37_Event K (getR p7 p11.toNat)) (by kernel_rfl) (fun u8 hu8 =>
            L.push0 mixed 16 32 1 0 [(Value.int IntKind.i64 u8.fst.Who), (Value.int IntKind.i64 u8.fst.Kind), (Value.int IntKind.i64 u8.fst.A), (Value.int IntKind.i64 u8.fst.B)] ([u8.fst] : List TEvent) (by kernel_rfl) (Nat.le_of_ble_eq_true (by kernel_rfl)) (Nat.le_of_ble_eq_true (by kernel_rfl)) (by kernel_rfl) <|
            L.jumpG mixed 9 [0, 5, 6, 7, 9, 10, 11] [.ownp 2] [rows [u8.fst]] (by kernel_rfl) (by kernel_rfl) (by kernel_rfl) ⟨rows_pure _, trivial⟩ (by kernel_rfl) (by kernel_rfl) (IH89O p5 p6 p7 [u8.fst].length [u8.fst] (by first | rfl | exact Eq.symm (by assumption) | (simp; done) | (simp [*]; done)) u8.snd (IntKind.i64.wrap (p11 + 1))))))
            (fun h6 =>
            L.br mixed 7 _ (by kernel_rfl)
              (fun h9 =>
              L.gu mixed 6 _ (by kernel_rfl)
                (fun h10 =>
                L.ret _ mixed Tryz.func5 _ (by kernel_rfl) rfl)
                (fun h10 =>
                L.br mixed 4 _ (by kernel_rfl)
                  (fun h11 =>
                  L.ret _ mixed Tryz.func5 _ (by kernel_rfl) rfl)
                  (fun h11 =>
                  L.callO mixed (fun u12 : ByteArray × Int => .tuple ⟨[.string u12.1, .int .i64 u12.2]⟩) (ctrace_Lines K a0) (by kernel_rfl) (fun u12 hu12 =>
                  L.jump mixed 17 [0, 15, 16, 17, 18] (by kernel_rfl) (IH26 u12.fst u12.snd (ByteArray.mk #[]) 0)))))
              (fun h9 =>
              L.gu mixed 6 _ (by kernel_rfl)
                (fun h13 =>
                L.ret _ mixed Tryz.func5 _ (by kernel_rfl) rfl)
                (fun h13 =>
                L.br mixed 7 _ (by kernel_rfl)
                  (fun h14 =>
                  L.ret _ mixed Tryz.func5 _ (by kernel_rfl) rfl)
                  (fun h14 =>
                  L.jump mixed 7 [0, 5, 9, 14] (by kernel_rfl) (IH199N p5 0))))))
          (fun h5 =>
          L.br mixed 11 _ (by kernel_rfl)
            (fun h15 =>
            L.gu mixed 6 _ (by kernel_rfl)
              (fun h16 =>
              L.ret _ mixed Tryz.func5 _ (by kernel_rfl) rfl)
              (fun h16 =>
              L.br mixed 4 _ (by kernel_rfl)
                (fun h17 =>
                L.ret _ mixed Tryz.func5 _ (by kernel_rfl) rfl)
                (fun h17 =>
                L.callO mixed (fun u18 : ByteArray × Int => .tuple ⟨[.string u18.1, .int .i64 u18.2]⟩) (ctrace_Lines K a0) (by kernel_rfl) (fun u18 hu18 =>
                L.jump mixed 17 [0, 15, 16, 17, 18] (by kernel_rfl) (IH26 u18.fst u18.snd (ByteArray.mk #[]) 0)))))
            (fun h15 =>
            L.gu mixed 6 _ (by kernel_rfl)
              (fun h19 =>
              L.ret _ mixed Tryz.func5 _ (by kernel_rfl) rfl)
              (fun h19 =>
              L.br mixed 7 _ (by kernel_rfl)
                (fun h20 =>
                L.ret _ mixed Tryz.func5 _ (by kernel_rfl) rfl)
                (fun h20 =>
                L.jump mixed 7 [0, 5, 9, 14] (by kernel_rfl) (IH199N p5 0)))))
    · subst ep9; rw [FL37_TraceLines_8]
      exact
        L.gu mixed 8 _ (by kernel_rfl)
          (fun h21 =>
          L.br mixed 3 _ (by kernel_rfl)
            (fun h22 =>
            L.idx mixed 7 _ (rows p7) 1 IntKind.i64 _ (by kernel_rfl) (fun h23a h23b =>
            L.ld mixed 0 9 (rows p7) (p11.toNat * 1 + 0) (.string (getR p7 p11.toNat)) (by kernel_rfl) (load1_rows (i := p11.toNat) (d := 0) rfl (toNat_lt h23a h23b) (by kernel_rfl) (Nat.le_of_ble_eq_true (by kernel_rfl)) (by kernel_rfl)) <|
            L.callO mixed (fun u24 : TEvent × Bool => .tuple ⟨[.agg ⟨[.int .i64 u24.1.Who, .int .i64 u24.1.Kind, .int .i64 u24.1.A, .int .i64 u24.1.B]⟩, .bool u24.2]⟩) (cR37_Event K (getR p7 p11.toNat)) (by kernel_rfl) (fun u24 hu24 =>
            L.app mixed 16 0 32 2 0 p9.length [(Value.int IntKind.i64 u24.fst.Who), (Value.int IntKind.i64 u24.fst.Kind), (Value.int IntKind.i64 u24.fst.A), (Value.int IntKind.i64 u24.fst.B)] p9 ([u24.fst] : List TEvent) (by first | rfl | exact Eq.symm (by assumption) | (simp; done) | (simp [*]; done)) (by kernel_rfl) (by kernel_rfl) (Nat.le_of_ble_eq_true (by kernel_rfl)) (Nat.le_of_ble_eq_true (by kernel_rfl)) (by kernel_rfl) <|
            L.jumpG mixed 9 [0, 5, 6, 7, 9, 10, 11] [.ownp 3] [rows (p9 ++ [u24.fst])] (by kernel_rfl) (by kernel_rfl) (by kernel_rfl) ⟨rows_pure _, trivial⟩ (by kernel_rfl) (by kernel_rfl) (IH89O p5 p6 p7 ((p9 ++ [u24.fst]).length) (p9 ++ [u24.fst]) (by first | rfl | exact Eq.symm (by assumption) | (simp; done) | (simp [*]; done)) u24.snd (IntKind.i64.wrap (p11 + 1))))))
            (fun h22 =>
            L.br mixed 7 _ (by kernel_rfl)
              (fun h25 =>
              L.gu mixed 6 _ (by kernel_rfl)
                (fun h26 =>
                L.ret _ mixed Tryz.func5 _ (by kernel_rfl) rfl)
                (fun h26 =>
                L.br mixed 4 _ (by kernel_rfl)
                  (fun h27 =>
                  L.ret _ mixed Tryz.func5 _ (by kernel_rfl) rfl)
                  (fun h27 =>
                  L.callO mixed (fun u28 : ByteArray × Int => .tuple ⟨[.string u28.1, .int .i64 u28.2]⟩) (ctrace_Lines K a0) (by kernel_rfl) (fun u28 hu28 =>
                  L.jumpG mixed 17 [0, 15, 16, 17, 18] [] [] (by kernel_rfl) (by kernel_rfl) (by kernel_rfl) trivial (by kernel_rfl) (by kernel_rfl) (IH26 u28.fst u28.snd (ByteArray.mk #[]) 0)))))
              (fun h25 =>
              L.gu mixed 6 _ (by kernel_rfl)
                (fun h29 =>
                L.ret _ mixed Tryz.func5 _ (by kernel_rfl) rfl)
                (fun h29 =>
                L.br mixed 7 _ (by kernel_rfl)
                  (fun h30 =>
                  L.ret _ mixed Tryz.func5 _ (by kernel_rfl) rfl)
                  (fun h30 =>
                  L.jump mixed 7 [0, 5, 9, 14] (by kernel_rfl) (IH199O p5 p9.length p9 (by first | rfl | exact Eq.symm (by assumption) | (simp; done) | (simp [*]; done)) 0))))))
          (fun h21 =>
          L.br mixed 11 _ (by kernel_rfl)
            (fun h31 =>
            L.gu mixed 6 _ (by kernel_rfl)
              (fun h32 =>
              L.ret _ mixed Tryz.func5 _ (by kernel_rfl) rfl)
              (fun h32 =>
              L.br mixed 4 _ (by kernel_rfl)
                (fun h33 =>
                L.ret _ mixed Tryz.func5 _ (by kernel_rfl) rfl)
                (fun h33 =>
                L.callO mixed (fun u34 : ByteArray × Int => .tuple ⟨[.string u34.1, .int .i64 u34.2]⟩) (ctrace_Lines K a0) (by kernel_rfl) (fun u34 hu34 =>
                L.jumpG mixed 17 [0, 15, 16, 17, 18] [] [] (by kernel_rfl) (by kernel_rfl) (by kernel_rfl) trivial (by kernel_rfl) (by kernel_rfl) (IH26 u34.fst u34.snd (ByteArray.mk #[]) 0)))))
            (fun h31 =>
            L.gu mixed 6 _ (by kernel_rfl)
              (fun h35 =>
              L.ret _ mixed Tryz.func5 _ (by kernel_rfl) rfl)
              (fun h35 =>
              L.br mixed 7 _ (by kernel_rfl)
                (fun h36 =>
                L.ret _ mixed Tryz.func5 _ (by kernel_rfl) rfl)
                (fun h36 =>
                L.jump mixed 7 [0, 5, 9, 14] (by kernel_rfl) (IH199O p5 p9.length p9 (by first | rfl | exact Eq.symm (by assumption) | (simp; done) | (simp [*]; done)) 0)))))
    · rw [FL37_TraceLines_26]
      exact
        L.br mixed 8 _ (by kernel_rfl)
          (fun h37 =>
          L.idx mixed 8 _ (rows a0) 4 IntKind.i64 _ (by kernel_rfl) (fun h38a h38b =>
          L.ld mixed 0 23 (rows a0) (p18.toNat * 4 + 0) (.agg ⟨[.int .i64 (getR a0 p18.toNat).Who, .int .i64 (getR a0 p18.toNat).Kind, .int .i64 (getR a0 p18.toNat).A, .int .i64 (getR a0 p18.toNat).B]⟩) (by kernel_rfl) (loadN_rows (i := p18.toNat) (d := 0) (k := 4) rfl (toNat_lt h38a h38b) (by kernel_rfl) (by kernel_rfl) (Nat.le_of_ble_eq_true (by kernel_rfl)) (by kernel_rfl)) <|
          L.callO mixed (fun u39 : Bool => .bool u39) (cR37_May K ((getR a0 p18.toNat))) (by kernel_rfl) (fun u39 hu39 =>
          L.br mixed 2 _ (by kernel_rfl)
            (fun h40 =>
            L.gu mixed 5 _ (by kernel_rfl)
              (fun h41 =>
              L.gu mixed 4 _ (by kernel_rfl)
                (fun h42 =>
                L.call mixed (awake_con) (by kernel_rfl) <|
                L.ret _ mixed Tryz.func5 _ (by kernel_rfl) rfl)
                (fun h42 =>
                L.ret _ mixed Tryz.func5 _ (by kernel_rfl) rfl))
              (fun h41 =>
              L.ret _ mixed Tryz.func5 _ (by kernel_rfl) rfl))
            (fun h40 =>
            L.idx mixed 5 _ (rows a0) 4 IntKind.i64 _ (by kernel_rfl) (fun h43a h43b =>
            L.ld mixed 0 23 (rows a0) (p18.toNat * 4 + 0) (.agg ⟨[.int .i64 (getR a0 p18.toNat).Who, .int .i64 (getR a0 p18.toNat).Kind, .int .i64 (getR a0 p18.toNat).A, .int .i64 (getR a0 p18.toNat).B]⟩) (by kernel_rfl) (loadN_rows (i := p18.toNat) (d := 0) (k := 4) rfl (toNat_lt h43a h43b) (by kernel_rfl) (by kernel_rfl) (Nat.le_of_ble_eq_true (by kernel_rfl)) (by kernel_rfl)) <|
            L.callO mixed (fun u44 : ByteArray => .string u44) (cR37_Line K ((getR a0 p18.toNat))) (by kernel_rfl) (fun u44 hu44 =>
            L.cat mixed 0 p17 u44 (by kernel_rfl) <|
            L.cat mixed 0 (p17 ++ u44) (ByteArray.mk #[OfNat.ofNat 10]) (by kernel_rfl) <|
            L.jump mixed 9 [0, 15, 16, 17, 18] (by kernel_rfl) (IH26 p15 p16 (p17 ++ u44 ++ ByteArray.mk #[OfNat.ofNat 10]) (IntKind.i64.wrap (p18 + 1)))))))))
          (fun h37 =>
          L.gu mixed 7 _ (by kernel_rfl)
            (fun h45 =>
            L.gu mixed 4 _ (by kernel_rfl)
              (fun h46 =>
              L.call mixed (awake_con) (by kernel_rfl) <|
              L.ret _ mixed Tryz.func5 _ (by kernel_rfl) rfl)
              (fun h46 =>
              L.ret _ mixed Tryz.func5 _ (by kernel_rfl) rfl))
            (fun h45 =>
            L.ret _ mixed Tryz.func5 _ (by kernel_rfl) rfl))
    · rw [FL37_TraceLines_19]
      exact
        L.br mixed 8 _ (by kernel_rfl)
          (fun h47 =>
          L.idx mixed 7 _ (rows p5) 4 IntKind.i64 _ (by kernel_rfl) (fun h48a h48b =>
          L.ld mixed 0 23 (rows p5) (p14.toNat * 4 + 0) (.agg ⟨[.int .i64 (getR p5 p14.toNat).Who, .int .i64 (getR p5 p14.toNat).Kind, .int .i64 (getR p5 p14.toNat).A, .int .i64 (getR p5 p14.toNat).B]⟩) (by kernel_rfl) (loadN_rows (i := p14.toNat) (d := 0) (k := 4) rfl (toNat_lt h48a h48b) (by kernel_rfl) (by kernel_rfl) (Nat.le_of_ble_eq_true (by kernel_rfl)) (by kernel_rfl)) <|
          L.idxN0 p14))
          (fun h47 =>
          L.callO mixed (fun u49 : ByteArray × Int => .tuple ⟨[.string u49.1, .int .i64 u49.2]⟩) (ctrace_Lines K a0) (by kernel_rfl) (fun u49 hu49 =>
          L.jump mixed 17 [0, 15, 16, 17, 18] (by kernel_rfl) (IH26 u49.fst u49.snd (ByteArray.mk #[]) 0)))
    · subst ep9; rw [FL37_TraceLines_19]
      exact
        L.br mixed 8 _ (by kernel_rfl)
          (fun h50 =>
          L.idx mixed 7 _ (rows p5) 4 IntKind.i64 _ (by kernel_rfl) (fun h51a h51b =>
          L.ld mixed 0 23 (rows p5) (p14.toNat * 4 + 0) (.agg ⟨[.int .i64 (getR p5 p14.toNat).Who, .int .i64 (getR p5 p14.toNat).Kind, .int .i64 (getR p5 p14.toNat).A, .int .i64 (getR p5 p14.toNat).B]⟩) (by kernel_rfl) (loadN_rows (i := p14.toNat) (d := 0) (k := 4) rfl (toNat_lt h51a h51b) (by kernel_rfl) (by kernel_rfl) (Nat.le_of_ble_eq_true (by kernel_rfl)) (by kernel_rfl)) <|
          L.oidx mixed 2 0 0 _ 4 IntKind.i64 _ (by kernel_rfl) (fun h52a h52b =>
          L.oldN mixed 0 4 0 (0 + p14.toNat * 4) (rows p9) [.int .i64 (getR p9 p14.toNat).Who, .int .i64 (getR p9 p14.toNat).Kind, .int .i64 (getR p9 p14.toNat).A, .int .i64 (getR p9 p14.toNat).B] (by kernel_rfl) (rows_fitN (i := p14.toNat) (d := 0) (by show 0 + p14.toNat * 4 = p14.toNat * 4 + 0; omega) (by have := (toNat_lt h52a h52b); simpa using this) (Nat.le_of_ble_eq_true (by kernel_rfl))) (rows_subN (i := p14.toNat) (d := 0) (by show 0 + p14.toNat * 4 = p14.toNat * 4 + 0; omega) (by have := (toNat_lt h52a h52b); simpa using this) (Nat.le_of_ble_eq_true (by kernel_rfl)) (by kernel_rfl)) <|
          L.br mixed 2 _ (by kernel_rfl)
            (fun h53 =>
            L.ret _ mixed Tryz.func5 _ (by kernel_rfl) rfl)
            (fun h53 =>
            L.jump mixed 8 [0, 5, 9, 14] (by kernel_rfl) (IH199O p5 p9.length p9 (by first | rfl | exact Eq.symm (by assumption) | (simp; done) | (simp [*]; done)) (IntKind.i64.wrap (p14 + 1)))))))
          (fun h50 =>
          L.callO mixed (fun u54 : ByteArray × Int => .tuple ⟨[.string u54.1, .int .i64 u54.2]⟩) (ctrace_Lines K a0) (by kernel_rfl) (fun u54 hu54 =>
          L.jumpG mixed 17 [0, 15, 16, 17, 18] [] [] (by kernel_rfl) (by kernel_rfl) (by kernel_rfl) trivial (by kernel_rfl) (by kernel_rfl) (IH26 u54.fst u54.snd (ByteArray.mk #[]) 0)))
theorem cL37_TraceLines (K : Nat) (a0 : List TEvent) (a1 : ByteArray) : ∀ r, FL37_TraceLines K a0 a1 = some r → Con Tryz.prog 5 [lst a0, .string a1] (EL37_TraceLines r) := by
  obtain ⟨IH89N, IH89O, IH26, IH199N, IH199O⟩ := lL37_TraceLines a0 a1 K
  refine Con.lift Tryz.func5 (by kernel_rfl) rfl (fun _ => rfl) ?_
  unfold FL37_TraceLines
  exact
    L.gu mixed 11 _ (by kernel_rfl)
      (fun h1 =>
      L.call mixed (awake_con) (by kernel_rfl) <|
      L.ret _ mixed Tryz.func5 _ (by kernel_rfl) rfl)
      (fun h1 =>
      L.br mixed 5 _ (by kernel_rfl)
        (fun h2 =>
        L.call mixed (awake_con) (by kernel_rfl) <|
        L.ret _ mixed Tryz.func5 _ (by kernel_rfl) rfl)
        (fun h2 =>
        L.callO mixed (fun u3 : List TEvent × Int => .tuple ⟨[lst u3.1, .int .i64 u3.2]⟩) (ctrace_Events K a1) (by kernel_rfl) (fun u3 hu3 =>
        L.callO mixed (fun u4 : List ByteArray × Bool => .tuple ⟨[lst u4.1, .bool u4.2]⟩) (cR37_Split K a1) (by kernel_rfl) (fun u4 hu4 =>
        L.jump mixed 22 [0, 5, 6, 7, 9, 10, 11] (by kernel_rfl) (IH89N u3.fst u3.snd u4.fst u4.snd 0)))))

end

section
open Go Go.Dt Go.Proofs
set_option linter.unusedVariables false
set_option linter.unusedSimpArgs false

/-- The lines that have an end, and what is behind. -/
def lns : List UInt8 → List UInt8 → List (List UInt8) × List UInt8
  | [], acc => ([], acc)
  | c :: r, acc => if c = 10 then (acc :: (lns r []).1, (lns r []).2) else lns r (acc ++ [c])
theorem lns_no : ∀ {a : List UInt8} (acc : List UInt8), (10 : UInt8) ∉ a → lns a acc = ([], acc ++ a)
  | [], acc, _ => by simp [lns]
  | c :: a, acc, h => by
    have h1 : ¬ c = 10 := fun e => h (by simp [e])
    rw [lns, if_neg h1, lns_no (acc ++ [c]) (fun e => h (by simp [e]))]
    simp
theorem lns_nl : ∀ {a : List UInt8} (b acc : List UInt8), (10 : UInt8) ∉ a → lns (a ++ 10 :: b) acc = ((acc ++ a) :: (lns b []).1, (lns b []).2)
  | [], b, acc, _ => by simp [lns]
  | c :: a, b, acc, h => by
    have h1 : ¬ c = 10 := fun e => h (by simp [e])
    rw [List.cons_append, lns, if_neg h1, lns_nl b (acc ++ [c]) (fun e => h (by simp [e]))]
    simp
theorem lns_len : ∀ (l acc : List UInt8), (lns l acc).1.length ≤ l.length ∧ (∀ x ∈ (lns l acc).1, x.length ≤ acc.length + l.length) ∧ (lns l acc).2.length ≤ acc.length + l.length ∧ ((10 : UInt8) ∉ acc → (10 : UInt8) ∉ (lns l acc).2)
  | [], acc => by simp [lns]
  | c :: r, acc => by
    rw [lns]
    by_cases h : c = 10
    · rw [if_pos h]
      obtain ⟨h1, h2, h3, h4⟩ := lns_len r []
      simp only [List.length_nil] at h2 h3
      refine ⟨by simp; omega, fun x hx => ?_, by simp only [List.length_cons]; omega, fun _ => h4 (by simp)⟩
      rcases List.mem_cons.1 hx with rfl | hx
      · omega
      · have := h2 x hx; simp only [List.length_cons]; omega
    · rw [if_neg h]
      obtain ⟨h1, h2, h3, h4⟩ := lns_len r (acc ++ [c])
      simp only [List.length_append, List.length_cons, List.length_nil] at h2 h3
      refine ⟨by simp; omega, fun x hx => ?_, by simp only [List.length_cons]; omega, fun ha => h4 (by simp [ha]; exact fun e => h e.symm)⟩
      have := h2 x hx; simp only [List.length_cons]; omega

/-! ### The reference -/
theorem split_loop {s : ByteArray} (hs : s.size ≤ 100000) : ∀ (m i K : Nat) (out : List ByteArray) (w : ByteArray), i + m = s.size → m < K → out.length ≤ i → w.size ≤ i →
    FR37_Split_4 s K out w (i : Int) = some (out ++ ((lns (s.data.toList.drop i) w.data.toList).1.map toBA), (lns (s.data.toList.drop i) w.data.toList).2.isEmpty)
  | 0, i, K, out, w, him, hK, ho, hw => by
    obtain ⟨K, rfl⟩ : ∃ k, K = k + 1 := ⟨K - 1, by omega⟩
    rw [FR37_Split_4, decide_eq_false (show ¬ (i : Int) < (s.size : Int) by omega), toList_nil']
    rw [List.drop_eq_nil_of_le (by rw [← Lib.size_eq]; omega), lns]
    simp only [cond_false, List.map_nil, List.append_nil]
    congr 2
    rw [Lib.size_eq]
    cases w.data.toList <;> rfl
  | m + 1, i, K, out, w, him, hK, ho, hw => by
    obtain ⟨K, rfl⟩ : ∃ k, K = k + 1 := ⟨K - 1, by omega⟩
    obtain ⟨b, hd, hb, hx, _⟩ := drop_at (show i < s.size by omega)
    rw [FR37_Split_4, decide_eq_true (show (i : Int) < (s.size : Int) by omega), inR_of (show i < s.size by omega), hb, wrap_succ (by omega), hd]
    simp only [cond_true, cond_false, Option.getD_some]
    rw [cutOk_of (show i ≤ i + 1 by omega) (by omega), show ((i : Int)).toNat = i from rfl, show (((i + 1 : Nat) : Int)).toNat = i + 1 from rfl]
    by_cases h32 : b = 10
    · subst h32
      have : (((10 : UInt8).toNat : Int) == 10) = true := by decide
      rw [this, lns, if_pos rfl]
      simp only [cond_true]
      rw [room_of (by simp; omega) (by omega)]
      simp only [cond_true]
      rw [split_loop hs m (i + 1) K (out ++ [w]) ⟨#[]⟩ (by omega) (by omega) (by simp; omega) (Nat.zero_le _)]
      simp [ba_toBA]
    · have h1 : ((b.toNat : Int) == 10) = false := by
        rw [beq_eq_false_iff_ne]
        intro e
        exact h32 (UInt8.toNat_inj.1 (show b.toNat = (10 : UInt8).toNat by show b.toNat = 10; omega))
      have h2 : (s.extract i (i + 1)).size = 1 := by rw [Lib.size_eq, hx]; rfl
      rw [h1, lns, if_neg h32]
      simp only [cond_true, cond_false]
      rw [catOk_of (by omega) (by omega)]
      simp only [cond_true]
      rw [split_loop hs m (i + 1) K out (w ++ s.extract i (i + 1)) (by omega) (by omega) (by omega) (by rw [ByteArray.size_append]; omega)]
      have : (w ++ s.extract i (i + 1)).data.toList = w.data.toList ++ [b] := by rw [← hx]; simp
      rw [this]
/-- The lines of a text. -/
def lnB (s : ByteArray) : List ByteArray := (lns s.data.toList []).1.map toBA
/-- What is behind the last end. -/
def lnR (s : ByteArray) : ByteArray := toBA (lns s.data.toList []).2
theorem split_eq {s : ByteArray} (hs : s.size ≤ 100000) {K : Nat} (hK : s.size < K) : FR37_Split K s = some (lnB s, (lnR s).size == 0) := by
  have := split_loop hs s.size 0 K [] ⟨#[]⟩ (by omega) hK (Nat.zero_le _) (Nat.zero_le _)
  unfold FR37_Split
  rw [show ((0 : Nat) : Int) = 0 from rfl] at this
  rw [this]
  simp only [List.drop_zero, List.nil_append, lnB, lnR, toBA_size]
  congr 2
  cases (lns s.data.toList []).2 <;> rfl

/-! ### The code's lines -/
theorem at_list {s : ByteArray} {i : Nat} (h : i < s.size) : s.data.toList[i]? = some s[i]! := by
  have hl : i < s.data.toList.length := by rw [← Lib.size_eq]; exact h
  rw [List.getElem?_eq_getElem hl, getElem!_pos s i h]
  rfl
theorem nlAt_spec (s : ByteArray) : (nlAt s = -1 ∧ (10 : UInt8) ∉ s.data.toList) ∨ ∃ i : Nat, nlAt s = i ∧ i < s.size ∧ s.data.toList = s.data.toList.take i ++ 10 :: s.data.toList.drop (i + 1) ∧ (10 : UInt8) ∉ s.data.toList.take i := by
  unfold nlAt
  cases hf : (List.range s.size).find? (fun i => s[i]! == 10) with
  | none =>
    refine .inl ⟨rfl, fun hm => ?_⟩
    obtain ⟨i, hi⟩ := List.mem_iff_getElem?.1 hm
    have hl : i < s.size := by have := (List.getElem?_eq_some_iff.1 hi).1; rw [Lib.size_eq]; exact this
    have h := List.find?_eq_none.1 hf i (List.mem_range.2 hl)
    rw [at_list hl] at hi
    rw [Option.some.inj hi] at h
    simp at h
  | some i =>
    refine .inr ⟨i, rfl, ?_⟩
    obtain ⟨h1, h2, h3⟩ := List.find?_range_eq_some.1 hf
    have hl : i < s.size := List.mem_range.1 h2
    have hl2 : i < s.data.toList.length := by rw [← Lib.size_eq]; exact hl
    refine ⟨hl, ?_, fun hm => ?_⟩
    · have e := at_list hl
      rw [eq_of_beq h1] at e
      have e2 : s.data.toList[i] = 10 := (List.getElem?_eq_some_iff.1 e).2
      have := List.drop_eq_getElem_cons hl2
      rw [e2] at this
      rw [← this, List.take_append_drop]
    · obtain ⟨j, hj⟩ := List.mem_iff_getElem?.1 hm
      have hji : j < i := by have := (List.getElem?_eq_some_iff.1 hj).1; rw [List.length_take] at this; omega
      rw [List.getElem?_take_of_lt hji, at_list (by omega)] at hj
      have := h3 j hji
      rw [Option.some.inj hj] at this
      simp at this
theorem linesB_eq : ∀ (n : Nat) (s : ByteArray), s.size ≤ n → linesB n s = ((lns s.data.toList []).1.map fun l => toBA (l ++ [10])) ++ (if (lns s.data.toList []).2 = [] then [] else [toBA (lns s.data.toList []).2])
  | 0, s, h => by
    have : s.data.toList = [] := List.length_eq_zero_iff.1 (by rw [← Lib.size_eq]; omega)
    rw [this]
    simp [lns, linesB]
  | n + 1, s, h => by
    rw [linesB]
    by_cases hz : s.size = 0
    · have : s.data.toList = [] := List.length_eq_zero_iff.1 (by rw [← Lib.size_eq]; omega)
      rw [if_pos hz, this]
      simp [lns]
    · rw [if_neg hz]
      rcases nlAt_spec s with ⟨h1, h2⟩ | ⟨i, h1, hi, h2, h3⟩
      · rw [h1, if_neg (by omega), lns_no [] h2]
        have : s.data.toList ≠ [] := fun e => hz (by rw [Lib.size_eq, e]; rfl)
        simp [this, ba_toBA]
      · rw [h1, if_pos (by omega), Int.toNat_natCast]
        have e1 : (s.extract 0 (i + 1)).data.toList = s.data.toList.take i ++ [10] := by
          rw [Lib.extract_data, List.drop_zero, Nat.sub_zero]
          have hl : (s.data.toList.take i).length = i := by rw [List.length_take, ← Lib.size_eq]; omega
          conv => lhs; rw [h2]
          rw [List.take_append, hl, List.take_of_length_le (by omega), Nat.add_sub_cancel_left]
          rfl
        have e2 : (s.extract (i + 1) s.size).data.toList = s.data.toList.drop (i + 1) := by
          rw [Lib.extract_data, List.take_of_length_le]
          rw [List.length_drop, ← Lib.size_eq]; omega
        rw [linesB_eq n (s.extract (i + 1) s.size) (by rw [Lib.size_eq, e2, List.length_drop, ← Lib.size_eq]; omega), e2]
        have e3 : lns s.data.toList [] = (s.data.toList.take i :: (lns (s.data.toList.drop (i + 1)) []).1, (lns (s.data.toList.drop (i + 1)) []).2) := by
          conv => lhs; rw [h2]
          rw [lns_nl _ _ h3]
          simp
        rw [e3, ← ba_toBA (s.extract 0 (i + 1)), e1]
        rfl
def nlB : ByteArray := ByteArray.mk #[10]
theorem linesOf_eq (s : ByteArray) : linesOf s = (lnB s).map (fun l => l ++ nlB) ++ (if (lnR s).size = 0 then [] else [lnR s]) := by
  unfold linesOf
  rw [linesB_eq s.size s (Nat.le_refl _)]
  unfold lnB lnR
  rw [List.map_map, toBA_size]
  congr 1
  by_cases h : (lns s.data.toList []).2 = []
  · simp [h]
  · have : ¬ (lns s.data.toList []).2.length = 0 := fun e => h (List.length_eq_zero_iff.1 e)
    rw [if_neg h, if_neg this]
theorem ln_facts (s : ByteArray) : (lnB s).length ≤ s.size ∧ (∀ l ∈ lnB s, l.size ≤ s.size) ∧ (lnR s).size ≤ s.size ∧ (10 : UInt8) ∉ (lnR s).data.toList := by
  obtain ⟨h1, h2, h3, h4⟩ := lns_len s.data.toList []
  simp only [List.length_nil, Nat.zero_add, ← Lib.size_eq] at h1 h2 h3
  refine ⟨by unfold lnB; rw [List.length_map]; exact h1, fun l hl => ?_, by unfold lnR; rw [toBA_size]; exact h3, h4 (by simp)⟩
  obtain ⟨x, hx, rfl⟩ := List.mem_map.1 hl
  rw [toBA_size]
  exact h2 x hx

end

section
open Go Go.Dt Go.Proofs
set_option linter.unusedVariables false
set_option linter.unusedSimpArgs false

theorem app_data (a b : ByteArray) : (a ++ b).data.toList = a.data.toList ++ b.data.toList := by simp
theorem has_eq {b : ByteArray} (hb : b.size ≤ 100000) (c : UInt8) (K : Nat) : Finternal_stringslite_HasSuffix K (b ++ ByteArray.mk #[c]) (ByteArray.mk #[10]) = some (c == 10) := by
  have hs : (b ++ ByteArray.mk #[c]).size = b.size + 1 := by rw [ByteArray.size_append]; rfl
  have h1 : (ByteArray.mk #[10]).size = 1 := rfl
  unfold Finternal_stringslite_HasSuffix
  rw [hs, h1, decide_eq_true (show ((b.size + 1 : Nat) : Int) ≥ ((1 : Nat) : Int) by omega)]
  have hw : IntKind.i64.wrap (((b.size + 1 : Nat) : Int) - ((1 : Nat) : Int)) = (b.size : Int) := by rw [wrap_i64_of (by omega) (by omega)]; omega
  rw [hw]
  simp only [cond_true, Option.getD_some, Option.getD_none]
  rw [cutOk_of (show b.size ≤ b.size + 1 by omega) (Nat.le_refl _), Int.toNat_natCast, Int.toNat_natCast]
  have he : ((b ++ ByteArray.mk #[c]).extract b.size (b.size + 1)).data.toList = [c] := by
    rw [Lib.extract_data, app_data, List.drop_left' (by rw [Lib.size_eq]), show b.size + 1 - b.size = 1 by omega]
    rfl
  rw [ByteArray.toList_eq, ByteArray.toList_eq, he]
  show some ([c] == [10]) = _
  simp
theorem cut_yes {b : ByteArray} (hb : b.size ≤ 100000) (K : Nat) : Fstrings_CutSuffix K (b ++ nlB) (ByteArray.mk #[10]) = some (b, true) := by
  have hs : (b ++ nlB).size = b.size + 1 := by rw [ByteArray.size_append]; rfl
  have h1 : (ByteArray.mk #[10]).size = 1 := rfl
  have hw : IntKind.i64.wrap (((b.size + 1 : Nat) : Int) - ((1 : Nat) : Int)) = (b.size : Int) := by rw [wrap_i64_of (by omega) (by omega)]; omega
  have he : (b ++ nlB).extract 0 b.size = b := by
    rw [← ba_toBA ((b ++ nlB).extract 0 b.size), Lib.extract_data, app_data, List.drop_zero, Nat.sub_zero, List.take_left' (by rw [Lib.size_eq]), ba_toBA]
  unfold Fstrings_CutSuffix Finternal_stringslite_CutSuffix
  rw [show b ++ nlB = b ++ ByteArray.mk #[10] from rfl, has_eq hb 10 K, ← show b ++ nlB = b ++ ByteArray.mk #[10] from rfl, hs, h1, hw]
  simp only [Option.bind_some, beq_self_eq_true, Bool.not_true, cond_false, Option.getD_some, Option.getD_none]
  rw [show cutOk (b.size + 1) 0 (b.size : Int) = true from cutOk_of (l := 0) (Nat.zero_le _) (by omega), Int.toNat_natCast, he]
  rfl
theorem cut_no {b : ByteArray} (hb : b.size ≤ 100000) (h0 : 0 < b.size) (hn : (10 : UInt8) ∉ b.data.toList) (K : Nat) : Fstrings_CutSuffix K b (ByteArray.mk #[10]) = some (b, false) := by
  have hne : b.data.toList ≠ [] := fun e => by rw [Lib.size_eq, e] at h0; cases h0
  have hd := List.dropLast_concat_getLast hne
  have hb' : b = toBA b.data.toList.dropLast ++ ByteArray.mk #[b.data.toList.getLast hne] := by
    conv => lhs; rw [← ba_toBA b, ← hd]
    rw [← ba_toBA (toBA b.data.toList.dropLast ++ ByteArray.mk #[b.data.toList.getLast hne]), app_data]
    rfl
  have hc : (b.data.toList.getLast hne == 10) = false := by
    rw [beq_eq_false_iff_ne]
    intro e
    exact hn (e ▸ List.getLast_mem hne)
  have hh : Finternal_stringslite_HasSuffix K b (ByteArray.mk #[10]) = some false := by
    conv => lhs; rw [hb']
    rw [has_eq (by rw [toBA_size, List.length_dropLast, ← Lib.size_eq]; omega), hc]
  unfold Fstrings_CutSuffix Finternal_stringslite_CutSuffix
  rw [hh]
  rfl

/-- The event of a line. -/
def evOf (b : ByteArray) : Option TEvent := (Ftrace_Event 300000 b).bind fun r => if r.2 = 0 then some r.1 else none
theorem ev_spec {b : ByteArray} (hb : b.size ≤ 1000) : (∃ e, evOf b = some e ∧ ∀ K, 300000 ≤ K → Ftrace_Event K b = some (e, 0) ∧ FR37_Event K b = some (e, true)) ∨ (evOf b = none ∧ ∀ K, 300000 ≤ K → Ftrace_Event K b = some (noE, 13) ∧ FR37_Event K b = some (noE, false)) := by
  by_cases hE : ∃ e, may e ∧ evOk e ∧ b = lineS e
  · obtain ⟨e, hm, ho, rfl⟩ := hE
    refine .inl ⟨e, ?_, fun K hK => ⟨event_back hm ho (by omega), refEvent_back hm ho hK⟩⟩
    unfold evOf
    rw [event_back hm ho (by omega)]
    rfl
  · have h2 : ∀ K, 300000 ≤ K → Ftrace_Event K b = some (noE, 13) ∧ FR37_Event K b = some (noE, false) := fun K hK => by
      obtain ⟨r, h1, h2⟩ := event_eq hb (K := K) (by omega)
      obtain ⟨r', h1', h2'⟩ := refEvent_eq hb (K := K) hK
      refine ⟨?_, ?_⟩
      · rcases h2 with rfl | ⟨e, hm, ho, hl, _⟩
        · exact h1
        · exact absurd ⟨e, hm, ho, hl⟩ hE
      · rcases h2' with rfl | ⟨e, hm, ho, hl, _⟩
        · exact h1'
        · exact absurd ⟨e, hm, ho, hl⟩ hE
    refine .inr ⟨?_, h2⟩
    unfold evOf
    rw [(h2 300000 (Nat.le_refl _)).1]
    rfl
def evsOf : List ByteArray → Option (List TEvent)
  | [] => some []
  | b :: L => (evOf b).bind fun e => (evsOf L).map (e :: ·)

theorem body_yes {K : Nat} (hK : 300000 ≤ K) (a0 : ByteArray) {b : ByteArray} (hb : b.size ≤ 1000) {e : TEvent} (he : evOf b = some e) {acc : List TEvent} (ha : acc.length ≤ 100000) : B18r K a0 (b ++ nlB) (acc, 0) = some (0, (acc ++ [e], 0)) := by
  have hv : Ftrace_Event K b = some (e, 0) := by
    rcases ev_spec hb with ⟨e', h1, h2⟩ | ⟨h1, _⟩
    · rw [h1] at he; cases he
      exact (h2 K hK).1
    · rw [h1] at he; cases he
  cases acc with
  | nil =>
    rw [B18r, cut_yes (by omega) K]
    simp only [Option.bind_some]
    rw [hv]
    simp only [Option.bind_some, Bool.not_true, cond_false, bne_self_eq_false]
    rw [room_of (by simp) (by omega)]
    rfl
  | cons y ys =>
    rw [B18r, cut_yes (by omega) K]
    simp only [Option.bind_some]
    rw [hv]
    simp only [Option.bind_some, Bool.not_true, cond_false, bne_self_eq_false]
    rw [room_of (by simp at ha ⊢; omega) (by omega)]
    rfl
theorem body_no {K : Nat} (hK : 300000 ≤ K) (a0 : ByteArray) {b : ByteArray} (hb : b.size ≤ 1000) (he : evOf b = none) (acc : List TEvent) : B18r K a0 (b ++ nlB) (acc, 0) = some (1, (acc, 13)) := by
  have hv : Ftrace_Event K b = some (noE, 13) := by
    rcases ev_spec hb with ⟨e', h1, h2⟩ | ⟨_, h2⟩
    · rw [h1] at he; cases he
    · exact (h2 K hK).1
  cases acc with
  | nil =>
    rw [B18r, cut_yes (by omega) K]
    simp only [Option.bind_some]
    rw [hv]
    rfl
  | cons y ys =>
    rw [B18r, cut_yes (by omega) K]
    simp only [Option.bind_some]
    rw [hv]
    rfl
theorem body_rest {K : Nat} (hK : 300000 ≤ K) (a0 : ByteArray) {b : ByteArray} (hb : b.size ≤ 1000) (h0 : 0 < b.size) (hn : (10 : UInt8) ∉ b.data.toList) (acc : List TEvent) : B18r K a0 b (acc, 0) = some (1, (acc, 13)) := by
  obtain ⟨r, hr, _⟩ := event_eq hb (K := K) (by omega)
  cases acc with
  | nil =>
    rw [B18r, cut_no (by omega) h0 hn K]
    simp only [Option.bind_some]
    rw [hr]
    rfl
  | cons y ys =>
    rw [B18r, cut_no (by omega) h0 hn K]
    simp only [Option.bind_some]
    rw [hr]
    rfl
theorem fold_eq {K : Nat} (hK : 300000 ≤ K) (a0 : ByteArray) (T : List ByteArray) : ∀ (L : List ByteArray) (acc : List TEvent), (∀ l ∈ L, l.size ≤ 1000) → acc.length + L.length ≤ 100000 →
    (∀ es, evsOf L = some es → foldB (B18r K a0) (L.map (fun l => l ++ nlB) ++ T) (acc, 0) = foldB (B18r K a0) T (acc ++ es, 0)) ∧ (evsOf L = none → ∃ x, foldB (B18r K a0) (L.map (fun l => l ++ nlB) ++ T) (acc, 0) = some (1, (x, 13)))
  | [], acc, _, _ => by
    refine ⟨fun es h => ?_, fun h => by cases h⟩
    cases h
    simp
  | b :: L, acc, hL, hl => by
    have hb := hL b (by simp)
    simp only [List.length_cons] at hl
    rw [List.map_cons, List.cons_append, foldB, evsOf]
    cases he : evOf b with
    | none =>
      rw [body_no hK a0 hb he acc]
      exact ⟨fun es h => (by cases h), fun _ => ⟨_, rfl⟩⟩
    | some e =>
      rw [body_yes hK a0 hb he (by omega)]
      obtain ⟨h1, h2⟩ := fold_eq hK a0 T L (acc ++ [e]) (fun l hl => hL l (by simp [hl])) (by simp; omega)
      simp only [Option.bind_some]
      refine ⟨fun es h => ?_, fun h => ?_⟩
      · rw [Option.map_eq_some_iff] at h
        obtain ⟨es', h3, rfl⟩ := h
        rw [h1 es' h3]
        simp
      · rw [Option.map_eq_none_iff] at h
        exact h2 h
/-- What trace.Events tells of a text. -/
def evRes (s : ByteArray) : List TEvent × Int := match evsOf (lnB s) with
  | some es => if (lnR s).size = 0 then (es, 0) else ([], 13)
  | none => ([], 13)
theorem c18_0 (K : Nat) (a0 : ByteArray) (l : List TEvent) (e : Int) : C18r K a0 0 (l, e) = some (l, 0) := by cases l <;> rfl
theorem c18_1 (K : Nat) (a0 : ByteArray) (l : List TEvent) (e : Int) : C18r K a0 1 (l, e) = some ([], e) := by cases l <;> rfl
theorem events_eq {s : ByteArray} (hs : s.size ≤ 1000) {K : Nat} (hK : 300000 ≤ K) : Ftrace_Events K s = some (evRes s) := by
  obtain ⟨f1, f2, f3, f4⟩ := ln_facts s
  unfold Ftrace_Events
  rw [Nat.ble_eq_true_of_le (show s.size ≤ 1000000 by omega), cond_true, linesOf_eq]
  obtain ⟨h1, h2⟩ := fold_eq hK s (if (lnR s).size = 0 then [] else [lnR s]) (lnB s) [] (fun l hl => by have := f2 l hl; omega) (by simp only [List.length_nil]; omega)
  unfold evRes
  cases he : evsOf (lnB s) with
  | none =>
    obtain ⟨x, hx⟩ := h2 he
    rw [hx]
    simp only [Option.bind_some]
    rw [c18_1]
  | some es =>
    rw [h1 es he]
    simp only [List.nil_append]
    by_cases hz : (lnR s).size = 0
    · rw [if_pos hz, if_pos hz, foldB]
      simp only [Option.bind_some]
      rw [c18_0]
    · rw [if_neg hz, if_neg hz, foldB, body_rest hK s (by omega) (by omega) f4]
      simp only [Option.bind_some]
      rw [c18_1]

end

end Go.Proofs.YtdmcdijlpnbghaaGreatDoor.Lf
