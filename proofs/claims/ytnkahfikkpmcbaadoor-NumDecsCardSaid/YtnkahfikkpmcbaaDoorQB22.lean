/- Several texts in one: LNf, LNg, LNh. -/
import Derived.Test.YtnkahfikkpmcbaaDoorQB21
import Derived.Test.YtnkahfikkpmcbaaDoorQB19
namespace Go.Proofs.YtnkahfikkpmcbaaDoor.Lf

section
open Go Go.Dt Go.Proofs
set_option linter.unusedVariables false
set_option linter.unusedSimpArgs false

def digs : ByteArray := ⟨#[48, 49, 50, 51, 52, 53, 54, 55, 56, 57, 97, 98, 99, 100, 101, 102]⟩
def hexR (r : Int × Bool) : Int × Int := bif r.2 then (r.1, 0) else (0, 6)
end

section
open Go Go.Dt Go.Proofs
set_option linter.unusedVariables false

/-! ### 40 -/
abbrev Einternal_strconv_lower : Int → Value := fun r => .int .u8 r
def Finternal_strconv_lower (K : Nat) (a0 : Int) : Option Int :=
  some (IntKind.u8.wrap (↑(BitVec.ofInt 8 a0 ||| BitVec.ofInt 8 32).toNat : Int))
theorem cinternal_strconv_lower (K : Nat) (a0 : Int) : ∀ r, Finternal_strconv_lower K a0 = some r → Con Tryd.prog 40 [.int .u8 a0] (Einternal_strconv_lower r) := by
  refine Con.lift Tryd.func40 (by kernel_rfl) rfl (fun _ => rfl) ?_
  unfold Finternal_strconv_lower
  exact
    L.ret _ mixed Tryd.func40 _ (by kernel_rfl) rfl
/-! ### 29 -/
abbrev Einternal_strconv_ParseUint_10_64 : Int × Unit → Value := fun r => .tuple ⟨[.int .u64 r.1, .nilIface]⟩
def Finternal_strconv_ParseUint_10_64_36 (a0 : ByteArray) (a1 : Unit) (a2 : Unit) : Nat → Bool → Int → Int → Option (Int × Unit)
  | 0, _, _, _ => none
  | K + 1, p12, p13, p101 =>
    bif (decide (p101 < (↑(bytesU a0).length : Int))) then
      bif inR p101 ((bytesU a0).length) then
        bif ((getR (bytesU a0) p101.toNat).n == 95) then
          bif (decide (48 ≤ (getR (bytesU a0) p101.toNat).n)) then
            bif (bif true then decide ((getR (bytesU a0) p101.toNat).n ≤ 57) else false) then
              bif (decide (IntKind.u8.wrap ((getR (bytesU a0) p101.toNat).n - 48) ≥ 10)) then
                none
              else
                bif (decide (p13 ≥ 1844674407370955162)) then
                  none
                else
                  bif (decide (IntKind.u64.wrap (IntKind.u64.wrap (p13 * 10) + IntKind.u64.wrap (IntKind.u8.wrap ((getR (bytesU a0) p101.toNat).n - 48))) < IntKind.u64.wrap (p13 * 10))) then
                    none
                  else
                    bif (bif false then true else decide (IntKind.u64.wrap (IntKind.u64.wrap (p13 * 10) + IntKind.u64.wrap (IntKind.u8.wrap ((getR (bytesU a0) p101.toNat).n - 48))) > 18446744073709551615)) then
                      none
                    else
                      Finternal_strconv_ParseUint_10_64_36 a0 a1 a2 K p12 (IntKind.u64.wrap (IntKind.u64.wrap (p13 * 10) + IntKind.u64.wrap (IntKind.u8.wrap ((getR (bytesU a0) p101.toNat).n - 48)))) (IntKind.i64.wrap (p101 + 1))
            else
              (Finternal_strconv_lower K ((getR (bytesU a0) p101.toNat).n)).bind fun u11 =>
              bif (decide (97 ≤ u11)) then
                (Finternal_strconv_lower K ((getR (bytesU a0) p101.toNat).n)).bind fun u13 =>
                bif (bif true then decide (u13 ≤ 122) else false) then
                  (Finternal_strconv_lower K ((getR (bytesU a0) p101.toNat).n)).bind fun u15 =>
                  bif (decide (IntKind.u8.wrap (IntKind.u8.wrap (u15 - 97) + 10) ≥ 10)) then
                    none
                  else
                    bif (decide (p13 ≥ 1844674407370955162)) then
                      none
                    else
                      bif (decide (IntKind.u64.wrap (IntKind.u64.wrap (p13 * 10) + IntKind.u64.wrap (IntKind.u8.wrap (IntKind.u8.wrap (u15 - 97) + 10))) < IntKind.u64.wrap (p13 * 10))) then
                        none
                      else
                        bif (bif false then true else decide (IntKind.u64.wrap (IntKind.u64.wrap (p13 * 10) + IntKind.u64.wrap (IntKind.u8.wrap (IntKind.u8.wrap (u15 - 97) + 10))) > 18446744073709551615)) then
                          none
                        else
                          Finternal_strconv_ParseUint_10_64_36 a0 a1 a2 K p12 (IntKind.u64.wrap (IntKind.u64.wrap (p13 * 10) + IntKind.u64.wrap (IntKind.u8.wrap (IntKind.u8.wrap (u15 - 97) + 10)))) (IntKind.i64.wrap (p101 + 1))
                else
                  none
              else
                none
          else
            (Finternal_strconv_lower K ((getR (bytesU a0) p101.toNat).n)).bind fun u20 =>
            bif (decide (97 ≤ u20)) then
              (Finternal_strconv_lower K ((getR (bytesU a0) p101.toNat).n)).bind fun u22 =>
              bif (bif true then decide (u22 ≤ 122) else false) then
                (Finternal_strconv_lower K ((getR (bytesU a0) p101.toNat).n)).bind fun u24 =>
                bif (decide (IntKind.u8.wrap (IntKind.u8.wrap (u24 - 97) + 10) ≥ 10)) then
                  none
                else
                  bif (decide (p13 ≥ 1844674407370955162)) then
                    none
                  else
                    bif (decide (IntKind.u64.wrap (IntKind.u64.wrap (p13 * 10) + IntKind.u64.wrap (IntKind.u8.wrap (IntKind.u8.wrap (u24 - 97) + 10))) < IntKind.u64.wrap (p13 * 10))) then
                      none
                    else
                      bif (bif false then true else decide (IntKind.u64.wrap (IntKind.u64.wrap (p13 * 10) + IntKind.u64.wrap (IntKind.u8.wrap (IntKind.u8.wrap (u24 - 97) + 10))) > 18446744073709551615)) then
                        none
                      else
                        Finternal_strconv_ParseUint_10_64_36 a0 a1 a2 K p12 (IntKind.u64.wrap (IntKind.u64.wrap (p13 * 10) + IntKind.u64.wrap (IntKind.u8.wrap (IntKind.u8.wrap (u24 - 97) + 10)))) (IntKind.i64.wrap (p101 + 1))
              else
                none
            else
              none
        else
          bif (decide (48 ≤ (getR (bytesU a0) p101.toNat).n)) then
            bif (bif true then decide ((getR (bytesU a0) p101.toNat).n ≤ 57) else false) then
              bif (decide (IntKind.u8.wrap ((getR (bytesU a0) p101.toNat).n - 48) ≥ 10)) then
                none
              else
                bif (decide (p13 ≥ 1844674407370955162)) then
                  none
                else
                  bif (decide (IntKind.u64.wrap (IntKind.u64.wrap (p13 * 10) + IntKind.u64.wrap (IntKind.u8.wrap ((getR (bytesU a0) p101.toNat).n - 48))) < IntKind.u64.wrap (p13 * 10))) then
                    none
                  else
                    bif (bif false then true else decide (IntKind.u64.wrap (IntKind.u64.wrap (p13 * 10) + IntKind.u64.wrap (IntKind.u8.wrap ((getR (bytesU a0) p101.toNat).n - 48))) > 18446744073709551615)) then
                      none
                    else
                      Finternal_strconv_ParseUint_10_64_36 a0 a1 a2 K p12 (IntKind.u64.wrap (IntKind.u64.wrap (p13 * 10) + IntKind.u64.wrap (IntKind.u8.wrap ((getR (bytesU a0) p101.toNat).n - 48)))) (IntKind.i64.wrap (p101 + 1))
            else
              (Finternal_strconv_lower K ((getR (bytesU a0) p101.toNat).n)).bind fun u35 =>
              bif (decide (97 ≤ u35)) then
                (Finternal_strconv_lower K ((getR (bytesU a0) p101.toNat).n)).bind fun u37 =>
                bif (bif true then decide (u37 ≤ 122) else false) then
                  (Finternal_strconv_lower K ((getR (bytesU a0) p101.toNat).n)).bind fun u39 =>
                  bif (decide (IntKind.u8.wrap (IntKind.u8.wrap (u39 - 97) + 10) ≥ 10)) then
                    none
                  else
                    bif (decide (p13 ≥ 1844674407370955162)) then
                      none
                    else
                      bif (decide (IntKind.u64.wrap (IntKind.u64.wrap (p13 * 10) + IntKind.u64.wrap (IntKind.u8.wrap (IntKind.u8.wrap (u39 - 97) + 10))) < IntKind.u64.wrap (p13 * 10))) then
                        none
                      else
                        bif (bif false then true else decide (IntKind.u64.wrap (IntKind.u64.wrap (p13 * 10) + IntKind.u64.wrap (IntKind.u8.wrap (IntKind.u8.wrap (u39 - 97) + 10))) > 18446744073709551615)) then
                          none
                        else
                          Finternal_strconv_ParseUint_10_64_36 a0 a1 a2 K p12 (IntKind.u64.wrap (IntKind.u64.wrap (p13 * 10) + IntKind.u64.wrap (IntKind.u8.wrap (IntKind.u8.wrap (u39 - 97) + 10)))) (IntKind.i64.wrap (p101 + 1))
                else
                  none
              else
                none
          else
            (Finternal_strconv_lower K ((getR (bytesU a0) p101.toNat).n)).bind fun u44 =>
            bif (decide (97 ≤ u44)) then
              (Finternal_strconv_lower K ((getR (bytesU a0) p101.toNat).n)).bind fun u46 =>
              bif (bif true then decide (u46 ≤ 122) else false) then
                (Finternal_strconv_lower K ((getR (bytesU a0) p101.toNat).n)).bind fun u48 =>
                bif (decide (IntKind.u8.wrap (IntKind.u8.wrap (u48 - 97) + 10) ≥ 10)) then
                  none
                else
                  bif (decide (p13 ≥ 1844674407370955162)) then
                    none
                  else
                    bif (decide (IntKind.u64.wrap (IntKind.u64.wrap (p13 * 10) + IntKind.u64.wrap (IntKind.u8.wrap (IntKind.u8.wrap (u48 - 97) + 10))) < IntKind.u64.wrap (p13 * 10))) then
                      none
                    else
                      bif (bif false then true else decide (IntKind.u64.wrap (IntKind.u64.wrap (p13 * 10) + IntKind.u64.wrap (IntKind.u8.wrap (IntKind.u8.wrap (u48 - 97) + 10))) > 18446744073709551615)) then
                        none
                      else
                        Finternal_strconv_ParseUint_10_64_36 a0 a1 a2 K p12 (IntKind.u64.wrap (IntKind.u64.wrap (p13 * 10) + IntKind.u64.wrap (IntKind.u8.wrap (IntKind.u8.wrap (u48 - 97) + 10)))) (IntKind.i64.wrap (p101 + 1))
              else
                none
            else
              none
      else none
    else
      bif p12 then
        none
      else
        some ((p13, ()))
def Finternal_strconv_ParseUint_10_64 (K : Nat) (a0 : ByteArray) (a1 : Unit) (a2 : Unit) : Option (Int × Unit) :=
  bif (a0.toList == (ByteArray.mk #[]).toList) then
    none
  else
    Finternal_strconv_ParseUint_10_64_36 a0 a1 a2 K false 0 0
def Hinternal_strconv_ParseUint_10_64_36 (fn : Func) (a0 : ByteArray) (a1 : Unit) (a2 : Unit) (p12 : Bool) (p13 : Int) (p101 : Int) : VS := headS fn 36 [(1, (Value.int IntKind.i64 10)), (8, (Value.bool (10 == 0))), (9, (Value.string a0)), (10, (Value.int IntKind.u64 1844674407370955162)), (11, (Value.int IntKind.u64 18446744073709551615)), (12, .bool p12), (13, .int .u64 p13), (99, (lst (bytesU a0))), (100, (Value.int IntKind.i64 ((↑(bytesU a0).length : Int)))), (101, .int .i64 p101)] []
theorem linternal_strconv_ParseUint_10_64 (a0 : ByteArray) (a1 : Unit) (a2 : Unit) : ∀ K : Nat, (∀ (p12 : Bool) (p13 : Int) (p101 : Int), Lifts Tryd.prog 29 0 Einternal_strconv_ParseUint_10_64 (Hinternal_strconv_ParseUint_10_64_36 Tryd.f29 a0 a1 a2 p12 p13 p101) (Finternal_strconv_ParseUint_10_64_36 a0 a1 a2 K p12 p13 p101)) := by
  intro K
  induction K with
  | zero =>
    exact fun p12 p13 p101 => (by rw [Finternal_strconv_ParseUint_10_64_36]; exact L.no)
  | succ K ih =>
    have IH36 := ih
    refine fun p12 p13 p101 => ?_
    · rw [Finternal_strconv_ParseUint_10_64_36]
      exact
        L.br mixed 5 _ (by kernel_rfl)
          (fun h2 =>
          L.idx mixed 5 _ (rows (bytesU a0)) 1 IntKind.i64 _ (by kernel_rfl) (fun h3a h3b =>
          L.ld mixed 0 5 (rows (bytesU a0)) (p101.toNat * 1 + 0) (.int .u8 (getR (bytesU a0) p101.toNat).n) (by kernel_rfl) (load1_rows (i := p101.toNat) (d := 0) rfl (toNat_lt h3a h3b) (by kernel_rfl) (Nat.le_of_ble_eq_true (by kernel_rfl)) (by kernel_rfl)) <|
          L.gu mixed 13 _ (by kernel_rfl)
            (fun h4 =>
            L.gu mixed 10 _ (by kernel_rfl)
              (fun h5 =>
              L.br mixed 5 _ (by kernel_rfl)
                (fun h6 =>
                L.br mixed 14 _ (by kernel_rfl)
                  (fun h7 =>
                  L.no)
                  (fun h7 =>
                  L.br mixed 8 _ (by kernel_rfl)
                    (fun h8 =>
                    L.no)
                    (fun h8 =>
                    L.gu mixed 24 _ (by kernel_rfl)
                      (fun h9 =>
                      L.no)
                      (fun h9 =>
                      L.br mixed 5 _ (by kernel_rfl)
                        (fun h10 =>
                        L.no)
                        (fun h10 =>
                        L.jump mixed 11 [1, 8, 9, 10, 11, 12, 13, 99, 100, 101] (by kernel_rfl) (IH36 p12 (IntKind.u64.wrap (IntKind.u64.wrap (p13 * 10) + IntKind.u64.wrap (IntKind.u8.wrap ((getR (bytesU a0) p101.toNat).n - 48)))) (IntKind.i64.wrap (p101 + 1))))))))
                (fun h6 =>
                L.callO mixed (fun u11 : Int => .int .u8 u11) (cinternal_strconv_lower K ((getR (bytesU a0) p101.toNat).n)) (by kernel_rfl) (fun u11 hu11 =>
                L.gu mixed 2 _ (by kernel_rfl)
                  (fun h12 =>
                  L.callO mixed (fun u13 : Int => .int .u8 u13) (cinternal_strconv_lower K ((getR (bytesU a0) p101.toNat).n)) (by kernel_rfl) (fun u13 hu13 =>
                  L.br mixed 4 _ (by kernel_rfl)
                    (fun h14 =>
                    L.callO mixed (fun u15 : Int => .int .u8 u15) (cinternal_strconv_lower K ((getR (bytesU a0) p101.toNat).n)) (by kernel_rfl) (fun u15 hu15 =>
                    L.br mixed 13 _ (by kernel_rfl)
                      (fun h16 =>
                      L.no)
                      (fun h16 =>
                      L.br mixed 8 _ (by kernel_rfl)
                        (fun h17 =>
                        L.no)
                        (fun h17 =>
                        L.gu mixed 24 _ (by kernel_rfl)
                          (fun h18 =>
                          L.no)
                          (fun h18 =>
                          L.br mixed 5 _ (by kernel_rfl)
                            (fun h19 =>
                            L.no)
                            (fun h19 =>
                            L.jump mixed 11 [1, 8, 9, 10, 11, 12, 13, 99, 100, 101] (by kernel_rfl) (IH36 p12 (IntKind.u64.wrap (IntKind.u64.wrap (p13 * 10) + IntKind.u64.wrap (IntKind.u8.wrap (IntKind.u8.wrap (u15 - 97) + 10)))) (IntKind.i64.wrap (p101 + 1)))))))))
                    (fun h14 =>
                    L.no)))
                  (fun h12 =>
                  L.no))))
              (fun h5 =>
              L.callO mixed (fun u20 : Int => .int .u8 u20) (cinternal_strconv_lower K ((getR (bytesU a0) p101.toNat).n)) (by kernel_rfl) (fun u20 hu20 =>
              L.gu mixed 2 _ (by kernel_rfl)
                (fun h21 =>
                L.callO mixed (fun u22 : Int => .int .u8 u22) (cinternal_strconv_lower K ((getR (bytesU a0) p101.toNat).n)) (by kernel_rfl) (fun u22 hu22 =>
                L.br mixed 4 _ (by kernel_rfl)
                  (fun h23 =>
                  L.callO mixed (fun u24 : Int => .int .u8 u24) (cinternal_strconv_lower K ((getR (bytesU a0) p101.toNat).n)) (by kernel_rfl) (fun u24 hu24 =>
                  L.br mixed 13 _ (by kernel_rfl)
                    (fun h25 =>
                    L.no)
                    (fun h25 =>
                    L.br mixed 8 _ (by kernel_rfl)
                      (fun h26 =>
                      L.no)
                      (fun h26 =>
                      L.gu mixed 24 _ (by kernel_rfl)
                        (fun h27 =>
                        L.no)
                        (fun h27 =>
                        L.br mixed 5 _ (by kernel_rfl)
                          (fun h28 =>
                          L.no)
                          (fun h28 =>
                          L.jump mixed 11 [1, 8, 9, 10, 11, 12, 13, 99, 100, 101] (by kernel_rfl) (IH36 p12 (IntKind.u64.wrap (IntKind.u64.wrap (p13 * 10) + IntKind.u64.wrap (IntKind.u8.wrap (IntKind.u8.wrap (u24 - 97) + 10)))) (IntKind.i64.wrap (p101 + 1)))))))))
                  (fun h23 =>
                  L.no)))
                (fun h21 =>
                L.no))))
            (fun h4 =>
            L.gu mixed 10 _ (by kernel_rfl)
              (fun h29 =>
              L.br mixed 5 _ (by kernel_rfl)
                (fun h30 =>
                L.br mixed 14 _ (by kernel_rfl)
                  (fun h31 =>
                  L.no)
                  (fun h31 =>
                  L.br mixed 8 _ (by kernel_rfl)
                    (fun h32 =>
                    L.no)
                    (fun h32 =>
                    L.gu mixed 24 _ (by kernel_rfl)
                      (fun h33 =>
                      L.no)
                      (fun h33 =>
                      L.br mixed 5 _ (by kernel_rfl)
                        (fun h34 =>
                        L.no)
                        (fun h34 =>
                        L.jump mixed 11 [1, 8, 9, 10, 11, 12, 13, 99, 100, 101] (by kernel_rfl) (IH36 p12 (IntKind.u64.wrap (IntKind.u64.wrap (p13 * 10) + IntKind.u64.wrap (IntKind.u8.wrap ((getR (bytesU a0) p101.toNat).n - 48)))) (IntKind.i64.wrap (p101 + 1))))))))
                (fun h30 =>
                L.callO mixed (fun u35 : Int => .int .u8 u35) (cinternal_strconv_lower K ((getR (bytesU a0) p101.toNat).n)) (by kernel_rfl) (fun u35 hu35 =>
                L.gu mixed 2 _ (by kernel_rfl)
                  (fun h36 =>
                  L.callO mixed (fun u37 : Int => .int .u8 u37) (cinternal_strconv_lower K ((getR (bytesU a0) p101.toNat).n)) (by kernel_rfl) (fun u37 hu37 =>
                  L.br mixed 4 _ (by kernel_rfl)
                    (fun h38 =>
                    L.callO mixed (fun u39 : Int => .int .u8 u39) (cinternal_strconv_lower K ((getR (bytesU a0) p101.toNat).n)) (by kernel_rfl) (fun u39 hu39 =>
                    L.br mixed 13 _ (by kernel_rfl)
                      (fun h40 =>
                      L.no)
                      (fun h40 =>
                      L.br mixed 8 _ (by kernel_rfl)
                        (fun h41 =>
                        L.no)
                        (fun h41 =>
                        L.gu mixed 24 _ (by kernel_rfl)
                          (fun h42 =>
                          L.no)
                          (fun h42 =>
                          L.br mixed 5 _ (by kernel_rfl)
                            (fun h43 =>
                            L.no)
                            (fun h43 =>
                            L.jump mixed 11 [1, 8, 9, 10, 11, 12, 13, 99, 100, 101] (by kernel_rfl) (IH36 p12 (IntKind.u64.wrap (IntKind.u64.wrap (p13 * 10) + IntKind.u64.wrap (IntKind.u8.wrap (IntKind.u8.wrap (u39 - 97) + 10)))) (IntKind.i64.wrap (p101 + 1)))))))))
                    (fun h38 =>
                    L.no)))
                  (fun h36 =>
                  L.no))))
              (fun h29 =>
              L.callO mixed (fun u44 : Int => .int .u8 u44) (cinternal_strconv_lower K ((getR (bytesU a0) p101.toNat).n)) (by kernel_rfl) (fun u44 hu44 =>
              L.gu mixed 2 _ (by kernel_rfl)
                (fun h45 =>
                L.callO mixed (fun u46 : Int => .int .u8 u46) (cinternal_strconv_lower K ((getR (bytesU a0) p101.toNat).n)) (by kernel_rfl) (fun u46 hu46 =>
                L.br mixed 4 _ (by kernel_rfl)
                  (fun h47 =>
                  L.callO mixed (fun u48 : Int => .int .u8 u48) (cinternal_strconv_lower K ((getR (bytesU a0) p101.toNat).n)) (by kernel_rfl) (fun u48 hu48 =>
                  L.br mixed 13 _ (by kernel_rfl)
                    (fun h49 =>
                    L.no)
                    (fun h49 =>
                    L.br mixed 8 _ (by kernel_rfl)
                      (fun h50 =>
                      L.no)
                      (fun h50 =>
                      L.gu mixed 24 _ (by kernel_rfl)
                        (fun h51 =>
                        L.no)
                        (fun h51 =>
                        L.br mixed 5 _ (by kernel_rfl)
                          (fun h52 =>
                          L.no)
                          (fun h52 =>
                          L.jump mixed 11 [1, 8, 9, 10, 11, 12, 13, 99, 100, 101] (by kernel_rfl) (IH36 p12 (IntKind.u64.wrap (IntKind.u64.wrap (p13 * 10) + IntKind.u64.wrap (IntKind.u8.wrap (IntKind.u8.wrap (u48 - 97) + 10)))) (IntKind.i64.wrap (p101 + 1)))))))))
                  (fun h47 =>
                  L.no)))
                (fun h45 =>
                L.no))))))
          (fun h2 =>
          L.gu mixed 6 _ (by kernel_rfl)
            (fun h53 =>
            L.no)
            (fun h53 =>
            L.ret _ mixed Tryd.func29 _ (by kernel_rfl) rfl))
theorem cinternal_strconv_ParseUint_10_64 (K : Nat) (a0 : ByteArray) (a1 : Unit) (a2 : Unit) : ∀ r, Finternal_strconv_ParseUint_10_64 K a0 a1 a2 = some r → Con Tryd.prog 29 [.string a0, .int .i64 10, .int .i64 64] (Einternal_strconv_ParseUint_10_64 r) := by
  have IH36 := linternal_strconv_ParseUint_10_64 a0 a1 a2 K
  refine Con.lift Tryd.func29 (by kernel_rfl) rfl (fun _ => rfl) ?_
  unfold Finternal_strconv_ParseUint_10_64
  exact
    L.br mixed 11 _ (by kernel_rfl)
      (fun h1 =>
      L.no)
      (fun h1 =>
      L.strBytes mixed 85 a0 (by kernel_rfl) <|
      L.jump mixed 5 [1, 8, 9, 10, 11, 12, 13, 99, 100, 101] (by kernel_rfl) (IH36 false 0 0))
/-! ### 19 -/
abbrev Einternal_strconv_ParseInt_10_64 : Int × Unit → Value := fun r => .tuple ⟨[.int .i64 r.1, .nilIface]⟩
def Finternal_strconv_ParseInt_10_64 (K : Nat) (a0 : ByteArray) (a1 : Unit) (a2 : Unit) : Option (Int × Unit) :=
  bif (a0.toList == (ByteArray.mk #[]).toList) then
    none
  else
    bif inR 0 a0.size then
      bif (byteAt a0 0 == 43) then
        bif cutOk (ByteArray.size a0) ((some 1 : Option Int).getD 0) ((Option.none : Option Int).getD (ByteArray.size a0 : Int)) then
          (Finternal_strconv_ParseUint_10_64 K (a0.extract 1 (none.getD (↑a0.size : Int)).toNat) () ()).bind fun u4 =>
          bif (bif !false then decide (u4.fst ≥ 9223372036854775808) else false) then
            none
          else
            some ((IntKind.i64.wrap u4.fst, ()))
        else none
      else
        bif (byteAt a0 0 == 45) then
          bif cutOk (ByteArray.size a0) ((some 1 : Option Int).getD 0) ((Option.none : Option Int).getD (ByteArray.size a0 : Int)) then
            (Finternal_strconv_ParseUint_10_64 K (a0.extract 1 (none.getD (↑a0.size : Int)).toNat) () ()).bind fun u7 =>
            bif (bif true then decide (u7.fst > 9223372036854775808) else false) then
              none
            else
              some ((IntKind.i64.wrap (0 - IntKind.i64.wrap u7.fst), ()))
          else none
        else
          (Finternal_strconv_ParseUint_10_64 K a0 () ()).bind fun u9 =>
          bif (bif !false then decide (u9.fst ≥ 9223372036854775808) else false) then
            none
          else
            some ((IntKind.i64.wrap u9.fst, ()))
    else none
theorem cinternal_strconv_ParseInt_10_64 (K : Nat) (a0 : ByteArray) (a1 : Unit) (a2 : Unit) : ∀ r, Finternal_strconv_ParseInt_10_64 K a0 a1 a2 = some r → Con Tryd.prog 19 [.string a0, .int .i64 10, .int .i64 64] (Einternal_strconv_ParseInt_10_64 r) := by
  refine Con.lift Tryd.func19 (by kernel_rfl) rfl (fun _ => rfl) ?_
  unfold Finternal_strconv_ParseInt_10_64
  exact
    L.br mixed 11 _ (by kernel_rfl)
      (fun h1 =>
      L.no)
      (fun h1 =>
      L.strIdx mixed 9 9 _ IntKind.i64 _ (by kernel_rfl) (by kernel_rfl) (fun h2a h2b =>
      L.br mixed 7 _ (by kernel_rfl)
        (fun h3 =>
        L.ssl mixed 2 a0 (some 1 : Option Int) (Option.none : Option Int) (by kernel_rfl) <|
        L.callO mixed (fun u4 : Int × Unit => .tuple ⟨[.int .u64 u4.1, .nilIface]⟩) (cinternal_strconv_ParseUint_10_64 K (a0.extract 1 (none.getD (↑a0.size : Int)).toNat) () ()) (by kernel_rfl) (fun u4 hu4 =>
        L.br mixed 46 _ (by kernel_rfl)
          (fun h5 =>
          L.no)
          (fun h5 =>
          L.ret _ mixed Tryd.func19 _ (by kernel_rfl) rfl)))
        (fun h3 =>
        L.br mixed 5 _ (by kernel_rfl)
          (fun h6 =>
          L.ssl mixed 3 a0 (some 1 : Option Int) (Option.none : Option Int) (by kernel_rfl) <|
          L.callO mixed (fun u7 : Int × Unit => .tuple ⟨[.int .u64 u7.1, .nilIface]⟩) (cinternal_strconv_ParseUint_10_64 K (a0.extract 1 (none.getD (↑a0.size : Int)).toNat) () ()) (by kernel_rfl) (fun u7 hu7 =>
          L.br mixed 58 _ (by kernel_rfl)
            (fun h8 =>
            L.no)
            (fun h8 =>
            L.ret _ mixed Tryd.func19 _ (by kernel_rfl) rfl)))
          (fun h6 =>
          L.callO mixed (fun u9 : Int × Unit => .tuple ⟨[.int .u64 u9.1, .nilIface]⟩) (cinternal_strconv_ParseUint_10_64 K a0 () ()) (by kernel_rfl) (fun u9 hu9 =>
          L.br mixed 46 _ (by kernel_rfl)
            (fun h10 =>
            L.no)
            (fun h10 =>
            L.ret _ mixed Tryd.func19 _ (by kernel_rfl) rfl))))))
/-! ### 15 -/
abbrev Estrconv_ParseInt_10_64 : Int × Unit → Value := fun r => .tuple ⟨[.int .i64 r.1, .nilIface]⟩
def Fstrconv_ParseInt_10_64 (K : Nat) (a0 : ByteArray) (a1 : Unit) (a2 : Unit) : Option (Int × Unit) :=
  (Finternal_strconv_ParseInt_10_64 K a0 () ()).bind fun u1 =>
  some ((u1.fst, ()))
theorem cstrconv_ParseInt_10_64 (K : Nat) (a0 : ByteArray) (a1 : Unit) (a2 : Unit) : ∀ r, Fstrconv_ParseInt_10_64 K a0 a1 a2 = some r → Con Tryd.prog 15 [.string a0, .int .i64 10, .int .i64 64] (Estrconv_ParseInt_10_64 r) := by
  refine Con.lift Tryd.func15 (by kernel_rfl) rfl (fun _ => rfl) ?_
  unfold Fstrconv_ParseInt_10_64
  exact
    L.callO mixed (fun u1 : Int × Unit => .tuple ⟨[.int .i64 u1.1, .nilIface]⟩) (cinternal_strconv_ParseInt_10_64 K a0 () ()) (by kernel_rfl) (fun u1 hu1 =>
    L.ret _ mixed Tryd.func15 _ (by kernel_rfl) rfl)
/-! ### 6 -/
abbrev Enum_Undec : Int × Int → Value := fun r => .tuple ⟨[.int .i64 r.1, .int .i64 r.2]⟩
def Fnum_Undec (K : Nat) (a0 : ByteArray) : Option (Int × Int) :=
  (Fstrconv_ParseInt_10_64 K a0 () ()).bind fun u1 =>
  (Fnum_Dec K u1.fst).bind fun u2 =>
  bif (bif !true then true else !u2.toList == a0.toList) then
    some ((0, 6))
  else
    some ((u1.fst, 0))
theorem cnum_Undec (K : Nat) (a0 : ByteArray) : ∀ r, Fnum_Undec K a0 = some r → Con Tryd.prog 6 [.string a0] (Enum_Undec r) := by
  refine Con.lift Tryd.func6 (by kernel_rfl) rfl (fun _ => rfl) ?_
  unfold Fnum_Undec
  exact
    L.callO mixed (fun u1 : Int × Unit => .tuple ⟨[.int .i64 u1.1, .nilIface]⟩) (cstrconv_ParseInt_10_64 K a0 () ()) (by kernel_rfl) (fun u1 hu1 =>
    L.callO mixed (fun u2 : ByteArray => .string u2) (cnum_Dec K u1.fst) (by kernel_rfl) (fun u2 hu2 =>
    L.br mixed 4 _ (by kernel_rfl)
      (fun h3 =>
      L.ret _ mixed Tryd.func6 _ (by kernel_rfl) rfl)
      (fun h3 =>
      L.ret _ mixed Tryd.func6 _ (by kernel_rfl) rfl)))

end

section
open Go Go.Dt Go.Proofs
set_option linter.unusedVariables false

/-! ### 5 -/
abbrev EL03_awake : Bool → Value := fun r => .bool r
def FL03_awake (K : Nat) : Option Bool :=
  (Fnum_Hex K 255 4).bind fun u1 =>
  (Fnum_Undec K (ByteArray.mk #[48, 48, 55])).bind fun u2 =>
  (Fnum_Dec K (-5)).bind fun u3 =>
  bif (u3.toList == (ByteArray.mk #[OfNat.ofNat 45, OfNat.ofNat 53]).toList) then
    bif (bif true then u1.fst.toList == (ByteArray.mk #[OfNat.ofNat 48, OfNat.ofNat 48, OfNat.ofNat 102, OfNat.ofNat 102]).toList else false) then
      bif (bif true then u1.snd == 0 else false) then
        some (bif true then u2.snd == 6 else false)
      else
        some false
    else
      some false
  else
    some false
theorem cL03_awake (K : Nat) : ∀ r, FL03_awake K = some r → Con Tryd.prog 5 [] (EL03_awake r) := by
  refine Con.lift Tryd.func5 (by kernel_rfl) rfl (fun _ => rfl) ?_
  unfold FL03_awake
  exact
    L.callO mixed (fun u1 : ByteArray × Int => .tuple ⟨[.string u1.1, .int .i64 u1.2]⟩) (cnum_Hex K 255 4) (by kernel_rfl) (fun u1 hu1 =>
    L.callO mixed (fun u2 : Int × Int => .tuple ⟨[.int .i64 u2.1, .int .i64 u2.2]⟩) (cnum_Undec K (ByteArray.mk #[48, 48, 55])) (by kernel_rfl) (fun u2 hu2 =>
    L.callO mixed (fun u3 : ByteArray => .string u3) (cnum_Dec K (-5)) (by kernel_rfl) (fun u3 hu3 =>
    L.gu mixed 2 _ (by kernel_rfl)
      (fun h4 =>
      L.gu mixed 4 _ (by kernel_rfl)
        (fun h5 =>
        L.gu mixed 4 _ (by kernel_rfl)
          (fun h6 =>
          L.ret _ mixed Tryd.func5 _ (by kernel_rfl) rfl)
          (fun h6 =>
          L.ret _ mixed Tryd.func5 _ (by kernel_rfl) rfl))
        (fun h5 =>
        L.ret _ mixed Tryd.func5 _ (by kernel_rfl) rfl))
      (fun h4 =>
      L.ret _ mixed Tryd.func5 _ (by kernel_rfl) rfl))))
/-! ### 4 -/
end

end Go.Proofs.YtnkahfikkpmcbaaDoor.Lf
