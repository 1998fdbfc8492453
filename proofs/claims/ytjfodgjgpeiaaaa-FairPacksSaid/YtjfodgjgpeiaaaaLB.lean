/- Lifted. -/
import Derived.Test.YtjfodgjgpeiaaaaTy
namespace Go.Proofs.Ytjfodgjgpeiaaaa.Lf
open Go Go.Dt Go.Proofs
set_option linter.unusedVariables false

/-! ### 25 -/
abbrev E25 : List TFairBurst → Value := fun r => lst r
def F25_3 (a0 : List Int) : Nat → (List TFairBurst) → Int → Option (List TFairBurst)
  | 0, _, _ => none
  | K + 1, p3, p9 =>
    bif (decide (p9 < (↑a0.length : Int))) then
      bif inR p9 a0.length then
        bif (decide ((↑p3.length : Int) > 0)) then
          bif inR (IntKind.i64.wrap ((↑p3.length : Int) - 1)) p3.length then
            bif (bif true then (getR p3 (IntKind.i64.wrap ((↑p3.length : Int) - 1)).toNat).Who == getR a0 p9.toNat else false) then
              bif inR (IntKind.i64.wrap ((↑p3.length : Int) - 1)) p3.length then
                bif inR (IntKind.i64.wrap ((↑p3.length : Int) - 1)) p3.length then
                  F25_3 a0 K (p3.set (IntKind.i64.wrap ((↑p3.length : Int) - 1)).toNat (TFairBurst.mk (getR p3 (IntKind.i64.wrap ((↑p3.length : Int) - 1)).toNat).Who (IntKind.i64.wrap ((getR p3 (IntKind.i64.wrap ((↑p3.length : Int) - 1)).toNat).N + 1)))) (IntKind.i64.wrap (p9 + 1))
                else none
              else none
            else
              bif room (p3.length + ([(⟨getR a0 p9.toNat, 1⟩ : TFairBurst)] : List TFairBurst).length) 16 then
                F25_3 a0 K (p3 ++ [TFairBurst.mk (getR a0 p9.toNat) 1]) (IntKind.i64.wrap (p9 + 1))
              else none
          else none
        else
          bif room (p3.length + ([(⟨getR a0 p9.toNat, 1⟩ : TFairBurst)] : List TFairBurst).length) 16 then
            F25_3 a0 K (p3 ++ [TFairBurst.mk (getR a0 p9.toNat) 1]) (IntKind.i64.wrap (p9 + 1))
          else none
      else none
    else
      some p3
def F25 (K : Nat) (a0 : List Int) : Option (List TFairBurst) :=
  F25_3 a0 K [] 0
def H25_33N (fn : Func) (a0 : List Int) (p9 : Int) : VS := headS fn 3 [(3, .slice none 0 0), (7, (lst a0)), (8, (Value.int IntKind.i64 ((↑a0.length : Int)))), (9, .int .i64 p9)] []
def H25_33O (fn : Func) (a0 : List Int) (np3 : Nat) (p3 : List TFairBurst) (p9 : Int) : VS := headS fn 3 [(3, .slice (some ⟨0, 0, none⟩) np3 np3), (7, (lst a0)), (8, (Value.int IntKind.i64 ((↑a0.length : Int)))), (9, .int .i64 p9)] [ownB p3]
theorem l25 (a0 : List Int) : ∀ K : Nat, (∀ (p9 : Int), Lifts Try.prog 25 0 E25 (H25_33N Try.f25 a0 p9) (F25_3 a0 K [] p9)) ∧ (∀ (np3 : Nat) (p3 : List TFairBurst) (_ : np3 = p3.length) (p9 : Int), Lifts Try.prog 25 0 E25 (H25_33O Try.f25 a0 np3 p3 p9) (F25_3 a0 K p3 p9)) := by
  intro K
  induction K with
  | zero =>
    exact ⟨fun p9 => (by rw [F25_3]; exact L.no), fun np3 p3 ep3 p9 => (by rw [F25_3]; exact L.no)⟩
  | succ K ih =>
    obtain ⟨IH33N, IH33O⟩ := ih
    refine ⟨fun p9 => ?_, fun np3 p3 ep3 p9 => ?_⟩
    · rw [F25_3]
      exact
        L.br mixed 5 _ (by kernel_rfl)
          (fun h1 =>
          L.idx mixed 5 _ (rows a0) 1 IntKind.i64 _ (by kernel_rfl) (fun h2a h2b =>
          L.ld mixed 0 3 (rows a0) (p9.toNat * 1 + 0) (.int .i64 (getR a0 p9.toNat)) (by kernel_rfl) (load1_rows (i := p9.toNat) (d := 0) rfl (toNat_lt h2a h2b) (by kernel_rfl) (Nat.le_of_ble_eq_true (by kernel_rfl)) (by kernel_rfl)) <|
          L.push0 mixed 31 16 0 0 [(Value.int IntKind.i64 (getR a0 p9.toNat)), (Value.int IntKind.i64 1)] ([(⟨getR a0 p9.toNat, 1⟩ : TFairBurst)] : List TFairBurst) (by kernel_rfl) (Nat.le_of_ble_eq_true (by kernel_rfl)) (Nat.le_of_ble_eq_true (by kernel_rfl)) (by kernel_rfl) <|
          L.jumpG mixed 8 [3, 7, 8, 9] [.ownp 1] [rows [TFairBurst.mk (getR a0 p9.toNat) 1]] (by kernel_rfl) (by kernel_rfl) (by kernel_rfl) ⟨rows_pure _, trivial⟩ (by kernel_rfl) (by kernel_rfl) (IH33O ([TFairBurst.mk (getR a0 p9.toNat) 1].length) [TFairBurst.mk (getR a0 p9.toNat) 1] (by simp) (IntKind.i64.wrap (p9 + 1)))))
          (fun h1 =>
          L.frzNil mixed 6 2 (by kernel_rfl) <|
          L.ret _ mixed Try.func25 _ (by kernel_rfl) rfl)
    · subst ep3; rw [F25_3]
      exact
        L.br mixed 5 _ (by kernel_rfl)
          (fun h3 =>
          L.idx mixed 5 _ (rows a0) 1 IntKind.i64 _ (by kernel_rfl) (fun h4a h4b =>
          L.ld mixed 0 3 (rows a0) (p9.toNat * 1 + 0) (.int .i64 (getR a0 p9.toNat)) (by kernel_rfl) (load1_rows (i := p9.toNat) (d := 0) rfl (toNat_lt h4a h4b) (by kernel_rfl) (Nat.le_of_ble_eq_true (by kernel_rfl)) (by kernel_rfl)) <|
          L.gu mixed 14 _ (by kernel_rfl)
            (fun h5 =>
            L.oidx mixed 3 0 0 _ 2 IntKind.i64 _ (by kernel_rfl) (fun h6a h6b =>
            L.old1 mixed 1 1 0 (0 + (IntKind.i64.wrap ((↑p3.length : Int) - 1)).toNat * 2 + 0) (rows p3) (.int .i64 (getR p3 (IntKind.i64.wrap ((↑p3.length : Int) - 1)).toNat).Who) (by kernel_rfl) (rows_sub1 (i := (IntKind.i64.wrap ((↑p3.length : Int) - 1)).toNat) (d := 0) (by show 0 + (IntKind.i64.wrap ((↑p3.length : Int) - 1)).toNat * 2 + 0 = (IntKind.i64.wrap ((↑p3.length : Int) - 1)).toNat * 2 + 0; omega) (by have := (toNat_lt h6a h6b); simpa using this) (Nat.le_of_ble_eq_true (by kernel_rfl)) (by kernel_rfl)) <|
            L.br mixed 4 _ (by kernel_rfl)
              (fun h7 =>
              L.oidx mixed 5 0 0 _ 2 IntKind.i64 _ (by kernel_rfl) (fun h8a h8b =>
              L.old1 mixed 1 1 0 (0 + (IntKind.i64.wrap ((↑p3.length : Int) - 1)).toNat * 2 + 1) (rows p3) (.int .i64 (getR p3 (IntKind.i64.wrap ((↑p3.length : Int) - 1)).toNat).N) (by kernel_rfl) (rows_sub1 (i := (IntKind.i64.wrap ((↑p3.length : Int) - 1)).toNat) (d := 1) (by show 0 + (IntKind.i64.wrap ((↑p3.length : Int) - 1)).toNat * 2 + 1 = (IntKind.i64.wrap ((↑p3.length : Int) - 1)).toNat * 2 + 1; omega) (by have := (toNat_lt h8a h8b); simpa using this) (Nat.le_of_ble_eq_true (by kernel_rfl)) (by kernel_rfl)) <|
              L.oidx mixed 1 0 0 _ 2 IntKind.i64 _ (by kernel_rfl) (fun h9a h9b =>
              L.ost mixed 1 (Value.int IntKind.i64 (IntKind.i64.wrap ((getR p3 (IntKind.i64.wrap ((↑p3.length : Int) - 1)).toNat).N + 1))) 1 0 (0 + (IntKind.i64.wrap ((↑p3.length : Int) - 1)).toNat * 2 + 1) (rows p3) (rows (p3.set (IntKind.i64.wrap ((↑p3.length : Int) - 1)).toNat ((⟨(getR p3 (IntKind.i64.wrap ((↑p3.length : Int) - 1)).toNat).Who, IntKind.i64.wrap ((getR p3 (IntKind.i64.wrap ((↑p3.length : Int) - 1)).toNat).N + 1)⟩ : TFairBurst)))) 2 (by kernel_rfl) rfl rfl (rows_fitN (i := (IntKind.i64.wrap ((↑p3.length : Int) - 1)).toNat) (d := 1) (by show 0 + (IntKind.i64.wrap ((↑p3.length : Int) - 1)).toNat * 2 + 1 = (IntKind.i64.wrap ((↑p3.length : Int) - 1)).toNat * 2 + 1; omega) (by have := (toNat_lt h9a h9b); simpa using this) (Nat.le_of_ble_eq_true (by kernel_rfl))) (rows_setF _ (IntKind.i64.wrap ((↑p3.length : Int) - 1)).toNat 1 _ _ _ (by show 0 + (IntKind.i64.wrap ((↑p3.length : Int) - 1)).toNat * 2 + 1 = (IntKind.i64.wrap ((↑p3.length : Int) - 1)).toNat * 2 + 1; omega) (by have := (toNat_lt h9a h9b); simpa using this) (Nat.le_of_ble_eq_true (by kernel_rfl)) (by kernel_rfl)) <|
              L.jump mixed 7 [3, 7, 8, 9] (by kernel_rfl) (IH33O p3.length (p3.set (IntKind.i64.wrap ((↑p3.length : Int) - 1)).toNat (TFairBurst.mk (getR p3 (IntKind.i64.wrap ((↑p3.length : Int) - 1)).toNat).Who (IntKind.i64.wrap ((getR p3 (IntKind.i64.wrap ((↑p3.length : Int) - 1)).toNat).N + 1)))) (by simp) (IntKind.i64.wrap (p9 + 1))))))
              (fun h7 =>
              L.app mixed 6 0 16 1 0 p3.length [(Value.int IntKind.i64 (getR a0 p9.toNat)), (Value.int IntKind.i64 1)] p3 ([(⟨getR a0 p9.toNat, 1⟩ : TFairBurst)] : List TFairBurst) (by simp) (by kernel_rfl) (by kernel_rfl) (Nat.le_of_ble_eq_true (by kernel_rfl)) (Nat.le_of_ble_eq_true (by kernel_rfl)) (by kernel_rfl) <|
              L.jumpG mixed 8 [3, 7, 8, 9] [.ownp 2] [rows (p3 ++ [TFairBurst.mk (getR a0 p9.toNat) 1])] (by kernel_rfl) (by kernel_rfl) (by kernel_rfl) ⟨rows_pure _, trivial⟩ (by kernel_rfl) (by kernel_rfl) (IH33O ((p3 ++ [TFairBurst.mk (getR a0 p9.toNat) 1]).length) (p3 ++ [TFairBurst.mk (getR a0 p9.toNat) 1]) (by simp) (IntKind.i64.wrap (p9 + 1))))))
            (fun h5 =>
            L.app mixed 17 0 16 1 0 p3.length [(Value.int IntKind.i64 (getR a0 p9.toNat)), (Value.int IntKind.i64 1)] p3 ([(⟨getR a0 p9.toNat, 1⟩ : TFairBurst)] : List TFairBurst) (by simp) (by kernel_rfl) (by kernel_rfl) (Nat.le_of_ble_eq_true (by kernel_rfl)) (Nat.le_of_ble_eq_true (by kernel_rfl)) (by kernel_rfl) <|
            L.jumpG mixed 8 [3, 7, 8, 9] [.ownp 2] [rows (p3 ++ [TFairBurst.mk (getR a0 p9.toNat) 1])] (by kernel_rfl) (by kernel_rfl) (by kernel_rfl) ⟨rows_pure _, trivial⟩ (by kernel_rfl) (by kernel_rfl) (IH33O ((p3 ++ [TFairBurst.mk (getR a0 p9.toNat) 1]).length) (p3 ++ [TFairBurst.mk (getR a0 p9.toNat) 1]) (by simp) (IntKind.i64.wrap (p9 + 1))))))
          (fun h3 =>
          L.frzO mixed 6 2 0 p3.length p3 (by simp) (by kernel_rfl) (by kernel_rfl) rfl <|
          L.ret _ mixed Try.func25 _ (by kernel_rfl) rfl)
theorem c25 (K : Nat) (a0 : List Int) : ∀ r, F25 K a0 = some r → Con Try.prog 25 [lst a0] (E25 r) := by
  obtain ⟨IH33N, IH33O⟩ := l25 a0 K
  refine Con.lift Try.func25 (by kernel_rfl) rfl (fun _ => rfl) ?_
  unfold F25
  exact
    L.jump mixed 17 [3, 7, 8, 9] (by kernel_rfl) (IH33N 0)

end Go.Proofs.Ytjfodgjgpeiaaaa.Lf
