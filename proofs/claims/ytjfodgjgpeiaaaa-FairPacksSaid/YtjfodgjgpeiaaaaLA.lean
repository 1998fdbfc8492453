/- Lifted. -/
import Derived.Test.YtjfodgjgpeiaaaaTy
namespace Go.Proofs.Ytjfodgjgpeiaaaa.Lf
open Go Go.Dt Go.Proofs
set_option linter.unusedVariables false

/-! ### 20 -/
abbrev E20 : Bool → Value := fun r => .bool r
def F20_2 (a0 : List Int) (a1 : Int) : Nat → Int → Option Bool
  | 0, _ => none
  | K + 1, p5 =>
    bif (decide (p5 < (↑a0.length : Int))) then
      bif inR p5 a0.length then
        bif (decide (getR a0 p5.toNat < 0)) then
          some false
        else
          bif inR p5 a0.length then
            bif (bif false then true else decide (getR a0 p5.toNat ≥ a1)) then
              some false
            else
              F20_2 a0 a1 K (IntKind.i64.wrap (p5 + 1))
          else none
      else none
    else
      some true
def F20 (K : Nat) (a0 : List Int) (a1 : Int) : Option Bool :=
  F20_2 a0 a1 K 0
def H20_2 (fn : Func) (a0 : List Int) (a1 : Int) (p5 : Int) : VS := headS fn 2 [(0, (lst a0)), (1, (Value.int IntKind.i64 a1)), (5, .int .i64 p5)] []
theorem l20 (a0 : List Int) (a1 : Int) : ∀ K : Nat, (∀ (p5 : Int), Lifts Try.prog 20 0 E20 (H20_2 Try.f20 a0 a1 p5) (F20_2 a0 a1 K p5)) := by
  intro K
  induction K with
  | zero =>
    exact fun p5 => (by rw [F20_2]; exact L.no)
  | succ K ih =>
    have IH2 := ih
    refine fun p5 => ?_
    · rw [F20_2]
      exact
        L.br mixed 8 _ (by kernel_rfl)
          (fun h1 =>
          L.idx mixed 7 _ (rows a0) 1 IntKind.i64 _ (by kernel_rfl) (fun h2a h2b =>
          L.ld mixed 0 3 (rows a0) (p5.toNat * 1 + 0) (.int .i64 (getR a0 p5.toNat)) (by kernel_rfl) (load1_rows (i := p5.toNat) (d := 0) rfl (toNat_lt h2a h2b) (by kernel_rfl) (by decide) (by kernel_rfl)) <|
          L.gu mixed 2 _ (by kernel_rfl)
            (fun h3 =>
            L.ret _ mixed Try.func20 _ (by kernel_rfl) rfl)
            (fun h3 =>
            L.idx mixed 2 _ (rows a0) 1 IntKind.i64 _ (by kernel_rfl) (fun h4a h4b =>
            L.ld mixed 0 3 (rows a0) (p5.toNat * 1 + 0) (.int .i64 (getR a0 p5.toNat)) (by kernel_rfl) (load1_rows (i := p5.toNat) (d := 0) rfl (toNat_lt h4a h4b) (by kernel_rfl) (by decide) (by kernel_rfl)) <|
            L.br mixed 4 _ (by kernel_rfl)
              (fun h5 =>
              L.ret _ mixed Try.func20 _ (by kernel_rfl) rfl)
              (fun h5 =>
              L.jump mixed 8 [0, 1, 5] (by kernel_rfl) (IH2 (IntKind.i64.wrap (p5 + 1))))))))
          (fun h1 =>
          L.ret _ mixed Try.func20 _ (by kernel_rfl) rfl)
theorem c20 (K : Nat) (a0 : List Int) (a1 : Int) : ∀ r, F20 K a0 a1 = some r → Con Try.prog 20 [lst a0, .int .i64 a1] (E20 r) := by
  have IH2 := l20 a0 a1 K
  refine Con.lift Try.func20 (by kernel_rfl) rfl (fun _ => rfl) ?_
  unfold F20
  exact
    L.jump mixed 11 [0, 1, 5] (by kernel_rfl) (IH2 0)

/-! ### 24 -/
abbrev E24 : Int → Value := fun r => .int .i64 r
def F24_3 (a0 : List TEvent) (a1 : Int) (a2 : Int) : Nat → Int → Int → Option Int
  | 0, _, _ => none
  | K + 1, p7, p8 =>
    bif (decide (p8 < (↑a0.length : Int))) then
      bif inR p8 a0.length then
        bif ((getR a0 p8.toNat).Who == a1) then
          bif inR p8 a0.length then
            bif (bif true then (getR a0 p8.toNat).Kind == a2 else false) then
              F24_3 a0 a1 a2 K (IntKind.i64.wrap (p7 + 1)) (IntKind.i64.wrap (p8 + 1))
            else
              F24_3 a0 a1 a2 K p7 (IntKind.i64.wrap (p8 + 1))
          else none
        else
          F24_3 a0 a1 a2 K p7 (IntKind.i64.wrap (p8 + 1))
      else none
    else
      some p7
def F24 (K : Nat) (a0 : List TEvent) (a1 : Int) (a2 : Int) : Option Int :=
  F24_3 a0 a1 a2 K 0 0
def H24_3 (fn : Func) (a0 : List TEvent) (a1 : Int) (a2 : Int) (p7 : Int) (p8 : Int) : VS := headS fn 3 [(0, (lst a0)), (1, (Value.int IntKind.i64 a1)), (2, (Value.int IntKind.i64 a2)), (7, .int .i64 p7), (8, .int .i64 p8)] []
theorem l24 (a0 : List TEvent) (a1 : Int) (a2 : Int) : ∀ K : Nat, (∀ (p7 : Int) (p8 : Int), Lifts Try.prog 24 0 E24 (H24_3 Try.f24 a0 a1 a2 p7 p8) (F24_3 a0 a1 a2 K p7 p8)) := by
  intro K
  induction K with
  | zero =>
    exact fun p7 p8 => (by rw [F24_3]; exact L.no)
  | succ K ih =>
    have IH3 := ih
    refine fun p7 p8 => ?_
    · rw [F24_3]
      exact
        L.br mixed 8 _ (by kernel_rfl)
          (fun h1 =>
          L.idx mixed 7 _ (rows a0) 4 IntKind.i64 _ (by kernel_rfl) (fun h2a h2b =>
          L.ld mixed 1 3 (rows a0) (p8.toNat * 4 + 0) (.int .i64 (getR a0 p8.toNat).Who) (by kernel_rfl) (load1_rows (i := p8.toNat) (d := 0) rfl (toNat_lt h2a h2b) (by kernel_rfl) (by decide) (by kernel_rfl)) <|
          L.gu mixed 3 _ (by kernel_rfl)
            (fun h3 =>
            L.idx mixed 2 _ (rows a0) 4 IntKind.i64 _ (by kernel_rfl) (fun h4a h4b =>
            L.ld mixed 1 3 (rows a0) (p8.toNat * 4 + 1) (.int .i64 (getR a0 p8.toNat).Kind) (by kernel_rfl) (load1_rows (i := p8.toNat) (d := 1) rfl (toNat_lt h4a h4b) (by kernel_rfl) (by decide) (by kernel_rfl)) <|
            L.br mixed 4 _ (by kernel_rfl)
              (fun h5 =>
              L.jump mixed 12 [0, 1, 2, 7, 8] (by kernel_rfl) (IH3 (IntKind.i64.wrap (p7 + 1)) (IntKind.i64.wrap (p8 + 1))))
              (fun h5 =>
              L.jump mixed 8 [0, 1, 2, 7, 8] (by kernel_rfl) (IH3 p7 (IntKind.i64.wrap (p8 + 1))))))
            (fun h3 =>
            L.jump mixed 18 [0, 1, 2, 7, 8] (by kernel_rfl) (IH3 p7 (IntKind.i64.wrap (p8 + 1))))))
          (fun h1 =>
          L.ret _ mixed Try.func24 _ (by kernel_rfl) rfl)
theorem c24 (K : Nat) (a0 : List TEvent) (a1 : Int) (a2 : Int) : ∀ r, F24 K a0 a1 a2 = some r → Con Try.prog 24 [lst a0, .int .i64 a1, .int .i64 a2] (E24 r) := by
  have IH3 := l24 a0 a1 a2 K
  refine Con.lift Try.func24 (by kernel_rfl) rfl (fun _ => rfl) ?_
  unfold F24
  exact
    L.jump mixed 15 [0, 1, 2, 7, 8] (by kernel_rfl) (IH3 0 0)

/-! ### 27 -/
abbrev E27 : Bool → Value := fun r => .bool r
def F27_4 (a0 : List Int) (a1 : List Int) : Nat → Int → Option Bool
  | 0, _ => none
  | K + 1, p5 =>
    bif (decide (p5 < (↑a0.length : Int))) then
      bif inR p5 a0.length then
        bif inR p5 a1.length then
          bif (getR a0 p5.toNat != getR a1 p5.toNat) then
            some false
          else
            F27_4 a0 a1 K (IntKind.i64.wrap (p5 + 1))
        else none
      else none
    else
      some true
def F27 (K : Nat) (a0 : List Int) (a1 : List Int) : Option Bool :=
  bif ((↑a0.length : Int) != (↑a1.length : Int)) then
    some false
  else
    F27_4 a0 a1 K 0
def H27_4 (fn : Func) (a0 : List Int) (a1 : List Int) (p5 : Int) : VS := headS fn 4 [(0, (lst a0)), (1, (lst a1)), (5, .int .i64 p5)] []
theorem l27 (a0 : List Int) (a1 : List Int) : ∀ K : Nat, (∀ (p5 : Int), Lifts Try.prog 27 0 E27 (H27_4 Try.f27 a0 a1 p5) (F27_4 a0 a1 K p5)) := by
  intro K
  induction K with
  | zero =>
    exact fun p5 => (by rw [F27_4]; exact L.no)
  | succ K ih =>
    have IH4 := ih
    refine fun p5 => ?_
    · rw [F27_4]
      exact
        L.br mixed 8 _ (by kernel_rfl)
          (fun h2 =>
          L.idx mixed 7 _ (rows a0) 1 IntKind.i64 _ (by kernel_rfl) (fun h3a h3b =>
          L.ld mixed 0 3 (rows a0) (p5.toNat * 1 + 0) (.int .i64 (getR a0 p5.toNat)) (by kernel_rfl) (load1_rows (i := p5.toNat) (d := 0) rfl (toNat_lt h3a h3b) (by kernel_rfl) (by decide) (by kernel_rfl)) <|
          L.idx mixed 2 _ (rows a1) 1 IntKind.i64 _ (by kernel_rfl) (fun h4a h4b =>
          L.ld mixed 0 3 (rows a1) (p5.toNat * 1 + 0) (.int .i64 (getR a1 p5.toNat)) (by kernel_rfl) (load1_rows (i := p5.toNat) (d := 0) rfl (toNat_lt h4a h4b) (by kernel_rfl) (by decide) (by kernel_rfl)) <|
          L.br mixed 2 _ (by kernel_rfl)
            (fun h5 =>
            L.ret _ mixed Try.func27 _ (by kernel_rfl) rfl)
            (fun h5 =>
            L.jump mixed 8 [0, 1, 5] (by kernel_rfl) (IH4 (IntKind.i64.wrap (p5 + 1)))))))
          (fun h2 =>
          L.ret _ mixed Try.func27 _ (by kernel_rfl) rfl)
theorem c27 (K : Nat) (a0 : List Int) (a1 : List Int) : ∀ r, F27 K a0 a1 = some r → Con Try.prog 27 [lst a0, lst a1] (E27 r) := by
  have IH4 := l27 a0 a1 K
  refine Con.lift Try.func27 (by kernel_rfl) rfl (fun _ => rfl) ?_
  unfold F27
  exact
    L.br mixed 13 _ (by kernel_rfl)
      (fun h1 =>
      L.ret _ mixed Try.func27 _ (by kernel_rfl) rfl)
      (fun h1 =>
      L.jump mixed 8 [0, 1, 5] (by kernel_rfl) (IH4 0))

/-! ### 80 -/
abbrev E80 : Bool → Value := fun r => .bool r
def F80_2 (a0 : List TEvent) (a1 : Int) : Nat → Int → Option Bool
  | 0, _ => none
  | K + 1, p5 =>
    bif (decide (p5 < (↑a0.length : Int))) then
      bif inR p5 a0.length then
        bif ((getR a0 p5.toNat).Kind == 5) then
          bif inR p5 a0.length then
            bif (bif true then (getR a0 p5.toNat).Who == a1 else false) then
              some true
            else
              F80_2 a0 a1 K (IntKind.i64.wrap (p5 + 1))
          else none
        else
          F80_2 a0 a1 K (IntKind.i64.wrap (p5 + 1))
      else none
    else
      some false
def F80 (K : Nat) (a0 : List TEvent) (a1 : Int) : Option Bool :=
  F80_2 a0 a1 K 0
def H80_2 (fn : Func) (a0 : List TEvent) (a1 : Int) (p5 : Int) : VS := headS fn 2 [(0, (lst a0)), (1, (Value.int IntKind.i64 a1)), (5, .int .i64 p5)] []
theorem l80 (a0 : List TEvent) (a1 : Int) : ∀ K : Nat, (∀ (p5 : Int), Lifts Try.prog 80 0 E80 (H80_2 Try.f80 a0 a1 p5) (F80_2 a0 a1 K p5)) := by
  intro K
  induction K with
  | zero =>
    exact fun p5 => (by rw [F80_2]; exact L.no)
  | succ K ih =>
    have IH2 := ih
    refine fun p5 => ?_
    · rw [F80_2]
      exact
        L.br mixed 8 _ (by kernel_rfl)
          (fun h1 =>
          L.idx mixed 7 _ (rows a0) 4 IntKind.i64 _ (by kernel_rfl) (fun h2a h2b =>
          L.ld mixed 1 3 (rows a0) (p5.toNat * 4 + 1) (.int .i64 (getR a0 p5.toNat).Kind) (by kernel_rfl) (load1_rows (i := p5.toNat) (d := 1) rfl (toNat_lt h2a h2b) (by kernel_rfl) (by decide) (by kernel_rfl)) <|
          L.gu mixed 2 _ (by kernel_rfl)
            (fun h3 =>
            L.idx mixed 2 _ (rows a0) 4 IntKind.i64 _ (by kernel_rfl) (fun h4a h4b =>
            L.ld mixed 1 3 (rows a0) (p5.toNat * 4 + 0) (.int .i64 (getR a0 p5.toNat).Who) (by kernel_rfl) (load1_rows (i := p5.toNat) (d := 0) rfl (toNat_lt h4a h4b) (by kernel_rfl) (by decide) (by kernel_rfl)) <|
            L.br mixed 4 _ (by kernel_rfl)
              (fun h5 =>
              L.ret _ mixed Try.func80 _ (by kernel_rfl) rfl)
              (fun h5 =>
              L.jump mixed 8 [0, 1, 5] (by kernel_rfl) (IH2 (IntKind.i64.wrap (p5 + 1))))))
            (fun h3 =>
            L.jump mixed 18 [0, 1, 5] (by kernel_rfl) (IH2 (IntKind.i64.wrap (p5 + 1))))))
          (fun h1 =>
          L.ret _ mixed Try.func80 _ (by kernel_rfl) rfl)
theorem c80 (K : Nat) (a0 : List TEvent) (a1 : Int) : ∀ r, F80 K a0 a1 = some r → Con Try.prog 80 [lst a0, .int .i64 a1] (E80 r) := by
  have IH2 := l80 a0 a1 K
  refine Con.lift Try.func80 (by kernel_rfl) rfl (fun _ => rfl) ?_
  unfold F80
  exact
    L.jump mixed 11 [0, 1, 5] (by kernel_rfl) (IH2 0)

/-! ### 57 -/
abbrev E57 : Int → Value := fun r => .int .i64 r
def F57 (K : Nat) (a0 : Int) (a1 : Int) : Option Int :=
  bif (decide (a0 > a1)) then
    some a0
  else
    some a1
theorem c57 (K : Nat) (a0 : Int) (a1 : Int) : ∀ r, F57 K a0 a1 = some r → Con Try.prog 57 [.int .i64 a0, .int .i64 a1] (E57 r) := by
  refine Con.lift Try.func57 (by kernel_rfl) rfl (fun _ => rfl) ?_
  unfold F57
  exact
    L.br mixed 11 _ (by kernel_rfl)
      (fun h1 =>
      L.ret _ mixed Try.func57 _ (by kernel_rfl) rfl)
      (fun h1 =>
      L.ret _ mixed Try.func57 _ (by kernel_rfl) rfl)

/-! ### 56 -/
abbrev E56 : Int → Value := fun r => .int .i64 r
def F56 (K : Nat) (a0 : Int) (a1 : Int) : Option Int :=
  bif (decide (a0 < a1)) then
    some a0
  else
    some a1
theorem c56 (K : Nat) (a0 : Int) (a1 : Int) : ∀ r, F56 K a0 a1 = some r → Con Try.prog 56 [.int .i64 a0, .int .i64 a1] (E56 r) := by
  refine Con.lift Try.func56 (by kernel_rfl) rfl (fun _ => rfl) ?_
  unfold F56
  exact
    L.br mixed 11 _ (by kernel_rfl)
      (fun h1 =>
      L.ret _ mixed Try.func56 _ (by kernel_rfl) rfl)
      (fun h1 =>
      L.ret _ mixed Try.func56 _ (by kernel_rfl) rfl)

end Go.Proofs.Ytjfodgjgpeiaaaa.Lf
