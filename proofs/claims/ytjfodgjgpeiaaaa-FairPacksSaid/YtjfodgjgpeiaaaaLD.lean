/- Lifted. -/
import Derived.Test.YtjfodgjgpeiaaaaKR
namespace Go.Proofs.Ytjfodgjgpeiaaaa.Lf
open Go Go.Dt Go.Proofs
set_option linter.unusedVariables false

/-! ### 86 -/
abbrev E86 : Int × Int → Value := fun r => .tuple ⟨[.int .u64 r.1, .int .u64 r.2]⟩
def F86 (K : Nat) (a0 : Int) (a1 : Int) : Option (Int × Int) :=
  (F72 K a0 a1).bind fun u1 =>
  some ((u1.fst, u1.snd))
theorem c86 (K : Nat) (a0 : Int) (a1 : Int) : ∀ r, F86 K a0 a1 = some r → Con Try.prog 86 [.int .u64 a0, .int .u64 a1] (E86 r) := by
  refine Con.lift Try.func86 (by kernel_rfl) rfl (fun _ => rfl) ?_
  unfold F86
  exact
    L.callO mixed (fun u1 : Int × Int => .tuple ⟨[.int .u64 u1.1, .int .u64 u1.2]⟩) (k72 K a0 a1) (by kernel_rfl) (fun u1 hu1 =>
    L.ret _ mixed Try.func86 _ (by kernel_rfl) rfl)
/-! ### 63 -/
abbrev E63 : List Int → Value := fun r => lst r
def F63_8 (a0 : List Int) (a1 : Int) : Nat → (List Int) → Int → Option (List Int)
  | 0, _, _ => none
  | K + 1, p7, p8 =>
    bif (decide (p8 < (↑p7.length : Int))) then
      bif cutOk p7.length ((some p8).getD 0) ((Option.none : Option Int).getD p7.length) then
        bif cutOk p7.length ((Option.none : Option Int).getD 0) ((some p8).getD p7.length) then
          bif Nat.ble (p8.toNat + (p7.length - p8.toNat)) p7.length && Nat.ble (0 + (p8.toNat - 0)) p7.length then
            F63_8 a0 a1 K (cpL p7 p8.toNat (p7.length - p8.toNat) (List.take (p8.toNat - 0) (List.drop 0 p7))) (IntKind.i64.wrap (p8 + (↑((List.take (p8.toNat - 0) (List.drop 0 p7)).length.min (p7.length - p8.toNat)) : Int)))
          else none
        else none
      else none
    else
      some p7
def F63 (K : Nat) (a0 : List Int) (a1 : Int) : Option (List Int) :=
  bif (decide (a1 < 0)) then
    none
  else
    (F86 K (IntKind.u64.wrap (↑a0.length : Int)) (IntKind.u64.wrap a1)).bind fun u2 =>
    bif (decide (u2.fst > 0)) then
      none
    else
      bif (bif false then true else decide (u2.snd > 9223372036854775807)) then
        none
      else
        bif mkOk (IntKind.i64.wrap u2.snd) (IntKind.i64.wrap u2.snd) 8 then
          bif Nat.ble (0 + ((List.replicate (IntKind.i64.wrap u2.snd).toNat (0 : Int)).length)) (List.replicate (IntKind.i64.wrap u2.snd).toNat (0 : Int)).length then
            F63_8 a0 a1 K (cpL (List.replicate (IntKind.i64.wrap u2.snd).toNat (0 : Int)) 0 (List.replicate (IntKind.i64.wrap u2.snd).toNat (0 : Int)).length a0) ((↑(a0.length.min (List.replicate (IntKind.i64.wrap u2.snd).toNat (0 : Int)).length) : Int))
          else none
        else none
def H63_87O (fn : Func) (a0 : List Int) (a1 : Int) (np7 : Nat) (p7 : List Int) (p8 : Int) : VS := headS fn 8 [(7, .slice (some ⟨0, 0, none⟩) np7 np7), (8, .int .i64 p8)] [ownB p7]
theorem l63 (a0 : List Int) (a1 : Int) : ∀ K : Nat, (∀ (np7 : Nat) (p7 : List Int) (_ : np7 = p7.length) (p8 : Int), Lifts Try.prog 63 0 E63 (H63_87O Try.f63 a0 a1 np7 p7 p8) (F63_8 a0 a1 K p7 p8)) := by
  intro K
  induction K with
  | zero =>
    exact fun np7 p7 ep7 p8 => (by rw [F63_8]; exact L.no)
  | succ K ih =>
    have IH87O := ih
    refine fun np7 p7 ep7 p8 => ?_
    · subst ep7; rw [F63_8]
      exact
        L.br mixed 8 _ (by kernel_rfl)
          (fun h6 =>
          L.osl mixed 6 0 0 p7.length p7.length 1 (some p8) (Option.none : Option Int) (by kernel_rfl) <|
          L.osl mixed 2 0 0 p7.length p7.length 1 (Option.none : Option Int) (some p8) (by kernel_rfl) <|
          L.copyO mixed 0 0 (0 + p8.toNat * 1) (p7.length - p8.toNat) p8.toNat 0 0 0 (p8.toNat - 0) p7 p7 (by show 0 + p8.toNat * 1 = p8.toNat * 1; omega) (by show 0 = 0 * 1; omega) (by kernel_rfl) <| fun h7l =>
          L.jump mixed 5 [7, 8] (by kernel_rfl) (IH87O p7.length (cpL p7 p8.toNat (p7.length - p8.toNat) (List.take (p8.toNat - 0) (List.drop 0 p7))) (by first | rfl | exact Eq.symm (by assumption) | (simp; done) | (simp [*]; done)) (IntKind.i64.wrap (p8 + (↑((List.take (p8.toNat - 0) (List.drop 0 p7)).length.min (p7.length - p8.toNat)) : Int)))))
          (fun h6 =>
          L.frzO mixed 6 4 0 p7.length p7 (by first | rfl | exact Eq.symm (by assumption) | (simp; done) | (simp [*]; done)) (by kernel_rfl) (by kernel_rfl) (by kernel_rfl) <|
          L.ret _ mixed Try.func63 _ (by kernel_rfl) rfl)
theorem c63 (K : Nat) (a0 : List Int) (a1 : Int) : ∀ r, F63 K a0 a1 = some r → Con Try.prog 63 [lst a0, .int .i64 a1] (E63 r) := by
  have IH87O := l63 a0 a1 K
  refine Con.lift Try.func63 (by kernel_rfl) rfl (fun _ => rfl) ?_
  unfold F63
  exact
    L.br mixed 10 _ (by kernel_rfl)
      (fun h1 =>
      L.no)
      (fun h1 =>
      L.callO mixed (fun u2 : Int × Int => .tuple ⟨[.int .u64 u2.1, .int .u64 u2.2]⟩) (c86 K (IntKind.u64.wrap (↑a0.length : Int)) (IntKind.u64.wrap a1)) (by kernel_rfl) (fun u2 hu2 =>
      L.gu mixed 12 _ (by kernel_rfl)
        (fun h3 =>
        L.no)
        (fun h3 =>
        L.br mixed 4 _ (by kernel_rfl)
          (fun h4 =>
          L.no)
          (fun h4 =>
          L.make mixed 5 _ _ (0 : Int) rfl (by kernel_rfl) <|
          L.copyF mixed 6 0 0 ((List.replicate (IntKind.i64.wrap u2.snd).toNat (0 : Int)).length) 0 (List.replicate (IntKind.i64.wrap u2.snd).toNat (0 : Int)) a0 (by show 0 = 0 * 1; omega) (by kernel_rfl) <| fun h5l =>
          L.jump mixed 5 [7, 8] (by kernel_rfl) (IH87O ((List.replicate (IntKind.i64.wrap u2.snd).toNat (0 : Int)).length) (cpL (List.replicate (IntKind.i64.wrap u2.snd).toNat (0 : Int)) 0 (List.replicate (IntKind.i64.wrap u2.snd).toNat (0 : Int)).length a0) (by first | rfl | exact Eq.symm (by assumption) | (simp; done) | (simp [*]; done)) ((↑(a0.length.min (List.replicate (IntKind.i64.wrap u2.snd).toNat (0 : Int)).length) : Int)))))))
/-! ### 26 -/
abbrev E26 : List Int × Int → Value := fun r => .tuple ⟨[lst r.1, .int .i64 r.2]⟩
def F26_3 (a0 : List TFairBurst) : Nat → (List Int) → Int → Option (List Int × Int)
  | 0, _, _ => none
  | K + 1, p4, p9 =>
    bif (decide (p9 < (↑a0.length : Int))) then
      bif inR p9 a0.length then
        bif (decide ((getR a0 p9.toNat).N < 0)) then
          some ((([] : List Int), 2))
        else
          bif (decide ((getR a0 p9.toNat).N > IntKind.i64.wrap (65536 - (↑p4.length : Int)))) then
            some ((([] : List Int), 4))
          else
            (F63 K [(getR a0 p9.toNat).Who] ((getR a0 p9.toNat).N)).bind fun u11 =>
            bif List.isEmpty u11 then
              F26_3 a0 K p4 (IntKind.i64.wrap (p9 + 1))
            else bif room (p4.length + u11.length) 8 then
              F26_3 a0 K (p4 ++ u11) (IntKind.i64.wrap (p9 + 1))
            else none
      else none
    else
      some ((p4, 0))
def F26 (K : Nat) (a0 : List TFairBurst) : Option (List Int × Int) :=
  F26_3 a0 K [] 0
def H26_34N (fn : Func) (a0 : List TFairBurst) (p9 : Int) : VS := headS fn 3 [(4, .slice none 0 0), (7, (lst a0)), (8, (Value.int IntKind.i64 ((↑a0.length : Int)))), (9, .int .i64 p9)] []
def H26_34O (fn : Func) (a0 : List TFairBurst) (np4 : Nat) (p4 : List Int) (p9 : Int) : VS := headS fn 3 [(4, .slice (some ⟨0, 0, none⟩) np4 np4), (7, (lst a0)), (8, (Value.int IntKind.i64 ((↑a0.length : Int)))), (9, .int .i64 p9)] [ownB p4]
theorem l26 (a0 : List TFairBurst) : ∀ K : Nat, (∀ (p9 : Int), Lifts Try.prog 26 0 E26 (H26_34N Try.f26 a0 p9) (F26_3 a0 K [] p9)) ∧ (∀ (np4 : Nat) (p4 : List Int) (_ : np4 = p4.length) (p9 : Int), Lifts Try.prog 26 0 E26 (H26_34O Try.f26 a0 np4 p4 p9) (F26_3 a0 K p4 p9)) := by
  intro K
  induction K with
  | zero =>
    exact ⟨fun p9 => (by rw [F26_3]; exact L.no), fun np4 p4 ep4 p9 => (by rw [F26_3]; exact L.no)⟩
  | succ K ih =>
    obtain ⟨IH34N, IH34O⟩ := ih
    refine ⟨fun p9 => ?_, fun np4 p4 ep4 p9 => ?_⟩
    · rw [F26_3]
      exact
        L.br mixed 5 _ (by kernel_rfl)
          (fun h1 =>
          L.idx mixed 5 _ (rows a0) 2 IntKind.i64 _ (by kernel_rfl) (fun h2a h2b =>
          L.ld mixed 0 48 (rows a0) (p9.toNat * 2 + 0) (.agg ⟨[.int .i64 (getR a0 p9.toNat).Who, .int .i64 (getR a0 p9.toNat).N]⟩) (by kernel_rfl) (loadN_rows (i := p9.toNat) (d := 0) (k := 2) rfl (toNat_lt h2a h2b) (by kernel_rfl) (by kernel_rfl) (Nat.le_of_ble_eq_true (by kernel_rfl)) (by kernel_rfl)) <|
          L.br mixed 12 _ (by kernel_rfl)
            (fun h3 =>
            L.frzNil mixed 5 2 (by kernel_rfl) <|
            L.ret _ mixed Try.func26 _ (by kernel_rfl) rfl)
            (fun h3 =>
            L.br mixed 10 _ (by kernel_rfl)
              (fun h4 =>
              L.frzNil mixed 5 2 (by kernel_rfl) <|
              L.ret _ mixed Try.func26 _ (by kernel_rfl) rfl)
              (fun h4 =>
              L.lit mixed 6 (([(getR a0 p9.toNat).Who] : List Int)) (by kernel_rfl) <|
              L.callO mixed (fun u5 : List Int => lst u5) (c63 K [(getR a0 p9.toNat).Who] ((getR a0 p9.toNat).N)) (by kernel_rfl) (fun u5 hu5 =>
              L.catN (α := Int) mixed 0 8 u5 (by kernel_rfl)
                (fun h6 =>
                L.jumpG mixed 8 [4, 7, 8, 9] [] [] (by kernel_rfl) (by kernel_rfl) (by kernel_rfl) trivial (by kernel_rfl) (by kernel_rfl) (IH34N (IntKind.i64.wrap (p9 + 1))))
                (fun h6 =>
                L.jumpG mixed 8 [4, 7, 8, 9] [.ownp 2] [rows u5] (by kernel_rfl) (by kernel_rfl) (by kernel_rfl) ⟨rows_pure _, trivial⟩ (by kernel_rfl) (by kernel_rfl) (IH34O u5.length u5 (by first | rfl | exact Eq.symm (by assumption) | (simp; done) | (simp [*]; done)) (IntKind.i64.wrap (p9 + 1)))))))))
          (fun h1 =>
          L.frzNil mixed 7 2 (by kernel_rfl) <|
          L.ret _ mixed Try.func26 _ (by kernel_rfl) rfl)
    · subst ep4; rw [F26_3]
      exact
        L.br mixed 5 _ (by kernel_rfl)
          (fun h7 =>
          L.idx mixed 5 _ (rows a0) 2 IntKind.i64 _ (by kernel_rfl) (fun h8a h8b =>
          L.ld mixed 0 48 (rows a0) (p9.toNat * 2 + 0) (.agg ⟨[.int .i64 (getR a0 p9.toNat).Who, .int .i64 (getR a0 p9.toNat).N]⟩) (by kernel_rfl) (loadN_rows (i := p9.toNat) (d := 0) (k := 2) rfl (toNat_lt h8a h8b) (by kernel_rfl) (by kernel_rfl) (Nat.le_of_ble_eq_true (by kernel_rfl)) (by kernel_rfl)) <|
          L.br mixed 12 _ (by kernel_rfl)
            (fun h9 =>
            L.frzNil mixed 5 2 (by kernel_rfl) <|
            L.ret _ mixed Try.func26 _ (by kernel_rfl) rfl)
            (fun h9 =>
            L.br mixed 10 _ (by kernel_rfl)
              (fun h10 =>
              L.frzNil mixed 5 2 (by kernel_rfl) <|
              L.ret _ mixed Try.func26 _ (by kernel_rfl) rfl)
              (fun h10 =>
              L.lit mixed 6 (([(getR a0 p9.toNat).Who] : List Int)) (by kernel_rfl) <|
              L.callO mixed (fun u11 : List Int => lst u11) (c63 K [(getR a0 p9.toNat).Who] ((getR a0 p9.toNat).N)) (by kernel_rfl) (fun u11 hu11 =>
              L.catO (α := Int) mixed 0 0 8 p4.length p4 u11 (by first | rfl | exact Eq.symm (by assumption) | (simp; done) | (simp [*]; done)) (by kernel_rfl) (by kernel_rfl)
                (fun h12 =>
                L.jumpG mixed 8 [4, 7, 8, 9] [.ownp 0] [rows p4] (by kernel_rfl) (by kernel_rfl) (by kernel_rfl) ⟨rows_pure _, trivial⟩ (by kernel_rfl) (by kernel_rfl) (IH34O p4.length p4 (by first | rfl | exact Eq.symm (by assumption) | (simp; done) | (simp [*]; done)) (IntKind.i64.wrap (p9 + 1))))
                (fun h12 =>
                L.jumpG mixed 8 [4, 7, 8, 9] [.ownp 3] [rows (p4 ++ u11)] (by kernel_rfl) (by kernel_rfl) (by kernel_rfl) ⟨rows_pure _, trivial⟩ (by kernel_rfl) (by kernel_rfl) (IH34O ((p4 ++ u11).length) (p4 ++ u11) (by first | rfl | exact Eq.symm (by assumption) | (simp; done) | (simp [*]; done)) (IntKind.i64.wrap (p9 + 1)))))))))
          (fun h7 =>
          L.frzO mixed 7 2 0 p4.length p4 (by first | rfl | exact Eq.symm (by assumption) | (simp; done) | (simp [*]; done)) (by kernel_rfl) (by kernel_rfl) (by kernel_rfl) <|
          L.ret _ mixed Try.func26 _ (by kernel_rfl) rfl)
theorem c26 (K : Nat) (a0 : List TFairBurst) : ∀ r, F26 K a0 = some r → Con Try.prog 26 [lst a0] (E26 r) := by
  obtain ⟨IH34N, IH34O⟩ := l26 a0 K
  refine Con.lift Try.func26 (by kernel_rfl) rfl (fun _ => rfl) ?_
  unfold F26
  exact
    L.jump mixed 18 [4, 7, 8, 9] (by kernel_rfl) (IH34N 0)
/-! ### 6 -/
abbrev E6 : Bool → Value := fun r => .bool r
mutual
def F6_5 (a0 : List Int) (a1 : List TFairBurst) : Nat → (List TFairBurst) → Int → Option Bool
  | 0, _, _ => none
  | K + 1, p5, p6 =>
    bif (decide (p6 < (↑p5.length : Int))) then
      bif inR p6 p5.length then
        bif (decide ((getR p5 p6.toNat).N < 1)) then
          some false
        else
          bif (decide (p6 > 0)) then
            bif inR p6 p5.length then
              bif inR (IntKind.i64.wrap (p6 - 1)) p5.length then
                bif (bif false then true else bif true then (getR p5 p6.toNat).Who == (getR p5 (IntKind.i64.wrap (p6 - 1)).toNat).Who else false) then
                  some false
                else
                  F6_5 a0 a1 K p5 (IntKind.i64.wrap (p6 + 1))
              else none
            else none
          else
            F6_5 a0 a1 K p5 (IntKind.i64.wrap (p6 + 1))
      else none
    else
      (F26 K p5).bind fun u11 =>
      bif (u11.snd != 0) then
        some false
      else
        (F27 K u11.fst a0).bind fun u13 =>
        bif (bif false then true else !u13) then
          some false
        else
          (F26 K a1).bind fun u15 =>
          F6_15 a0 a1 K u15.fst u15.snd 0 0
def F6_15 (a0 : List Int) (a1 : List TFairBurst) : Nat → (List Int) → Int → Int → Int → Option Bool
  | 0, _, _, _, _ => none
  | K + 1, p9, p10, p11, p12 =>
    bif (decide (p12 < (↑a1.length : Int))) then
      bif inR p12 a1.length then
        bif (decide ((getR a1 p12.toNat).N < 0)) then
          bif ((↑p9.length : Int) == 0) then
            bif (bif true then p10 == 2 else false) then
              some (bif true then F18 else false)
            else
              some false
          else
            some false
        else
          bif inR p12 a1.length then
            bif (decide ((getR a1 p12.toNat).N > IntKind.i64.wrap (65536 - p11))) then
              bif ((↑p9.length : Int) == 0) then
                bif (bif true then p10 == 4 else false) then
                  some (bif true then F18 else false)
                else
                  some false
              else
                some false
            else
              bif inR p12 a1.length then
                F6_15 a0 a1 K p9 p10 (IntKind.i64.wrap (p11 + (getR a1 p12.toNat).N)) (IntKind.i64.wrap (p12 + 1))
              else none
          else none
      else none
    else
      bif (p10 != 0) then
        some false
      else
        bif (bif false then true else (↑p9.length : Int) != p11) then
          some false
        else
          F6_26 a0 a1 K p9 0 0
def F6_26 (a0 : List Int) (a1 : List TFairBurst) : Nat → (List Int) → Int → Int → Option Bool
  | 0, _, _, _ => none
  | K + 1, p9, p13, p14 =>
    bif (decide (p14 < (↑a1.length : Int))) then
      F6_29 a0 a1 K p9 p13 p14 0
    else
      some F18
def F6_29 (a0 : List Int) (a1 : List TFairBurst) : Nat → (List Int) → Int → Int → Int → Option Bool
  | 0, _, _, _, _ => none
  | K + 1, p9, p13, p14, p15 =>
    bif inR p14 a1.length then
      bif (decide (p15 < (getR a1 p14.toNat).N)) then
        bif inR (IntKind.i64.wrap (p13 + p15)) p9.length then
          bif inR p14 a1.length then
            bif (getR p9 (IntKind.i64.wrap (p13 + p15)).toNat != (getR a1 p14.toNat).Who) then
              some false
            else
              F6_29 a0 a1 K p9 p13 p14 (IntKind.i64.wrap (p15 + 1))
          else none
        else none
      else
        bif inR p14 a1.length then
          F6_26 a0 a1 K p9 (IntKind.i64.wrap (p13 + (getR a1 p14.toNat).N)) (IntKind.i64.wrap (p14 + 1))
        else none
    else none
end
def F6 (K : Nat) (a0 : List Int) (a1 : List TFairBurst) : Option Bool :=
  bif (decide ((↑a0.length : Int) > 300)) then
    some F18
  else
    bif (bif false then true else decide ((↑a1.length : Int) > 50)) then
      some F18
    else
      (F25 K a0).bind fun u3 =>
      F6_5 a0 a1 K u3 0
def H6_5 (fn : Func) (a0 : List Int) (a1 : List TFairBurst) (p5 : List TFairBurst) (p6 : Int) : VS := headS fn 5 [(0, (lst a0)), (1, (lst a1)), (5, lst p5), (6, .int .i64 p6)] []
def H6_15 (fn : Func) (a0 : List Int) (a1 : List TFairBurst) (p9 : List Int) (p10 : Int) (p11 : Int) (p12 : Int) : VS := headS fn 15 [(1, (lst a1)), (9, lst p9), (10, .int .i64 p10), (11, .int .i64 p11), (12, .int .i64 p12)] []
def H6_26 (fn : Func) (a0 : List Int) (a1 : List TFairBurst) (p9 : List Int) (p13 : Int) (p14 : Int) : VS := headS fn 26 [(1, (lst a1)), (9, lst p9), (13, .int .i64 p13), (14, .int .i64 p14)] []
def H6_29 (fn : Func) (a0 : List Int) (a1 : List TFairBurst) (p9 : List Int) (p13 : Int) (p14 : Int) (p15 : Int) : VS := headS fn 29 [(1, (lst a1)), (9, lst p9), (13, .int .i64 p13), (14, .int .i64 p14), (15, .int .i64 p15)] []
theorem l6 (a0 : List Int) (a1 : List TFairBurst) : ∀ K : Nat, (∀ (p5 : List TFairBurst) (p6 : Int), Lifts Try.prog 6 0 E6 (H6_5 Try.f6 a0 a1 p5 p6) (F6_5 a0 a1 K p5 p6)) ∧ (∀ (p9 : List Int) (p10 : Int) (p11 : Int) (p12 : Int), Lifts Try.prog 6 0 E6 (H6_15 Try.f6 a0 a1 p9 p10 p11 p12) (F6_15 a0 a1 K p9 p10 p11 p12)) ∧ (∀ (p9 : List Int) (p13 : Int) (p14 : Int), Lifts Try.prog 6 0 E6 (H6_26 Try.f6 a0 a1 p9 p13 p14) (F6_26 a0 a1 K p9 p13 p14)) ∧ (∀ (p9 : List Int) (p13 : Int) (p14 : Int) (p15 : Int), Lifts Try.prog 6 0 E6 (H6_29 Try.f6 a0 a1 p9 p13 p14 p15) (F6_29 a0 a1 K p9 p13 p14 p15)) := by
  intro K
  induction K with
  | zero =>
    exact ⟨fun p5 p6 => (by rw [F6_5]; exact L.no), fun p9 p10 p11 p12 => (by rw [F6_15]; exact L.no), fun p9 p13 p14 => (by rw [F6_26]; exact L.no), fun p9 p13 p14 p15 => (by rw [F6_29]; exact L.no)⟩
  | succ K ih =>
    obtain ⟨IH5, IH15, IH26, IH29⟩ := ih
    refine ⟨fun p5 p6 => ?_, fun p9 p10 p11 p12 => ?_, fun p9 p13 p14 => ?_, fun p9 p13 p14 p15 => ?_⟩
    · rw [F6_5]
      exact
        L.br mixed 8 _ (by kernel_rfl)
          (fun h4 =>
          L.idx mixed 7 _ (rows p5) 2 IntKind.i64 _ (by kernel_rfl) (fun h5a h5b =>
          L.ld mixed 1 3 (rows p5) (p6.toNat * 2 + 1) (.int .i64 (getR p5 p6.toNat).N) (by kernel_rfl) (load1_rows (i := p6.toNat) (d := 1) rfl (toNat_lt h5a h5b) (by kernel_rfl) (Nat.le_of_ble_eq_true (by kernel_rfl)) (by kernel_rfl)) <|
          L.gu mixed 2 _ (by kernel_rfl)
            (fun h6 =>
            L.ret _ mixed Try.func6 _ (by kernel_rfl) rfl)
            (fun h6 =>
            L.gu mixed 3 _ (by kernel_rfl)
              (fun h7 =>
              L.idx mixed 2 _ (rows p5) 2 IntKind.i64 _ (by kernel_rfl) (fun h8a h8b =>
              L.ld mixed 1 3 (rows p5) (p6.toNat * 2 + 0) (.int .i64 (getR p5 p6.toNat).Who) (by kernel_rfl) (load1_rows (i := p6.toNat) (d := 0) rfl (toNat_lt h8a h8b) (by kernel_rfl) (Nat.le_of_ble_eq_true (by kernel_rfl)) (by kernel_rfl)) <|
              L.idx mixed 3 _ (rows p5) 2 IntKind.i64 _ (by kernel_rfl) (fun h9a h9b =>
              L.ld mixed 1 3 (rows p5) ((IntKind.i64.wrap (p6 - 1)).toNat * 2 + 0) (.int .i64 (getR p5 (IntKind.i64.wrap (p6 - 1)).toNat).Who) (by kernel_rfl) (load1_rows (i := (IntKind.i64.wrap (p6 - 1)).toNat) (d := 0) rfl (toNat_lt h9a h9b) (by kernel_rfl) (Nat.le_of_ble_eq_true (by kernel_rfl)) (by kernel_rfl)) <|
              L.br mixed 4 _ (by kernel_rfl)
                (fun h10 =>
                L.ret _ mixed Try.func6 _ (by kernel_rfl) rfl)
                (fun h10 =>
                L.jump mixed 8 [0, 1, 5, 6] (by kernel_rfl) (IH5 p5 (IntKind.i64.wrap (p6 + 1)))))))
              (fun h7 =>
              L.jump mixed 24 [0, 1, 5, 6] (by kernel_rfl) (IH5 p5 (IntKind.i64.wrap (p6 + 1)))))))
          (fun h4 =>
          L.callO mixed (fun u11 : List Int × Int => .tuple ⟨[lst u11.1, .int .i64 u11.2]⟩) (c26 K p5) (by kernel_rfl) (fun u11 hu11 =>
          L.gu mixed 12 _ (by kernel_rfl)
            (fun h12 =>
            L.ret _ mixed Try.func6 _ (by kernel_rfl) rfl)
            (fun h12 =>
            L.callO mixed (fun u13 : Bool => .bool u13) (c27 K u11.fst a0) (by kernel_rfl) (fun u13 hu13 =>
            L.br mixed 3 _ (by kernel_rfl)
              (fun h14 =>
              L.ret _ mixed Try.func6 _ (by kernel_rfl) rfl)
              (fun h14 =>
              L.callO mixed (fun u15 : List Int × Int => .tuple ⟨[lst u15.1, .int .i64 u15.2]⟩) (c26 K a1) (by kernel_rfl) (fun u15 hu15 =>
              L.jump mixed 17 [1, 9, 10, 11, 12] (by kernel_rfl) (IH15 u15.fst u15.snd 0 0)))))))
    · rw [F6_15]
      exact
        L.br mixed 8 _ (by kernel_rfl)
          (fun h16 =>
          L.idx mixed 8 _ (rows a1) 2 IntKind.i64 _ (by kernel_rfl) (fun h17a h17b =>
          L.ld mixed 1 3 (rows a1) (p12.toNat * 2 + 1) (.int .i64 (getR a1 p12.toNat).N) (by kernel_rfl) (load1_rows (i := p12.toNat) (d := 1) rfl (toNat_lt h17a h17b) (by kernel_rfl) (Nat.le_of_ble_eq_true (by kernel_rfl)) (by kernel_rfl)) <|
          L.br mixed 2 _ (by kernel_rfl)
            (fun h18 =>
            L.gu mixed 6 _ (by kernel_rfl)
              (fun h19 =>
              L.gu mixed 4 _ (by kernel_rfl)
                (fun h20 =>
                L.call mixed (k18) (by kernel_rfl) <|
                L.ret _ mixed Try.func6 _ (by kernel_rfl) rfl)
                (fun h20 =>
                L.ret _ mixed Try.func6 _ (by kernel_rfl) rfl))
              (fun h19 =>
              L.ret _ mixed Try.func6 _ (by kernel_rfl) rfl))
            (fun h18 =>
            L.idx mixed 6 _ (rows a1) 2 IntKind.i64 _ (by kernel_rfl) (fun h21a h21b =>
            L.ld mixed 1 3 (rows a1) (p12.toNat * 2 + 1) (.int .i64 (getR a1 p12.toNat).N) (by kernel_rfl) (load1_rows (i := p12.toNat) (d := 1) rfl (toNat_lt h21a h21b) (by kernel_rfl) (Nat.le_of_ble_eq_true (by kernel_rfl)) (by kernel_rfl)) <|
            L.br mixed 4 _ (by kernel_rfl)
              (fun h22 =>
              L.gu mixed 6 _ (by kernel_rfl)
                (fun h23 =>
                L.gu mixed 4 _ (by kernel_rfl)
                  (fun h24 =>
                  L.call mixed (k18) (by kernel_rfl) <|
                  L.ret _ mixed Try.func6 _ (by kernel_rfl) rfl)
                  (fun h24 =>
                  L.ret _ mixed Try.func6 _ (by kernel_rfl) rfl))
                (fun h23 =>
                L.ret _ mixed Try.func6 _ (by kernel_rfl) rfl))
              (fun h22 =>
              L.idx mixed 5 _ (rows a1) 2 IntKind.i64 _ (by kernel_rfl) (fun h25a h25b =>
              L.ld mixed 1 3 (rows a1) (p12.toNat * 2 + 1) (.int .i64 (getR a1 p12.toNat).N) (by kernel_rfl) (load1_rows (i := p12.toNat) (d := 1) rfl (toNat_lt h25a h25b) (by kernel_rfl) (Nat.le_of_ble_eq_true (by kernel_rfl)) (by kernel_rfl)) <|
              L.jump mixed 10 [1, 9, 10, 11, 12] (by kernel_rfl) (IH15 p9 p10 (IntKind.i64.wrap (p11 + (getR a1 p12.toNat).N)) (IntKind.i64.wrap (p12 + 1)))))))))
          (fun h16 =>
          L.gu mixed 7 _ (by kernel_rfl)
            (fun h26 =>
            L.ret _ mixed Try.func6 _ (by kernel_rfl) rfl)
            (fun h26 =>
            L.br mixed 6 _ (by kernel_rfl)
              (fun h27 =>
              L.ret _ mixed Try.func6 _ (by kernel_rfl) rfl)
              (fun h27 =>
              L.jump mixed 12 [1, 9, 13, 14] (by kernel_rfl) (IH26 p9 0 0))))
    · rw [F6_26]
      exact
        L.br mixed 8 _ (by kernel_rfl)
          (fun h28 =>
          L.jump mixed 10 [1, 9, 13, 14, 15] (by kernel_rfl) (IH29 p9 p13 p14 0))
          (fun h28 =>
          L.call mixed (k18) (by kernel_rfl) <|
          L.ret _ mixed Try.func6 _ (by kernel_rfl) rfl)
    · rw [F6_29]
      exact
        L.idx mixed 6 _ (rows a1) 2 IntKind.i64 _ (by kernel_rfl) (fun h29a h29b =>
        L.ld mixed 1 3 (rows a1) (p14.toNat * 2 + 1) (.int .i64 (getR a1 p14.toNat).N) (by kernel_rfl) (load1_rows (i := p14.toNat) (d := 1) rfl (toNat_lt h29a h29b) (by kernel_rfl) (Nat.le_of_ble_eq_true (by kernel_rfl)) (by kernel_rfl)) <|
        L.br mixed 2 _ (by kernel_rfl)
          (fun h30 =>
          L.idx mixed 9 _ (rows p9) 1 IntKind.i64 _ (by kernel_rfl) (fun h31a h31b =>
          L.ld mixed 0 3 (rows p9) ((IntKind.i64.wrap (p13 + p15)).toNat * 1 + 0) (.int .i64 (getR p9 (IntKind.i64.wrap (p13 + p15)).toNat)) (by kernel_rfl) (load1_rows (i := (IntKind.i64.wrap (p13 + p15)).toNat) (d := 0) rfl (toNat_lt h31a h31b) (by kernel_rfl) (Nat.le_of_ble_eq_true (by kernel_rfl)) (by kernel_rfl)) <|
          L.idx mixed 2 _ (rows a1) 2 IntKind.i64 _ (by kernel_rfl) (fun h32a h32b =>
          L.ld mixed 1 3 (rows a1) (p14.toNat * 2 + 0) (.int .i64 (getR a1 p14.toNat).Who) (by kernel_rfl) (load1_rows (i := p14.toNat) (d := 0) rfl (toNat_lt h32a h32b) (by kernel_rfl) (Nat.le_of_ble_eq_true (by kernel_rfl)) (by kernel_rfl)) <|
          L.br mixed 2 _ (by kernel_rfl)
            (fun h33 =>
            L.ret _ mixed Try.func6 _ (by kernel_rfl) rfl)
            (fun h33 =>
            L.jump mixed 8 [1, 9, 13, 14, 15] (by kernel_rfl) (IH29 p9 p13 p14 (IntKind.i64.wrap (p15 + 1)))))))
          (fun h30 =>
          L.idx mixed 5 _ (rows a1) 2 IntKind.i64 _ (by kernel_rfl) (fun h34a h34b =>
          L.ld mixed 1 3 (rows a1) (p14.toNat * 2 + 1) (.int .i64 (getR a1 p14.toNat).N) (by kernel_rfl) (load1_rows (i := p14.toNat) (d := 1) rfl (toNat_lt h34a h34b) (by kernel_rfl) (Nat.le_of_ble_eq_true (by kernel_rfl)) (by kernel_rfl)) <|
          L.jump mixed 10 [1, 9, 13, 14] (by kernel_rfl) (IH26 p9 (IntKind.i64.wrap (p13 + (getR a1 p14.toNat).N)) (IntKind.i64.wrap (p14 + 1))))))
theorem c6 (K : Nat) (a0 : List Int) (a1 : List TFairBurst) : ∀ r, F6 K a0 a1 = some r → Con Try.prog 6 [lst a0, lst a1] (E6 r) := by
  obtain ⟨IH5, IH15, IH26, IH29⟩ := l6 a0 a1 K
  refine Con.lift Try.func6 (by kernel_rfl) rfl (fun _ => rfl) ?_
  unfold F6
  exact
    L.gu mixed 11 _ (by kernel_rfl)
      (fun h1 =>
      L.call mixed (k18) (by kernel_rfl) <|
      L.ret _ mixed Try.func6 _ (by kernel_rfl) rfl)
      (fun h1 =>
      L.br mixed 5 _ (by kernel_rfl)
        (fun h2 =>
        L.call mixed (k18) (by kernel_rfl) <|
        L.ret _ mixed Try.func6 _ (by kernel_rfl) rfl)
        (fun h2 =>
        L.callO mixed (fun u3 : List TFairBurst => lst u3) (c25 K a0) (by kernel_rfl) (fun u3 hu3 =>
        L.jump mixed 9 [0, 1, 5, 6] (by kernel_rfl) (IH5 u3 0))))
end Go.Proofs.Ytjfodgjgpeiaaaa.Lf
