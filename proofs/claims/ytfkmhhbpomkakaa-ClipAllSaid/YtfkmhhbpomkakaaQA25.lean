/- Several texts in one: K1, LC. -/
import Derived.Test.YtfkmhhbpomkakaaQA17
import Derived.Test.YtfkmhhbpomkakaaQA24
namespace Go.Proofs.Ytfkmhhbpomkakaa.Lf

section
open Go Go.Dt Go.Proofs Go.Proofs.Ytfkmhhbpomkakaa.Clip Go.Proofs.Ytfkmhhbpomkakaa.Pol
set_option linter.unusedVariables false

abbrev cr (c : TCorner) : Cr := ⟨c.P.X, c.P.Y, c.P.Z, c.P.W, c.A.e0, c.A.e1, c.A.e2, c.A.e3, c.A.e4, c.A.e5⟩
abbrev uncr (c : Cr) : TCorner := ⟨⟨c.x, c.y, c.z, c.w⟩, ⟨c.a, c.b, c.c, c.d, c.e, c.f⟩⟩
def in30 (n : Int) : Bool := decide (-1073741824 ≤ n) && decide (n ≤ 1073741824)
theorem in30_ok {n : Int} (h : in30 n = true) : ok30 n := by
  simp only [in30, Bool.and_eq_true, decide_eq_true_eq] at h
  exact h
theorem in30_mk {n : Int} (h : ok30 n) : in30 n = true := by
  simp only [in30, Bool.and_eq_true, decide_eq_true_eq]
  exact h
def inK (k : Int) : Bool := decide (0 ≤ k) && decide (k ≤ 6)
theorem inK_ok {k : Int} (h : inK k = true) : 0 ≤ k ∧ k ≤ 6 := by
  simp only [inK, Bool.and_eq_true, decide_eq_true_eq] at h
  exact h
theorem inK_mk {k : Int} (h : 0 ≤ k ∧ k ≤ 6) : inK k = true := by
  simp only [inK, Bool.and_eq_true, decide_eq_true_eq]
  exact h
def inV (v : TVec) : Bool := in30 v.X && (in30 v.Y && (in30 v.Z && in30 v.W))
theorem inV_ok {v : TVec} (h : inV v = true) : mayV v.X v.Y v.Z v.W := by
  simp only [inV, Bool.and_eq_true] at h
  exact ⟨in30_ok h.1, in30_ok h.2.1, in30_ok h.2.2.1, in30_ok h.2.2.2⟩
theorem inV_mk {v : TVec} (h : mayV v.X v.Y v.Z v.W) : inV v = true := by
  simp only [inV, Bool.and_eq_true]
  exact ⟨in30_mk h.1, in30_mk h.2.1, in30_mk h.2.2.1, in30_mk h.2.2.2⟩

def F48 (c : TCorner) : Bool := mayB (cr c)
theorem k48 (c : TCorner) : Con Try.prog 48 [.agg ⟨flTCorner.cells c⟩] (.bool (F48 c)) := c_may _ _ _ _ _ _ _ _ _ _
theorem k16 (c : TCorner) : Con Try.prog 16 [.agg ⟨flTCorner.cells c⟩] (.bool (F48 c)) := c_rmayC _ _ _ _ _ _ _ _ _ _
def F49 (K : Nat) (k : Int) (v : TVec) : Option Int := bif inK k && inV v then some (farI k v.X v.Y v.Z v.W) else none
theorem k49 (K : Nat) (k : Int) (v : TVec) : ∀ r, F49 K k v = some r → Con Try.prog 49 [.int .i64 k, .agg ⟨flTVec.cells v⟩] (.int .i64 r) := fun r hr => by
  unfold F49 at hr
  cases h : (inK k && inV v) with
  | false => rw [h] at hr; cases hr
  | true =>
    rw [h] at hr; cases hr
    rw [Bool.and_eq_true] at h
    exact c_far (inK_ok h.1) (inV_ok h.2)
theorem k17 (K : Nat) (k : Int) (v : TVec) : ∀ r, F49 K k v = some r → Con Try.prog 17 [.int .i64 k, .agg ⟨flTVec.cells v⟩] (.int .i64 r) := fun r hr => by
  unfold F49 at hr
  cases h : (inK k && inV v) with
  | false => rw [h] at hr; cases hr
  | true =>
    rw [h] at hr; cases hr
    rw [Bool.and_eq_true] at h
    exact c_rfar (inK_ok h.1) (inV_ok h.2)
def F47 (K : Nat) (k : Int) (a b : TCorner) : Option TCorner := bif inK k && (mayB (cr a) && (mayB (cr b) && (decide (0 ≤ farC k (cr a)) && !decide (0 ≤ farC k (cr b))))) then some (uncr (cutC k (cr a) (cr b))) else none
theorem F47_some {K : Nat} {k : Int} {a b r : TCorner} (hr : F47 K k a b = some r) : r = uncr (cutC k (cr a) (cr b)) ∧ (0 ≤ k ∧ k ≤ 6) ∧ mayR (cr a) ∧ mayR (cr b) ∧ 0 ≤ farC k (cr a) ∧ ¬ 0 ≤ farC k (cr b) := by
  unfold F47 at hr
  cases h : (inK k && (mayB (cr a) && (mayB (cr b) && (decide (0 ≤ farC k (cr a)) && !decide (0 ≤ farC k (cr b)))))) with
  | false => rw [h] at hr; cases hr
  | true =>
    rw [h] at hr; cases hr
    simp only [Bool.and_eq_true, Bool.not_eq_true', decide_eq_true_eq, decide_eq_false_iff_not] at h
    exact ⟨rfl, inK_ok h.1, mayB_iff.1 h.2.1, mayB_iff.1 h.2.2.1, h.2.2.2.1, h.2.2.2.2⟩
theorem F47_eq {K : Nat} {k : Int} {a b : TCorner} (h1 : 0 ≤ k ∧ k ≤ 6) (h2 : mayR (cr a)) (h3 : mayR (cr b)) (h4 : 0 ≤ farC k (cr a)) (h5 : ¬ 0 ≤ farC k (cr b)) : F47 K k a b = some (uncr (cutC k (cr a) (cr b))) := by
  unfold F47
  rw [inK_mk h1, mayB_iff.2 h2, mayB_iff.2 h3, decide_eq_true h4, decide_eq_false h5]
  rfl
theorem k47 (K : Nat) (k : Int) (a b : TCorner) : ∀ r, F47 K k a b = some r → Con Try.prog 47 [.int .i64 k, .agg ⟨flTCorner.cells a⟩, .agg ⟨flTCorner.cells b⟩] (.agg ⟨flTCorner.cells r⟩) := fun r hr => by
  obtain ⟨rfl, h1, h2, h3, h4, h5⟩ := F47_some hr
  exact c_cutA h1 h2 h3 h4 h5
theorem k18 (K : Nat) (k : Int) (a b : TCorner) : ∀ r, F47 K k a b = some r → Con Try.prog 18 [.int .i64 k, .agg ⟨flTCorner.cells a⟩, .agg ⟨flTCorner.cells b⟩] (.agg ⟨flTCorner.cells r⟩) := fun r hr => by
  obtain ⟨rfl, h1, h2, h3, h4, h5⟩ := F47_some hr
  exact c_cutB h1 h2 h3 h4 h5
def F15 : Bool := true
theorem k15 : Con Try.prog 15 [] (.bool F15) := c_awake15

end

section
open Go Go.Dt Go.Proofs
set_option linter.unusedVariables false

/-! ### 52 -/
abbrev E52 : Int → Value := fun r => .int .i64 r
def F52_4 (a0 : List TCorner) : Nat → Int → Option Int
  | 0, _ => none
  | K + 1, p10 =>
    bif (decide (p10 < (↑a0.length : Int))) then
      bif inR p10 a0.length then
        bif (!F48 (getR a0 p10.toNat)) then
          some 3
        else
          F52_4 a0 K (IntKind.i64.wrap (p10 + 1))
      else none
    else
      some 0
def F52 (K : Nat) (a0 : List TCorner) : Option Int :=
  bif (decide ((↑a0.length : Int) > 16)) then
    some 4
  else
    F52_4 a0 K 0
def H52_4 (fn : Func) (a0 : List TCorner) (p10 : Int) : VS := headS fn 4 [(8, (lst a0)), (9, (Value.int IntKind.i64 ((↑a0.length : Int)))), (10, .int .i64 p10)] []
theorem l52 (a0 : List TCorner) : ∀ K : Nat, (∀ (p10 : Int), Lifts Try.prog 52 0 E52 (H52_4 Try.f52 a0 p10) (F52_4 a0 K p10)) := by
  intro K
  induction K with
  | zero =>
    exact fun p10 => (by rw [F52_4]; exact L.no)
  | succ K ih =>
    have IH4 := ih
    refine fun p10 => ?_
    · rw [F52_4]
      exact
        L.br mixed 5 _ (by kernel_rfl)
          (fun h2 =>
          L.idx mixed 5 _ (rows a0) 10 IntKind.i64 _ (by kernel_rfl) (fun h3a h3b =>
          L.ld mixed 0 26 (rows a0) (p10.toNat * 10 + 0) (.agg ⟨[.int .i64 (getR a0 p10.toNat).P.X, .int .i64 (getR a0 p10.toNat).P.Y, .int .i64 (getR a0 p10.toNat).P.Z, .int .i64 (getR a0 p10.toNat).P.W, .int .i64 (getR a0 p10.toNat).A.e0, .int .i64 (getR a0 p10.toNat).A.e1, .int .i64 (getR a0 p10.toNat).A.e2, .int .i64 (getR a0 p10.toNat).A.e3, .int .i64 (getR a0 p10.toNat).A.e4, .int .i64 (getR a0 p10.toNat).A.e5]⟩) (by kernel_rfl) (loadN_rows (i := p10.toNat) (d := 0) (k := 10) rfl (toNat_lt h3a h3b) (by kernel_rfl) (by kernel_rfl) (Nat.le_of_ble_eq_true (by kernel_rfl)) (by kernel_rfl)) <|
          L.call mixed (k48 ((getR a0 p10.toNat))) (by kernel_rfl) <|
          L.br mixed 2 _ (by kernel_rfl)
            (fun h4 =>
            L.ret _ mixed Try.func52 _ (by kernel_rfl) rfl)
            (fun h4 =>
            L.jumpG mixed 7 [8, 9, 10] [] [] (by kernel_rfl) (by kernel_rfl) (by kernel_rfl) trivial (by kernel_rfl) (by kernel_rfl) (IH4 (IntKind.i64.wrap (p10 + 1))))))
          (fun h2 =>
          L.ret _ mixed Try.func52 _ (by kernel_rfl) rfl)
theorem c52 (K : Nat) (a0 : List TCorner) : ∀ r, F52 K a0 = some r → Con Try.prog 52 [lst a0] (E52 r) := by
  have IH4 := l52 a0 K
  refine Con.lift Try.func52 (by kernel_rfl) rfl (fun _ => rfl) ?_
  unfold F52
  exact
    L.br mixed 11 _ (by kernel_rfl)
      (fun h1 =>
      L.ret _ mixed Try.func52 _ (by kernel_rfl) rfl)
      (fun h1 =>
      L.jump mixed 10 [8, 9, 10] (by kernel_rfl) (IH4 0))
/-! ### 54 -/
abbrev E54 : List TCorner → Value := fun r => lst r
def F54 (K : Nat) (a0 : List TCorner) : Option (List TCorner) := bif room a0.length 80 then some a0 else none
theorem c54 (K : Nat) (a0 : List TCorner) : ∀ r, F54 K a0 = some r → Con Try.prog 54 [lst a0] (E54 r) :=
  clone_con 80 Try.func54 (by kernel_rfl) (clone_nil (α := TCorner) (size := 10) mixed Try.func54 8 1 5 4 4 rfl (by kernel_rfl) rfl (by kernel_rfl) rfl (by kernel_rfl) (by kernel_rfl) rfl (by kernel_rfl) rfl (clone_tail (α := TCorner) mixed Try.func54 1 2 80 (by kernel_rfl) (by kernel_rfl) (by kernel_rfl) (by kernel_rfl)))
    (fun y ys => L.eqNil (n := ys.length + 1) (c := rows (y :: ys)) mixed 8 (Nat.succ_pos _) (by kernel_rfl) <| L.none mixed 5 10 (by kernel_rfl) <| L.cat0 mixed 1 0 80 (y :: ys) (by kernel_rfl) (by kernel_rfl) <| L.ret _ mixed Try.func54 _ (by kernel_rfl) rfl) a0
/-! ### 53 -/
abbrev E53 : List TCorner → Value := fun r => lst r
def F53_3 (a0 : Int) (a1 : List TCorner) : Nat → (List TCorner) → Int → Option (List TCorner)
  | 0, _, _ => none
  | K + 1, p5, p13 =>
    bif (decide (p13 < (↑a1.length : Int))) then
      bif inR p13 a1.length then
        bif ((↑a1.length : Int)) != 0 then
          bif inR ((IntKind.i64.wrap (p13 + 1)).tmod (↑a1.length : Int)) a1.length then
            (F49 K a0 ((getR a1 p13.toNat).P)).bind fun u19 =>
            (F49 K a0 ((getR a1 ((IntKind.i64.wrap (p13 + 1)).tmod (↑a1.length : Int)).toNat).P)).bind fun u20 =>
            bif (decide (u19 ≥ 0)) then
              bif room (p5.length + ([(getR a1 p13.toNat)] : List TCorner).length) 80 then
                bif (bif true then !decide (u20 ≥ 0) else false) then
                  (F47 K a0 ((getR a1 p13.toNat)) ((getR a1 ((IntKind.i64.wrap (p13 + 1)).tmod (↑a1.length : Int)).toNat))).bind fun u23 =>
                  bif room ((p5 ++ [getR a1 p13.toNat]).length + ([u23] : List TCorner).length) 80 then
                    F53_3 a0 a1 K (p5 ++ [getR a1 p13.toNat] ++ [u23]) (IntKind.i64.wrap (p13 + 1))
                  else none
                else
                  bif (!decide (u19 ≥ 0)) then
                    bif (bif true then decide (u20 ≥ 0) else false) then
                      (F47 K a0 ((getR a1 ((IntKind.i64.wrap (p13 + 1)).tmod (↑a1.length : Int)).toNat)) ((getR a1 p13.toNat))).bind fun u26 =>
                      bif room ((p5 ++ [getR a1 p13.toNat]).length + ([u26] : List TCorner).length) 80 then
                        F53_3 a0 a1 K (p5 ++ [getR a1 p13.toNat] ++ [u26]) (IntKind.i64.wrap (p13 + 1))
                      else none
                    else
                      F53_3 a0 a1 K (p5 ++ [getR a1 p13.toNat]) (IntKind.i64.wrap (p13 + 1))
                  else
                    F53_3 a0 a1 K (p5 ++ [getR a1 p13.toNat]) (IntKind.i64.wrap (p13 + 1))
              else none
            else
              bif (!decide (u19 ≥ 0)) then
                bif (bif true then decide (u20 ≥ 0) else false) then
                  (F47 K a0 ((getR a1 ((IntKind.i64.wrap (p13 + 1)).tmod (↑a1.length : Int)).toNat)) ((getR a1 p13.toNat))).bind fun u29 =>
                  bif room (p5.length + ([u29] : List TCorner).length) 80 then
                    F53_3 a0 a1 K (p5 ++ [u29]) (IntKind.i64.wrap (p13 + 1))
                  else none
                else
                  F53_3 a0 a1 K p5 (IntKind.i64.wrap (p13 + 1))
              else
                F53_3 a0 a1 K p5 (IntKind.i64.wrap (p13 + 1))
          else none
        else none
      else none
    else
      some p5
def F53 (K : Nat) (a0 : Int) (a1 : List TCorner) : Option (List TCorner) :=
  F53_3 a0 a1 K [] 0
def H53_35N (fn : Func) (a0 : Int) (a1 : List TCorner) (p13 : Int) : VS := headS fn 3 [(0, (Value.int IntKind.i64 a0)), (1, (lst a1)), (5, .slice none 0 0), (11, (lst a1)), (12, (Value.int IntKind.i64 ((↑a1.length : Int)))), (13, .int .i64 p13)] []
def H53_35O (fn : Func) (a0 : Int) (a1 : List TCorner) (np5 : Nat) (p5 : List TCorner) (p13 : Int) : VS := headS fn 3 [(0, (Value.int IntKind.i64 a0)), (1, (lst a1)), (5, .slice (some ⟨0, 0, none⟩) np5 np5), (11, (lst a1)), (12, (Value.int IntKind.i64 ((↑a1.length : Int)))), (13, .int .i64 p13)] [ownB p5]
theorem l53 (a0 : Int) (a1 : List TCorner) : ∀ K : Nat, (∀ (p13 : Int), Lifts Try.prog 53 0 E53 (H53_35N Try.f53 a0 a1 p13) (F53_3 a0 a1 K [] p13)) ∧ (∀ (np5 : Nat) (p5 : List TCorner) (_ : np5 = p5.length) (p13 : Int), Lifts Try.prog 53 0 E53 (H53_35O Try.f53 a0 a1 np5 p5 p13) (F53_3 a0 a1 K p5 p13)) := by
  intro K
  induction K with
  | zero =>
    exact ⟨fun p13 => (by rw [F53_3]; exact L.no), fun np5 p5 ep5 p13 => (by rw [F53_3]; exact L.no)⟩
  | succ K ih =>
    obtain ⟨IH35N, IH35O⟩ := ih
    refine ⟨fun p13 => ?_, fun np5 p5 ep5 p13 => ?_⟩
    · rw [F53_3]
      exact
        L.br mixed 5 _ (by kernel_rfl)
          (fun h1 =>
          L.idx mixed 6 _ (rows a1) 10 IntKind.i64 _ (by kernel_rfl) (fun h2a h2b =>
          L.ld mixed 0 26 (rows a1) (p13.toNat * 10 + 0) (.agg ⟨[.int .i64 (getR a1 p13.toNat).P.X, .int .i64 (getR a1 p13.toNat).P.Y, .int .i64 (getR a1 p13.toNat).P.Z, .int .i64 (getR a1 p13.toNat).P.W, .int .i64 (getR a1 p13.toNat).A.e0, .int .i64 (getR a1 p13.toNat).A.e1, .int .i64 (getR a1 p13.toNat).A.e2, .int .i64 (getR a1 p13.toNat).A.e3, .int .i64 (getR a1 p13.toNat).A.e4, .int .i64 (getR a1 p13.toNat).A.e5]⟩) (by kernel_rfl) (loadN_rows (i := p13.toNat) (d := 0) (k := 10) rfl (toNat_lt h2a h2b) (by kernel_rfl) (by kernel_rfl) (Nat.le_of_ble_eq_true (by kernel_rfl)) (by kernel_rfl)) <|
          L.div mixed 11 true IntKind.i64 (IntKind.i64.wrap (p13 + 1)) _ (by kernel_rfl) (fun hd15 =>
          L.idx mixed 0 _ (rows a1) 10 IntKind.i64 _ (by kernel_rfl) (fun h3a h3b =>
          L.ld mixed 0 26 (rows a1) (((IntKind.i64.wrap (p13 + 1)).tmod (↑a1.length : Int)).toNat * 10 + 0) (.agg ⟨[.int .i64 (getR a1 ((IntKind.i64.wrap (p13 + 1)).tmod (↑a1.length : Int)).toNat).P.X, .int .i64 (getR a1 ((IntKind.i64.wrap (p13 + 1)).tmod (↑a1.length : Int)).toNat).P.Y, .int .i64 (getR a1 ((IntKind.i64.wrap (p13 + 1)).tmod (↑a1.length : Int)).toNat).P.Z, .int .i64 (getR a1 ((IntKind.i64.wrap (p13 + 1)).tmod (↑a1.length : Int)).toNat).P.W, .int .i64 (getR a1 ((IntKind.i64.wrap (p13 + 1)).tmod (↑a1.length : Int)).toNat).A.e0, .int .i64 (getR a1 ((IntKind.i64.wrap (p13 + 1)).tmod (↑a1.length : Int)).toNat).A.e1, .int .i64 (getR a1 ((IntKind.i64.wrap (p13 + 1)).tmod (↑a1.length : Int)).toNat).A.e2, .int .i64 (getR a1 ((IntKind.i64.wrap (p13 + 1)).tmod (↑a1.length : Int)).toNat).A.e3, .int .i64 (getR a1 ((IntKind.i64.wrap (p13 + 1)).tmod (↑a1.length : Int)).toNat).A.e4, .int .i64 (getR a1 ((IntKind.i64.wrap (p13 + 1)).tmod (↑a1.length : Int)).toNat).A.e5]⟩) (by kernel_rfl) (loadN_rows (i := ((IntKind.i64.wrap (p13 + 1)).tmod (↑a1.length : Int)).toNat) (d := 0) (k := 10) rfl (toNat_lt h3a h3b) (by kernel_rfl) (by kernel_rfl) (Nat.le_of_ble_eq_true (by kernel_rfl)) (by kernel_rfl)) <|
          L.callO mixed (fun u4 : Int => .int .i64 u4) (k49 K a0 ((getR a1 p13.toNat).P)) (by kernel_rfl) (fun u4 hu4 =>
          L.callO mixed (fun u5 : Int => .int .i64 u5) (k49 K a0 ((getR a1 ((IntKind.i64.wrap (p13 + 1)).tmod (↑a1.length : Int)).toNat).P)) (by kernel_rfl) (fun u5 hu5 =>
          L.br mixed 9 _ (by kernel_rfl)
            (fun h6 =>
            L.push0 mixed 4 80 2 0 [(Value.int IntKind.i64 ((getR a1 p13.toNat).P.X)), (Value.int IntKind.i64 ((getR a1 p13.toNat).P.Y)), (Value.int IntKind.i64 ((getR a1 p13.toNat).P.Z)), (Value.int IntKind.i64 ((getR a1 p13.toNat).P.W)), (Value.int IntKind.i64 ((getR a1 p13.toNat).A.e0)), (Value.int IntKind.i64 ((getR a1 p13.toNat).A.e1)), (Value.int IntKind.i64 ((getR a1 p13.toNat).A.e2)), (Value.int IntKind.i64 ((getR a1 p13.toNat).A.e3)), (Value.int IntKind.i64 ((getR a1 p13.toNat).A.e4)), (Value.int IntKind.i64 ((getR a1 p13.toNat).A.e5))] ([(getR a1 p13.toNat)] : List TCorner) (by kernel_rfl) (Nat.le_of_ble_eq_true (by kernel_rfl)) (Nat.le_of_ble_eq_true (by kernel_rfl)) (by kernel_rfl) <|
            L.guIs mixed 7 _ true h6 (by kernel_rfl) <|
            L.br mixed 5 _ (by kernel_rfl)
              (fun h7 =>
              L.callO mixed (fun u8 : TCorner => .agg ⟨[.int .i64 u8.P.X, .int .i64 u8.P.Y, .int .i64 u8.P.Z, .int .i64 u8.P.W, .int .i64 u8.A.e0, .int .i64 u8.A.e1, .int .i64 u8.A.e2, .int .i64 u8.A.e3, .int .i64 u8.A.e4, .int .i64 u8.A.e5]⟩) (k47 K a0 ((getR a1 p13.toNat)) ((getR a1 ((IntKind.i64.wrap (p13 + 1)).tmod (↑a1.length : Int)).toNat))) (by kernel_rfl) (fun u8 hu8 =>
              L.app mixed 1 3 80 4 0 ([getR a1 p13.toNat].length) [(Value.int IntKind.i64 u8.P.X), (Value.int IntKind.i64 u8.P.Y), (Value.int IntKind.i64 u8.P.Z), (Value.int IntKind.i64 u8.P.W), (Value.int IntKind.i64 u8.A.e0), (Value.int IntKind.i64 u8.A.e1), (Value.int IntKind.i64 u8.A.e2), (Value.int IntKind.i64 u8.A.e3), (Value.int IntKind.i64 u8.A.e4), (Value.int IntKind.i64 u8.A.e5)] [getR a1 p13.toNat] ([u8] : List TCorner) (by simp) (by kernel_rfl) (by kernel_rfl) (Nat.le_of_ble_eq_true (by kernel_rfl)) (Nat.le_of_ble_eq_true (by kernel_rfl)) (by kernel_rfl) <|
              L.jumpG mixed 9 [0, 1, 5, 11, 12, 13] [.ownp 5] [rows ([getR a1 p13.toNat] ++ [u8])] (by kernel_rfl) (by kernel_rfl) (by kernel_rfl) ⟨rows_pure _, trivial⟩ (by kernel_rfl) (by kernel_rfl) (IH35O (([getR a1 p13.toNat] ++ [u8]).length) ([getR a1 p13.toNat] ++ [u8]) (by simp) (IntKind.i64.wrap (p13 + 1)))))
              (fun h7 =>
              L.gu mixed 5 _ (by kernel_rfl)
                (fun h9 =>
                L.br mixed 4 _ (by kernel_rfl)
                  (fun h10 =>
                  L.callO mixed (fun u11 : TCorner => .agg ⟨[.int .i64 u11.P.X, .int .i64 u11.P.Y, .int .i64 u11.P.Z, .int .i64 u11.P.W, .int .i64 u11.A.e0, .int .i64 u11.A.e1, .int .i64 u11.A.e2, .int .i64 u11.A.e3, .int .i64 u11.A.e4, .int .i64 u11.A.e5]⟩) (k47 K a0 ((getR a1 ((IntKind.i64.wrap (p13 + 1)).tmod (↑a1.length : Int)).toNat)) ((getR a1 p13.toNat))) (by kernel_rfl) (fun u11 hu11 =>
                  L.app mixed 1 3 80 4 0 ([getR a1 p13.toNat].length) [(Value.int IntKind.i64 u11.P.X), (Value.int IntKind.i64 u11.P.Y), (Value.int IntKind.i64 u11.P.Z), (Value.int IntKind.i64 u11.P.W), (Value.int IntKind.i64 u11.A.e0), (Value.int IntKind.i64 u11.A.e1), (Value.int IntKind.i64 u11.A.e2), (Value.int IntKind.i64 u11.A.e3), (Value.int IntKind.i64 u11.A.e4), (Value.int IntKind.i64 u11.A.e5)] [getR a1 p13.toNat] ([u11] : List TCorner) (by simp) (by kernel_rfl) (by kernel_rfl) (Nat.le_of_ble_eq_true (by kernel_rfl)) (Nat.le_of_ble_eq_true (by kernel_rfl)) (by kernel_rfl) <|
                  L.jumpG mixed 9 [0, 1, 5, 11, 12, 13] [.ownp 5] [rows ([getR a1 p13.toNat] ++ [u11])] (by kernel_rfl) (by kernel_rfl) (by kernel_rfl) ⟨rows_pure _, trivial⟩ (by kernel_rfl) (by kernel_rfl) (IH35O (([getR a1 p13.toNat] ++ [u11]).length) ([getR a1 p13.toNat] ++ [u11]) (by simp) (IntKind.i64.wrap (p13 + 1)))))
                  (fun h10 =>
                  L.jumpG mixed 8 [0, 1, 5, 11, 12, 13] [.ownp 3] [rows [getR a1 p13.toNat]] (by kernel_rfl) (by kernel_rfl) (by kernel_rfl) ⟨rows_pure _, trivial⟩ (by kernel_rfl) (by kernel_rfl) (IH35O ([getR a1 p13.toNat].length) [getR a1 p13.toNat] (by simp) (IntKind.i64.wrap (p13 + 1)))))
                (fun h9 =>
                L.jumpG mixed 13 [0, 1, 5, 11, 12, 13] [.ownp 3] [rows [getR a1 p13.toNat]] (by kernel_rfl) (by kernel_rfl) (by kernel_rfl) ⟨rows_pure _, trivial⟩ (by kernel_rfl) (by kernel_rfl) (IH35O ([getR a1 p13.toNat].length) [getR a1 p13.toNat] (by simp) (IntKind.i64.wrap (p13 + 1))))))
            (fun h6 =>
            L.guIs mixed 6 _ false h6 (by kernel_rfl) <|
            L.gu mixed 11 _ (by kernel_rfl)
              (fun h12 =>
              L.br mixed 4 _ (by kernel_rfl)
                (fun h13 =>
                L.callO mixed (fun u14 : TCorner => .agg ⟨[.int .i64 u14.P.X, .int .i64 u14.P.Y, .int .i64 u14.P.Z, .int .i64 u14.P.W, .int .i64 u14.A.e0, .int .i64 u14.A.e1, .int .i64 u14.A.e2, .int .i64 u14.A.e3, .int .i64 u14.A.e4, .int .i64 u14.A.e5]⟩) (k47 K a0 ((getR a1 ((IntKind.i64.wrap (p13 + 1)).tmod (↑a1.length : Int)).toNat)) ((getR a1 p13.toNat))) (by kernel_rfl) (fun u14 hu14 =>
                L.push0 mixed 1 80 2 0 [(Value.int IntKind.i64 u14.P.X), (Value.int IntKind.i64 u14.P.Y), (Value.int IntKind.i64 u14.P.Z), (Value.int IntKind.i64 u14.P.W), (Value.int IntKind.i64 u14.A.e0), (Value.int IntKind.i64 u14.A.e1), (Value.int IntKind.i64 u14.A.e2), (Value.int IntKind.i64 u14.A.e3), (Value.int IntKind.i64 u14.A.e4), (Value.int IntKind.i64 u14.A.e5)] ([u14] : List TCorner) (by kernel_rfl) (Nat.le_of_ble_eq_true (by kernel_rfl)) (Nat.le_of_ble_eq_true (by kernel_rfl)) (by kernel_rfl) <|
                L.jumpG mixed 9 [0, 1, 5, 11, 12, 13] [.ownp 3] [rows [u14]] (by kernel_rfl) (by kernel_rfl) (by kernel_rfl) ⟨rows_pure _, trivial⟩ (by kernel_rfl) (by kernel_rfl) (IH35O [u14].length [u14] (by simp) (IntKind.i64.wrap (p13 + 1)))))
                (fun h13 =>
                L.jumpG mixed 8 [0, 1, 5, 11, 12, 13] [] [] (by kernel_rfl) (by kernel_rfl) (by kernel_rfl) trivial (by kernel_rfl) (by kernel_rfl) (IH35N (IntKind.i64.wrap (p13 + 1)))))
              (fun h12 =>
              L.jumpG mixed 13 [0, 1, 5, 11, 12, 13] [] [] (by kernel_rfl) (by kernel_rfl) (by kernel_rfl) trivial (by kernel_rfl) (by kernel_rfl) (IH35N (IntKind.i64.wrap (p13 + 1)))))))))))
          (fun h1 =>
          L.frzNil mixed 6 4 (by kernel_rfl) <|
          L.ret _ mixed Try.func53 _ (by kernel_rfl) rfl)
    · subst ep5; rw [F53_3]
      exact
        L.br mixed 5 _ (by kernel_rfl)
          (fun h16 =>
          L.idx mixed 6 _ (rows a1) 10 IntKind.i64 _ (by kernel_rfl) (fun h17a h17b =>
          L.ld mixed 0 26 (rows a1) (p13.toNat * 10 + 0) (.agg ⟨[.int .i64 (getR a1 p13.toNat).P.X, .int .i64 (getR a1 p13.toNat).P.Y, .int .i64 (getR a1 p13.toNat).P.Z, .int .i64 (getR a1 p13.toNat).P.W, .int .i64 (getR a1 p13.toNat).A.e0, .int .i64 (getR a1 p13.toNat).A.e1, .int .i64 (getR a1 p13.toNat).A.e2, .int .i64 (getR a1 p13.toNat).A.e3, .int .i64 (getR a1 p13.toNat).A.e4, .int .i64 (getR a1 p13.toNat).A.e5]⟩) (by kernel_rfl) (loadN_rows (i := p13.toNat) (d := 0) (k := 10) rfl (toNat_lt h17a h17b) (by kernel_rfl) (by kernel_rfl) (Nat.le_of_ble_eq_true (by kernel_rfl)) (by kernel_rfl)) <|
          L.div mixed 11 true IntKind.i64 (IntKind.i64.wrap (p13 + 1)) _ (by kernel_rfl) (fun hd30 =>
          L.idx mixed 0 _ (rows a1) 10 IntKind.i64 _ (by kernel_rfl) (fun h18a h18b =>
          L.ld mixed 0 26 (rows a1) (((IntKind.i64.wrap (p13 + 1)).tmod (↑a1.length : Int)).toNat * 10 + 0) (.agg ⟨[.int .i64 (getR a1 ((IntKind.i64.wrap (p13 + 1)).tmod (↑a1.length : Int)).toNat).P.X, .int .i64 (getR a1 ((IntKind.i64.wrap (p13 + 1)).tmod (↑a1.length : Int)).toNat).P.Y, .int .i64 (getR a1 ((IntKind.i64.wrap (p13 + 1)).tmod (↑a1.length : Int)).toNat).P.Z, .int .i64 (getR a1 ((IntKind.i64.wrap (p13 + 1)).tmod (↑a1.length : Int)).toNat).P.W, .int .i64 (getR a1 ((IntKind.i64.wrap (p13 + 1)).tmod (↑a1.length : Int)).toNat).A.e0, .int .i64 (getR a1 ((IntKind.i64.wrap (p13 + 1)).tmod (↑a1.length : Int)).toNat).A.e1, .int .i64 (getR a1 ((IntKind.i64.wrap (p13 + 1)).tmod (↑a1.length : Int)).toNat).A.e2, .int .i64 (getR a1 ((IntKind.i64.wrap (p13 + 1)).tmod (↑a1.length : Int)).toNat).A.e3, .int .i64 (getR a1 ((IntKind.i64.wrap (p13 + 1)).tmod (↑a1.length : Int)).toNat).A.e4, .int .i64 (getR a1 ((IntKind.i64.wrap (p13 + 1)).tmod (↑a1.length : Int)).toNat).A.e5]⟩) (by kernel_rfl) (loadN_rows (i := ((IntKind.i64.wrap (p13 + 1)).tmod (↑a1.length : Int)).toNat) (d := 0) (k := 10) rfl (toNat_lt h18a h18b) (by kernel_rfl) (by kernel_rfl) (Nat.le_of_ble_eq_true (by kernel_rfl)) (by kernel_rfl)) <|
          L.callO mixed (fun u19 : Int => .int .i64 u19) (k49 K a0 ((getR a1 p13.toNat).P)) (by kernel_rfl) (fun u19 hu19 =>
          L.callO mixed (fun u20 : Int => .int .i64 u20) (k49 K a0 ((getR a1 ((IntKind.i64.wrap (p13 + 1)).tmod (↑a1.length : Int)).toNat).P)) (by kernel_rfl) (fun u20 hu20 =>
          L.br mixed 9 _ (by kernel_rfl)
            (fun h21 =>
            L.app mixed 4 0 80 3 0 p5.length [(Value.int IntKind.i64 ((getR a1 p13.toNat).P.X)), (Value.int IntKind.i64 ((getR a1 p13.toNat).P.Y)), (Value.int IntKind.i64 ((getR a1 p13.toNat).P.Z)), (Value.int IntKind.i64 ((getR a1 p13.toNat).P.W)), (Value.int IntKind.i64 ((getR a1 p13.toNat).A.e0)), (Value.int IntKind.i64 ((getR a1 p13.toNat).A.e1)), (Value.int IntKind.i64 ((getR a1 p13.toNat).A.e2)), (Value.int IntKind.i64 ((getR a1 p13.toNat).A.e3)), (Value.int IntKind.i64 ((getR a1 p13.toNat).A.e4)), (Value.int IntKind.i64 ((getR a1 p13.toNat).A.e5))] p5 ([(getR a1 p13.toNat)] : List TCorner) (by simp) (by kernel_rfl) (by kernel_rfl) (Nat.le_of_ble_eq_true (by kernel_rfl)) (Nat.le_of_ble_eq_true (by kernel_rfl)) (by kernel_rfl) <|
            L.guIs mixed 7 _ true h21 (by kernel_rfl) <|
            L.br mixed 5 _ (by kernel_rfl)
              (fun h22 =>
              L.callO mixed (fun u23 : TCorner => .agg ⟨[.int .i64 u23.P.X, .int .i64 u23.P.Y, .int .i64 u23.P.Z, .int .i64 u23.P.W, .int .i64 u23.A.e0, .int .i64 u23.A.e1, .int .i64 u23.A.e2, .int .i64 u23.A.e3, .int .i64 u23.A.e4, .int .i64 u23.A.e5]⟩) (k47 K a0 ((getR a1 p13.toNat)) ((getR a1 ((IntKind.i64.wrap (p13 + 1)).tmod (↑a1.length : Int)).toNat))) (by kernel_rfl) (fun u23 hu23 =>
              L.app mixed 1 4 80 5 0 ((p5 ++ [getR a1 p13.toNat]).length) [(Value.int IntKind.i64 u23.P.X), (Value.int IntKind.i64 u23.P.Y), (Value.int IntKind.i64 u23.P.Z), (Value.int IntKind.i64 u23.P.W), (Value.int IntKind.i64 u23.A.e0), (Value.int IntKind.i64 u23.A.e1), (Value.int IntKind.i64 u23.A.e2), (Value.int IntKind.i64 u23.A.e3), (Value.int IntKind.i64 u23.A.e4), (Value.int IntKind.i64 u23.A.e5)] (p5 ++ [getR a1 p13.toNat]) ([u23] : List TCorner) (by simp) (by kernel_rfl) (by kernel_rfl) (Nat.le_of_ble_eq_true (by kernel_rfl)) (Nat.le_of_ble_eq_true (by kernel_rfl)) (by kernel_rfl) <|
              L.jumpG mixed 9 [0, 1, 5, 11, 12, 13] [.ownp 6] [rows (p5 ++ [getR a1 p13.toNat] ++ [u23])] (by kernel_rfl) (by kernel_rfl) (by kernel_rfl) ⟨rows_pure _, trivial⟩ (by kernel_rfl) (by kernel_rfl) (IH35O ((p5 ++ [getR a1 p13.toNat] ++ [u23]).length) (p5 ++ [getR a1 p13.toNat] ++ [u23]) (by simp) (IntKind.i64.wrap (p13 + 1)))))
              (fun h22 =>
              L.gu mixed 5 _ (by kernel_rfl)
                (fun h24 =>
                L.br mixed 4 _ (by kernel_rfl)
                  (fun h25 =>
                  L.callO mixed (fun u26 : TCorner => .agg ⟨[.int .i64 u26.P.X, .int .i64 u26.P.Y, .int .i64 u26.P.Z, .int .i64 u26.P.W, .int .i64 u26.A.e0, .int .i64 u26.A.e1, .int .i64 u26.A.e2, .int .i64 u26.A.e3, .int .i64 u26.A.e4, .int .i64 u26.A.e5]⟩) (k47 K a0 ((getR a1 ((IntKind.i64.wrap (p13 + 1)).tmod (↑a1.length : Int)).toNat)) ((getR a1 p13.toNat))) (by kernel_rfl) (fun u26 hu26 =>
                  L.app mixed 1 4 80 5 0 ((p5 ++ [getR a1 p13.toNat]).length) [(Value.int IntKind.i64 u26.P.X), (Value.int IntKind.i64 u26.P.Y), (Value.int IntKind.i64 u26.P.Z), (Value.int IntKind.i64 u26.P.W), (Value.int IntKind.i64 u26.A.e0), (Value.int IntKind.i64 u26.A.e1), (Value.int IntKind.i64 u26.A.e2), (Value.int IntKind.i64 u26.A.e3), (Value.int IntKind.i64 u26.A.e4), (Value.int IntKind.i64 u26.A.e5)] (p5 ++ [getR a1 p13.toNat]) ([u26] : List TCorner) (by simp) (by kernel_rfl) (by kernel_rfl) (Nat.le_of_ble_eq_true (by kernel_rfl)) (Nat.le_of_ble_eq_true (by kernel_rfl)) (by kernel_rfl) <|
                  L.jumpG mixed 9 [0, 1, 5, 11, 12, 13] [.ownp 6] [rows (p5 ++ [getR a1 p13.toNat] ++ [u26])] (by kernel_rfl) (by kernel_rfl) (by kernel_rfl) ⟨rows_pure _, trivial⟩ (by kernel_rfl) (by kernel_rfl) (IH35O ((p5 ++ [getR a1 p13.toNat] ++ [u26]).length) (p5 ++ [getR a1 p13.toNat] ++ [u26]) (by simp) (IntKind.i64.wrap (p13 + 1)))))
                  (fun h25 =>
                  L.jumpG mixed 8 [0, 1, 5, 11, 12, 13] [.ownp 4] [rows (p5 ++ [getR a1 p13.toNat])] (by kernel_rfl) (by kernel_rfl) (by kernel_rfl) ⟨rows_pure _, trivial⟩ (by kernel_rfl) (by kernel_rfl) (IH35O ((p5 ++ [getR a1 p13.toNat]).length) (p5 ++ [getR a1 p13.toNat]) (by simp) (IntKind.i64.wrap (p13 + 1)))))
                (fun h24 =>
                L.jumpG mixed 13 [0, 1, 5, 11, 12, 13] [.ownp 4] [rows (p5 ++ [getR a1 p13.toNat])] (by kernel_rfl) (by kernel_rfl) (by kernel_rfl) ⟨rows_pure _, trivial⟩ (by kernel_rfl) (by kernel_rfl) (IH35O ((p5 ++ [getR a1 p13.toNat]).length) (p5 ++ [getR a1 p13.toNat]) (by simp) (IntKind.i64.wrap (p13 + 1))))))
            (fun h21 =>
            L.guIs mixed 6 _ false h21 (by kernel_rfl) <|
            L.gu mixed 11 _ (by kernel_rfl)
              (fun h27 =>
              L.br mixed 4 _ (by kernel_rfl)
                (fun h28 =>
                L.callO mixed (fun u29 : TCorner => .agg ⟨[.int .i64 u29.P.X, .int .i64 u29.P.Y, .int .i64 u29.P.Z, .int .i64 u29.P.W, .int .i64 u29.A.e0, .int .i64 u29.A.e1, .int .i64 u29.A.e2, .int .i64 u29.A.e3, .int .i64 u29.A.e4, .int .i64 u29.A.e5]⟩) (k47 K a0 ((getR a1 ((IntKind.i64.wrap (p13 + 1)).tmod (↑a1.length : Int)).toNat)) ((getR a1 p13.toNat))) (by kernel_rfl) (fun u29 hu29 =>
                L.app mixed 1 0 80 3 0 p5.length [(Value.int IntKind.i64 u29.P.X), (Value.int IntKind.i64 u29.P.Y), (Value.int IntKind.i64 u29.P.Z), (Value.int IntKind.i64 u29.P.W), (Value.int IntKind.i64 u29.A.e0), (Value.int IntKind.i64 u29.A.e1), (Value.int IntKind.i64 u29.A.e2), (Value.int IntKind.i64 u29.A.e3), (Value.int IntKind.i64 u29.A.e4), (Value.int IntKind.i64 u29.A.e5)] p5 ([u29] : List TCorner) (by simp) (by kernel_rfl) (by kernel_rfl) (Nat.le_of_ble_eq_true (by kernel_rfl)) (Nat.le_of_ble_eq_true (by kernel_rfl)) (by kernel_rfl) <|
                L.jumpG mixed 9 [0, 1, 5, 11, 12, 13] [.ownp 4] [rows (p5 ++ [u29])] (by kernel_rfl) (by kernel_rfl) (by kernel_rfl) ⟨rows_pure _, trivial⟩ (by kernel_rfl) (by kernel_rfl) (IH35O ((p5 ++ [u29]).length) (p5 ++ [u29]) (by simp) (IntKind.i64.wrap (p13 + 1)))))
                (fun h28 =>
                L.jumpG mixed 8 [0, 1, 5, 11, 12, 13] [.ownp 0] [rows p5] (by kernel_rfl) (by kernel_rfl) (by kernel_rfl) ⟨rows_pure _, trivial⟩ (by kernel_rfl) (by kernel_rfl) (IH35O p5.length p5 (by simp) (IntKind.i64.wrap (p13 + 1)))))
              (fun h27 =>
              L.jumpG mixed 13 [0, 1, 5, 11, 12, 13] [.ownp 0] [rows p5] (by kernel_rfl) (by kernel_rfl) (by kernel_rfl) ⟨rows_pure _, trivial⟩ (by kernel_rfl) (by kernel_rfl) (IH35O p5.length p5 (by simp) (IntKind.i64.wrap (p13 + 1)))))))))))
          (fun h16 =>
          L.frzO mixed 6 4 0 p5.length p5 (by simp) (by kernel_rfl) (by kernel_rfl) (by kernel_rfl) <|
          L.ret _ mixed Try.func53 _ (by kernel_rfl) rfl)
theorem c53 (K : Nat) (a0 : Int) (a1 : List TCorner) : ∀ r, F53 K a0 a1 = some r → Con Try.prog 53 [.int .i64 a0, lst a1] (E53 r) := by
  obtain ⟨IH35N, IH35O⟩ := l53 a0 a1 K
  refine Con.lift Try.func53 (by kernel_rfl) rfl (fun _ => rfl) ?_
  unfold F53
  exact
    L.jump mixed 17 [0, 1, 5, 11, 12, 13] (by kernel_rfl) (IH35N 0)
/-! ### 24 -/
abbrev E24 : List TCorner × Int → Value := fun r => .tuple ⟨[lst r.1, .int .i64 r.2]⟩
def F24_6 (a0 : List TCorner) : Nat → (List TCorner) → Int → Option (List TCorner × Int)
  | 0, _, _ => none
  | K + 1, p5, p14 =>
    bif (decide (p14 < 7)) then
      (F53 K p14 p5).bind fun u5 =>
      F24_6 a0 K u5 (IntKind.i64.wrap (p14 + 1))
    else
      some ((p5, 0))
def F24 (K : Nat) (a0 : List TCorner) : Option (List TCorner × Int) :=
  (F52 K a0).bind fun u1 =>
  bif (u1 != 0) then
    some ((([] : List TCorner), u1))
  else
    (F54 K a0).bind fun u3 =>
    F24_6 a0 K u3 0
def H24_6 (fn : Func) (a0 : List TCorner) (p5 : List TCorner) (p14 : Int) : VS := headS fn 6 [(5, lst p5), (14, .int .i64 p14)] []
theorem l24 (a0 : List TCorner) : ∀ K : Nat, (∀ (p5 : List TCorner) (p14 : Int), Lifts Try.prog 24 0 E24 (H24_6 Try.f24 a0 p5 p14) (F24_6 a0 K p5 p14)) := by
  intro K
  induction K with
  | zero =>
    exact fun p5 p14 => (by rw [F24_6]; exact L.no)
  | succ K ih =>
    have IH6 := ih
    refine fun p5 p14 => ?_
    · rw [F24_6]
      exact
        L.br mixed 5 _ (by kernel_rfl)
          (fun h4 =>
          L.callO mixed (fun u5 : List TCorner => lst u5) (c53 K p14 p5) (by kernel_rfl) (fun u5 hu5 =>
          L.jump mixed 8 [5, 14] (by kernel_rfl) (IH6 u5 (IntKind.i64.wrap (p14 + 1)))))
          (fun h4 =>
          L.ret _ mixed Try.func24 _ (by kernel_rfl) rfl)
theorem c24 (K : Nat) (a0 : List TCorner) : ∀ r, F24 K a0 = some r → Con Try.prog 24 [lst a0] (E24 r) := by
  have IH6 := l24 a0 K
  refine Con.lift Try.func24 (by kernel_rfl) rfl (fun _ => rfl) ?_
  unfold F24
  exact
    L.callO mixed (fun u1 : Int => .int .i64 u1) (c52 K a0) (by kernel_rfl) (fun u1 hu1 =>
    L.br mixed 7 _ (by kernel_rfl)
      (fun h2 =>
      L.frzNil mixed 6 2 (by kernel_rfl) <|
      L.ret _ mixed Try.func24 _ (by kernel_rfl) rfl)
      (fun h2 =>
      L.callO mixed (fun u3 : List TCorner => lst u3) (c54 K a0) (by kernel_rfl) (fun u3 hu3 =>
      L.jump mixed 9 [5, 14] (by kernel_rfl) (IH6 u3 0))))
/-! ### 20 -/
abbrev E20 : Int → Value := fun r => .int .i64 r
def F20_4 (a0 : List TCorner) : Nat → Int → Option Int
  | 0, _ => none
  | K + 1, p3 =>
    bif (decide (p3 < (↑a0.length : Int))) then
      bif inR p3 a0.length then
        bif (!F48 (getR a0 p3.toNat)) then
          some 3
        else
          F20_4 a0 K (IntKind.i64.wrap (p3 + 1))
      else none
    else
      some 0
def F20 (K : Nat) (a0 : List TCorner) : Option Int :=
  bif (decide ((↑a0.length : Int) > 16)) then
    some 4
  else
    F20_4 a0 K 0
def H20_4 (fn : Func) (a0 : List TCorner) (p3 : Int) : VS := headS fn 4 [(0, (lst a0)), (3, .int .i64 p3)] []
theorem l20 (a0 : List TCorner) : ∀ K : Nat, (∀ (p3 : Int), Lifts Try.prog 20 0 E20 (H20_4 Try.f20 a0 p3) (F20_4 a0 K p3)) := by
  intro K
  induction K with
  | zero =>
    exact fun p3 => (by rw [F20_4]; exact L.no)
  | succ K ih =>
    have IH4 := ih
    refine fun p3 => ?_
    · rw [F20_4]
      exact
        L.br mixed 8 _ (by kernel_rfl)
          (fun h2 =>
          L.idx mixed 7 _ (rows a0) 10 IntKind.i64 _ (by kernel_rfl) (fun h3a h3b =>
          L.ld mixed 0 26 (rows a0) (p3.toNat * 10 + 0) (.agg ⟨[.int .i64 (getR a0 p3.toNat).P.X, .int .i64 (getR a0 p3.toNat).P.Y, .int .i64 (getR a0 p3.toNat).P.Z, .int .i64 (getR a0 p3.toNat).P.W, .int .i64 (getR a0 p3.toNat).A.e0, .int .i64 (getR a0 p3.toNat).A.e1, .int .i64 (getR a0 p3.toNat).A.e2, .int .i64 (getR a0 p3.toNat).A.e3, .int .i64 (getR a0 p3.toNat).A.e4, .int .i64 (getR a0 p3.toNat).A.e5]⟩) (by kernel_rfl) (loadN_rows (i := p3.toNat) (d := 0) (k := 10) rfl (toNat_lt h3a h3b) (by kernel_rfl) (by kernel_rfl) (Nat.le_of_ble_eq_true (by kernel_rfl)) (by kernel_rfl)) <|
          L.call mixed (k16 ((getR a0 p3.toNat))) (by kernel_rfl) <|
          L.br mixed 2 _ (by kernel_rfl)
            (fun h4 =>
            L.ret _ mixed Try.func20 _ (by kernel_rfl) rfl)
            (fun h4 =>
            L.jump mixed 8 [0, 3] (by kernel_rfl) (IH4 (IntKind.i64.wrap (p3 + 1))))))
          (fun h2 =>
          L.ret _ mixed Try.func20 _ (by kernel_rfl) rfl)
theorem c20 (K : Nat) (a0 : List TCorner) : ∀ r, F20 K a0 = some r → Con Try.prog 20 [lst a0] (E20 r) := by
  have IH4 := l20 a0 K
  refine Con.lift Try.func20 (by kernel_rfl) rfl (fun _ => rfl) ?_
  unfold F20
  exact
    L.br mixed 11 _ (by kernel_rfl)
      (fun h1 =>
      L.ret _ mixed Try.func20 _ (by kernel_rfl) rfl)
      (fun h1 =>
      L.jump mixed 8 [0, 3] (by kernel_rfl) (IH4 0))
/-! ### 21 -/
abbrev E21 : Bool → Value := fun r => .bool r
def F21_4 (a0 : List TCorner) (a1 : List TCorner) : Nat → Int → Option Bool
  | 0, _ => none
  | K + 1, p5 =>
    bif (decide (p5 < (↑a0.length : Int))) then
      bif inR p5 a0.length then
        bif inR p5 a1.length then
          bif (bif true then !((getR a0 p5.toNat).P.X == (getR a1 p5.toNat).P.X && ((getR a0 p5.toNat).P.Y == (getR a1 p5.toNat).P.Y && ((getR a0 p5.toNat).P.Z == (getR a1 p5.toNat).P.Z && ((getR a0 p5.toNat).P.W == (getR a1 p5.toNat).P.W && true))) && ((getR a0 p5.toNat).A.e0 == (getR a1 p5.toNat).A.e0 && ((getR a0 p5.toNat).A.e1 == (getR a1 p5.toNat).A.e1 && ((getR a0 p5.toNat).A.e2 == (getR a1 p5.toNat).A.e2 && ((getR a0 p5.toNat).A.e3 == (getR a1 p5.toNat).A.e3 && ((getR a0 p5.toNat).A.e4 == (getR a1 p5.toNat).A.e4 && ((getR a0 p5.toNat).A.e5 == (getR a1 p5.toNat).A.e5 && true))))) && true)) else (getR a0 p5.toNat).P.X == (getR a1 p5.toNat).P.X && ((getR a0 p5.toNat).P.Y == (getR a1 p5.toNat).P.Y && ((getR a0 p5.toNat).P.Z == (getR a1 p5.toNat).P.Z && ((getR a0 p5.toNat).P.W == (getR a1 p5.toNat).P.W && true))) && ((getR a0 p5.toNat).A.e0 == (getR a1 p5.toNat).A.e0 && ((getR a0 p5.toNat).A.e1 == (getR a1 p5.toNat).A.e1 && ((getR a0 p5.toNat).A.e2 == (getR a1 p5.toNat).A.e2 && ((getR a0 p5.toNat).A.e3 == (getR a1 p5.toNat).A.e3 && ((getR a0 p5.toNat).A.e4 == (getR a1 p5.toNat).A.e4 && ((getR a0 p5.toNat).A.e5 == (getR a1 p5.toNat).A.e5 && true))))) && true)) then
            some false
          else
            F21_4 a0 a1 K (IntKind.i64.wrap (p5 + 1))
        else none
      else none
    else
      some true
def F21 (K : Nat) (a0 : List TCorner) (a1 : List TCorner) : Option Bool :=
  bif ((↑a0.length : Int) != (↑a1.length : Int)) then
    some false
  else
    F21_4 a0 a1 K 0
def H21_4 (fn : Func) (a0 : List TCorner) (a1 : List TCorner) (p5 : Int) : VS := headS fn 4 [(0, (lst a0)), (1, (lst a1)), (5, .int .i64 p5)] []
theorem l21 (a0 : List TCorner) (a1 : List TCorner) : ∀ K : Nat, (∀ (p5 : Int), Lifts Try.prog 21 0 E21 (H21_4 Try.f21 a0 a1 p5) (F21_4 a0 a1 K p5)) := by
  intro K
  induction K with
  | zero =>
    exact fun p5 => (by rw [F21_4]; exact L.no)
  | succ K ih =>
    have IH4 := ih
    refine fun p5 => ?_
    · rw [F21_4]
      exact
        L.br mixed 8 _ (by kernel_rfl)
          (fun h2 =>
          L.idx mixed 7 _ (rows a0) 10 IntKind.i64 _ (by kernel_rfl) (fun h3a h3b =>
          L.ld mixed 0 26 (rows a0) (p5.toNat * 10 + 0) (.agg ⟨[.int .i64 (getR a0 p5.toNat).P.X, .int .i64 (getR a0 p5.toNat).P.Y, .int .i64 (getR a0 p5.toNat).P.Z, .int .i64 (getR a0 p5.toNat).P.W, .int .i64 (getR a0 p5.toNat).A.e0, .int .i64 (getR a0 p5.toNat).A.e1, .int .i64 (getR a0 p5.toNat).A.e2, .int .i64 (getR a0 p5.toNat).A.e3, .int .i64 (getR a0 p5.toNat).A.e4, .int .i64 (getR a0 p5.toNat).A.e5]⟩) (by kernel_rfl) (loadN_rows (i := p5.toNat) (d := 0) (k := 10) rfl (toNat_lt h3a h3b) (by kernel_rfl) (by kernel_rfl) (Nat.le_of_ble_eq_true (by kernel_rfl)) (by kernel_rfl)) <|
          L.idx mixed 2 _ (rows a1) 10 IntKind.i64 _ (by kernel_rfl) (fun h4a h4b =>
          L.ld mixed 0 26 (rows a1) (p5.toNat * 10 + 0) (.agg ⟨[.int .i64 (getR a1 p5.toNat).P.X, .int .i64 (getR a1 p5.toNat).P.Y, .int .i64 (getR a1 p5.toNat).P.Z, .int .i64 (getR a1 p5.toNat).P.W, .int .i64 (getR a1 p5.toNat).A.e0, .int .i64 (getR a1 p5.toNat).A.e1, .int .i64 (getR a1 p5.toNat).A.e2, .int .i64 (getR a1 p5.toNat).A.e3, .int .i64 (getR a1 p5.toNat).A.e4, .int .i64 (getR a1 p5.toNat).A.e5]⟩) (by kernel_rfl) (loadN_rows (i := p5.toNat) (d := 0) (k := 10) rfl (toNat_lt h4a h4b) (by kernel_rfl) (by kernel_rfl) (Nat.le_of_ble_eq_true (by kernel_rfl)) (by kernel_rfl)) <|
          L.br mixed 2 _ (by kernel_rfl)
            (fun h5 =>
            L.ret _ mixed Try.func21 _ (by kernel_rfl) rfl)
            (fun h5 =>
            L.jump mixed 8 [0, 1, 5] (by kernel_rfl) (IH4 (IntKind.i64.wrap (p5 + 1)))))))
          (fun h2 =>
          L.ret _ mixed Try.func21 _ (by kernel_rfl) rfl)
theorem c21 (K : Nat) (a0 : List TCorner) (a1 : List TCorner) : ∀ r, F21 K a0 a1 = some r → Con Try.prog 21 [lst a0, lst a1] (E21 r) := by
  have IH4 := l21 a0 a1 K
  refine Con.lift Try.func21 (by kernel_rfl) rfl (fun _ => rfl) ?_
  unfold F21
  exact
    L.br mixed 13 _ (by kernel_rfl)
      (fun h1 =>
      L.ret _ mixed Try.func21 _ (by kernel_rfl) rfl)
      (fun h1 =>
      L.jump mixed 8 [0, 1, 5] (by kernel_rfl) (IH4 0))
/-! ### 22 -/
abbrev E22 : List TCorner → Value := fun r => lst r
def F22_3 (a0 : Int) (a1 : List TCorner) : Nat → (List TCorner) → Int → Option (List TCorner)
  | 0, _, _ => none
  | K + 1, p5, p6 =>
    bif (decide (p6 < (↑a1.length : Int))) then
      bif inR p6 a1.length then
        bif ((↑a1.length : Int)) != 0 then
          bif inR ((IntKind.i64.wrap (p6 + 1)).tmod (↑a1.length : Int)) a1.length then
            (F49 K a0 ((getR a1 p6.toNat).P)).bind fun u22 =>
            (F49 K a0 ((getR a1 ((IntKind.i64.wrap (p6 + 1)).tmod (↑a1.length : Int)).toNat).P)).bind fun u23 =>
            bif (decide (u22 ≥ 0)) then
              bif room (p5.length + ([(getR a1 p6.toNat)] : List TCorner).length) 80 then
                bif (bif true then !decide (u23 ≥ 0) else false) then
                  (F47 K a0 ((getR a1 p6.toNat)) ((getR a1 ((IntKind.i64.wrap (p6 + 1)).tmod (↑a1.length : Int)).toNat))).bind fun u26 =>
                  bif room ((p5 ++ [getR a1 p6.toNat]).length + ([u26] : List TCorner).length) 80 then
                    bif (!decide (u22 ≥ 0)) then
                      bif (bif true then decide (u23 ≥ 0) else false) then
                        (F47 K a0 ((getR a1 ((IntKind.i64.wrap (p6 + 1)).tmod (↑a1.length : Int)).toNat)) ((getR a1 p6.toNat))).bind fun u29 =>
                        bif room ((p5 ++ [getR a1 p6.toNat] ++ [u26]).length + ([u29] : List TCorner).length) 80 then
                          F22_3 a0 a1 K (p5 ++ [getR a1 p6.toNat] ++ [u26] ++ [u29]) (IntKind.i64.wrap (p6 + 1))
                        else none
                      else
                        F22_3 a0 a1 K (p5 ++ [getR a1 p6.toNat] ++ [u26]) (IntKind.i64.wrap (p6 + 1))
                    else
                      F22_3 a0 a1 K (p5 ++ [getR a1 p6.toNat] ++ [u26]) (IntKind.i64.wrap (p6 + 1))
                  else none
                else
                  bif (!decide (u22 ≥ 0)) then
                    bif (bif true then decide (u23 ≥ 0) else false) then
                      (F47 K a0 ((getR a1 ((IntKind.i64.wrap (p6 + 1)).tmod (↑a1.length : Int)).toNat)) ((getR a1 p6.toNat))).bind fun u32 =>
                      bif room ((p5 ++ [getR a1 p6.toNat]).length + ([u32] : List TCorner).length) 80 then
                        F22_3 a0 a1 K (p5 ++ [getR a1 p6.toNat] ++ [u32]) (IntKind.i64.wrap (p6 + 1))
                      else none
                    else
                      F22_3 a0 a1 K (p5 ++ [getR a1 p6.toNat]) (IntKind.i64.wrap (p6 + 1))
                  else
                    F22_3 a0 a1 K (p5 ++ [getR a1 p6.toNat]) (IntKind.i64.wrap (p6 + 1))
              else none
            else
              bif (!decide (u22 ≥ 0)) then
                bif (bif true then decide (u23 ≥ 0) else false) then
                  (F47 K a0 ((getR a1 ((IntKind.i64.wrap (p6 + 1)).tmod (↑a1.length : Int)).toNat)) ((getR a1 p6.toNat))).bind fun u35 =>
                  bif room (p5.length + ([u35] : List TCorner).length) 80 then
                    F22_3 a0 a1 K (p5 ++ [u35]) (IntKind.i64.wrap (p6 + 1))
                  else none
                else
                  F22_3 a0 a1 K p5 (IntKind.i64.wrap (p6 + 1))
              else
                F22_3 a0 a1 K p5 (IntKind.i64.wrap (p6 + 1))
          else none
        else none
      else none
    else
      some p5
def F22 (K : Nat) (a0 : Int) (a1 : List TCorner) : Option (List TCorner) :=
  F22_3 a0 a1 K [] 0
def H22_35N (fn : Func) (a0 : Int) (a1 : List TCorner) (p6 : Int) : VS := headS fn 3 [(0, (Value.int IntKind.i64 a0)), (1, (lst a1)), (5, .slice none 0 0), (6, .int .i64 p6)] []
def H22_35O (fn : Func) (a0 : Int) (a1 : List TCorner) (np5 : Nat) (p5 : List TCorner) (p6 : Int) : VS := headS fn 3 [(0, (Value.int IntKind.i64 a0)), (1, (lst a1)), (5, .slice (some ⟨0, 0, none⟩) np5 np5), (6, .int .i64 p6)] [ownB p5]
theorem l22 (a0 : Int) (a1 : List TCorner) : ∀ K : Nat, (∀ (p6 : Int), Lifts Try.prog 22 0 E22 (H22_35N Try.f22 a0 a1 p6) (F22_3 a0 a1 K [] p6)) ∧ (∀ (np5 : Nat) (p5 : List TCorner) (_ : np5 = p5.length) (p6 : Int), Lifts Try.prog 22 0 E22 (H22_35O Try.f22 a0 a1 np5 p5 p6) (F22_3 a0 a1 K p5 p6)) := by
  intro K
  induction K with
  | zero =>
    exact ⟨fun p6 => (by rw [F22_3]; exact L.no), fun np5 p5 ep5 p6 => (by rw [F22_3]; exact L.no)⟩
  | succ K ih =>
    obtain ⟨IH35N, IH35O⟩ := ih
    refine ⟨fun p6 => ?_, fun np5 p5 ep5 p6 => ?_⟩
    · rw [F22_3]
      exact
        L.br mixed 8 _ (by kernel_rfl)
          (fun h1 =>
          L.idx mixed 7 _ (rows a1) 10 IntKind.i64 _ (by kernel_rfl) (fun h2a h2b =>
          L.ld mixed 0 26 (rows a1) (p6.toNat * 10 + 0) (.agg ⟨[.int .i64 (getR a1 p6.toNat).P.X, .int .i64 (getR a1 p6.toNat).P.Y, .int .i64 (getR a1 p6.toNat).P.Z, .int .i64 (getR a1 p6.toNat).P.W, .int .i64 (getR a1 p6.toNat).A.e0, .int .i64 (getR a1 p6.toNat).A.e1, .int .i64 (getR a1 p6.toNat).A.e2, .int .i64 (getR a1 p6.toNat).A.e3, .int .i64 (getR a1 p6.toNat).A.e4, .int .i64 (getR a1 p6.toNat).A.e5]⟩) (by kernel_rfl) (loadN_rows (i := p6.toNat) (d := 0) (k := 10) rfl (toNat_lt h2a h2b) (by kernel_rfl) (by kernel_rfl) (Nat.le_of_ble_eq_true (by kernel_rfl)) (by kernel_rfl)) <|
          L.div mixed 10 true IntKind.i64 (IntKind.i64.wrap (p6 + 1)) _ (by kernel_rfl) (fun hd18 =>
          L.idx mixed 0 _ (rows a1) 10 IntKind.i64 _ (by kernel_rfl) (fun h3a h3b =>
          L.ld mixed 0 26 (rows a1) (((IntKind.i64.wrap (p6 + 1)).tmod (↑a1.length : Int)).toNat * 10 + 0) (.agg ⟨[.int .i64 (getR a1 ((IntKind.i64.wrap (p6 + 1)).tmod (↑a1.length : Int)).toNat).P.X, .int .i64 (getR a1 ((IntKind.i64.wrap (p6 + 1)).tmod (↑a1.length : Int)).toNat).P.Y, .int .i64 (getR a1 ((IntKind.i64.wrap (p6 + 1)).tmod (↑a1.length : Int)).toNat).P.Z, .int .i64 (getR a1 ((IntKind.i64.wrap (p6 + 1)).tmod (↑a1.length : Int)).toNat).P.W, .int .i64 (getR a1 ((IntKind.i64.wrap (p6 + 1)).tmod (↑a1.length : Int)).toNat).A.e0, .int .i64 (getR a1 ((IntKind.i64.wrap (p6 + 1)).tmod (↑a1.length : Int)).toNat).A.e1, .int .i64 (getR a1 ((IntKind.i64.wrap (p6 + 1)).tmod (↑a1.length : Int)).toNat).A.e2, .int .i64 (getR a1 ((IntKind.i64.wrap (p6 + 1)).tmod (↑a1.length : Int)).toNat).A.e3, .int .i64 (getR a1 ((IntKind.i64.wrap (p6 + 1)).tmod (↑a1.length : Int)).toNat).A.e4, .int .i64 (getR a1 ((IntKind.i64.wrap (p6 + 1)).tmod (↑a1.length : Int)).toNat).A.e5]⟩) (by kernel_rfl) (loadN_rows (i := ((IntKind.i64.wrap (p6 + 1)).tmod (↑a1.length : Int)).toNat) (d := 0) (k := 10) rfl (toNat_lt h3a h3b) (by kernel_rfl) (by kernel_rfl) (Nat.le_of_ble_eq_true (by kernel_rfl)) (by kernel_rfl)) <|
          L.callO mixed (fun u4 : Int => .int .i64 u4) (k17 K a0 ((getR a1 p6.toNat).P)) (by kernel_rfl) (fun u4 hu4 =>
          L.callO mixed (fun u5 : Int => .int .i64 u5) (k17 K a0 ((getR a1 ((IntKind.i64.wrap (p6 + 1)).tmod (↑a1.length : Int)).toNat).P)) (by kernel_rfl) (fun u5 hu5 =>
          L.br mixed 8 _ (by kernel_rfl)
            (fun h6 =>
            L.push0 mixed 4 80 2 0 [(Value.int IntKind.i64 ((getR a1 p6.toNat).P.X)), (Value.int IntKind.i64 ((getR a1 p6.toNat).P.Y)), (Value.int IntKind.i64 ((getR a1 p6.toNat).P.Z)), (Value.int IntKind.i64 ((getR a1 p6.toNat).P.W)), (Value.int IntKind.i64 ((getR a1 p6.toNat).A.e0)), (Value.int IntKind.i64 ((getR a1 p6.toNat).A.e1)), (Value.int IntKind.i64 ((getR a1 p6.toNat).A.e2)), (Value.int IntKind.i64 ((getR a1 p6.toNat).A.e3)), (Value.int IntKind.i64 ((getR a1 p6.toNat).A.e4)), (Value.int IntKind.i64 ((getR a1 p6.toNat).A.e5))] ([(getR a1 p6.toNat)] : List TCorner) (by kernel_rfl) (Nat.le_of_ble_eq_true (by kernel_rfl)) (Nat.le_of_ble_eq_true (by kernel_rfl)) (by kernel_rfl) <|
            L.guIs mixed 7 _ true h6 (by kernel_rfl) <|
            L.br mixed 4 _ (by kernel_rfl)
              (fun h7 =>
              L.callO mixed (fun u8 : TCorner => .agg ⟨[.int .i64 u8.P.X, .int .i64 u8.P.Y, .int .i64 u8.P.Z, .int .i64 u8.P.W, .int .i64 u8.A.e0, .int .i64 u8.A.e1, .int .i64 u8.A.e2, .int .i64 u8.A.e3, .int .i64 u8.A.e4, .int .i64 u8.A.e5]⟩) (k18 K a0 ((getR a1 p6.toNat)) ((getR a1 ((IntKind.i64.wrap (p6 + 1)).tmod (↑a1.length : Int)).toNat))) (by kernel_rfl) (fun u8 hu8 =>
              L.app mixed 1 3 80 4 0 ([getR a1 p6.toNat].length) [(Value.int IntKind.i64 u8.P.X), (Value.int IntKind.i64 u8.P.Y), (Value.int IntKind.i64 u8.P.Z), (Value.int IntKind.i64 u8.P.W), (Value.int IntKind.i64 u8.A.e0), (Value.int IntKind.i64 u8.A.e1), (Value.int IntKind.i64 u8.A.e2), (Value.int IntKind.i64 u8.A.e3), (Value.int IntKind.i64 u8.A.e4), (Value.int IntKind.i64 u8.A.e5)] [getR a1 p6.toNat] ([u8] : List TCorner) (by simp) (by kernel_rfl) (by kernel_rfl) (Nat.le_of_ble_eq_true (by kernel_rfl)) (Nat.le_of_ble_eq_true (by kernel_rfl)) (by kernel_rfl) <|
              L.gu mixed 7 _ (by kernel_rfl)
                (fun h9 =>
                L.br mixed 3 _ (by kernel_rfl)
                  (fun h10 =>
                  L.callO mixed (fun u11 : TCorner => .agg ⟨[.int .i64 u11.P.X, .int .i64 u11.P.Y, .int .i64 u11.P.Z, .int .i64 u11.P.W, .int .i64 u11.A.e0, .int .i64 u11.A.e1, .int .i64 u11.A.e2, .int .i64 u11.A.e3, .int .i64 u11.A.e4, .int .i64 u11.A.e5]⟩) (k18 K a0 ((getR a1 ((IntKind.i64.wrap (p6 + 1)).tmod (↑a1.length : Int)).toNat)) ((getR a1 p6.toNat))) (by kernel_rfl) (fun u11 hu11 =>
                  L.app mixed 1 5 80 6 0 (([getR a1 p6.toNat] ++ [u8]).length) [(Value.int IntKind.i64 u11.P.X), (Value.int IntKind.i64 u11.P.Y), (Value.int IntKind.i64 u11.P.Z), (Value.int IntKind.i64 u11.P.W), (Value.int IntKind.i64 u11.A.e0), (Value.int IntKind.i64 u11.A.e1), (Value.int IntKind.i64 u11.A.e2), (Value.int IntKind.i64 u11.A.e3), (Value.int IntKind.i64 u11.A.e4), (Value.int IntKind.i64 u11.A.e5)] ([getR a1 p6.toNat] ++ [u8]) ([u11] : List TCorner) (by simp) (by kernel_rfl) (by kernel_rfl) (Nat.le_of_ble_eq_true (by kernel_rfl)) (Nat.le_of_ble_eq_true (by kernel_rfl)) (by kernel_rfl) <|
                  L.jumpG mixed 9 [0, 1, 5, 6] [.ownp 7] [rows ([getR a1 p6.toNat] ++ [u8] ++ [u11])] (by kernel_rfl) (by kernel_rfl) (by kernel_rfl) ⟨rows_pure _, trivial⟩ (by kernel_rfl) (by kernel_rfl) (IH35O (([getR a1 p6.toNat] ++ [u8] ++ [u11]).length) ([getR a1 p6.toNat] ++ [u8] ++ [u11]) (by simp) (IntKind.i64.wrap (p6 + 1)))))
                  (fun h10 =>
                  L.jumpG mixed 8 [0, 1, 5, 6] [.ownp 5] [rows ([getR a1 p6.toNat] ++ [u8])] (by kernel_rfl) (by kernel_rfl) (by kernel_rfl) ⟨rows_pure _, trivial⟩ (by kernel_rfl) (by kernel_rfl) (IH35O (([getR a1 p6.toNat] ++ [u8]).length) ([getR a1 p6.toNat] ++ [u8]) (by simp) (IntKind.i64.wrap (p6 + 1)))))
                (fun h9 =>
                L.jumpG mixed 12 [0, 1, 5, 6] [.ownp 5] [rows ([getR a1 p6.toNat] ++ [u8])] (by kernel_rfl) (by kernel_rfl) (by kernel_rfl) ⟨rows_pure _, trivial⟩ (by kernel_rfl) (by kernel_rfl) (IH35O (([getR a1 p6.toNat] ++ [u8]).length) ([getR a1 p6.toNat] ++ [u8]) (by simp) (IntKind.i64.wrap (p6 + 1))))))
              (fun h7 =>
              L.gu mixed 6 _ (by kernel_rfl)
                (fun h12 =>
                L.br mixed 3 _ (by kernel_rfl)
                  (fun h13 =>
                  L.callO mixed (fun u14 : TCorner => .agg ⟨[.int .i64 u14.P.X, .int .i64 u14.P.Y, .int .i64 u14.P.Z, .int .i64 u14.P.W, .int .i64 u14.A.e0, .int .i64 u14.A.e1, .int .i64 u14.A.e2, .int .i64 u14.A.e3, .int .i64 u14.A.e4, .int .i64 u14.A.e5]⟩) (k18 K a0 ((getR a1 ((IntKind.i64.wrap (p6 + 1)).tmod (↑a1.length : Int)).toNat)) ((getR a1 p6.toNat))) (by kernel_rfl) (fun u14 hu14 =>
                  L.app mixed 1 3 80 4 0 ([getR a1 p6.toNat].length) [(Value.int IntKind.i64 u14.P.X), (Value.int IntKind.i64 u14.P.Y), (Value.int IntKind.i64 u14.P.Z), (Value.int IntKind.i64 u14.P.W), (Value.int IntKind.i64 u14.A.e0), (Value.int IntKind.i64 u14.A.e1), (Value.int IntKind.i64 u14.A.e2), (Value.int IntKind.i64 u14.A.e3), (Value.int IntKind.i64 u14.A.e4), (Value.int IntKind.i64 u14.A.e5)] [getR a1 p6.toNat] ([u14] : List TCorner) (by simp) (by kernel_rfl) (by kernel_rfl) (Nat.le_of_ble_eq_true (by kernel_rfl)) (Nat.le_of_ble_eq_true (by kernel_rfl)) (by kernel_rfl) <|
                  L.jumpG mixed 9 [0, 1, 5, 6] [.ownp 5] [rows ([getR a1 p6.toNat] ++ [u14])] (by kernel_rfl) (by kernel_rfl) (by kernel_rfl) ⟨rows_pure _, trivial⟩ (by kernel_rfl) (by kernel_rfl) (IH35O (([getR a1 p6.toNat] ++ [u14]).length) ([getR a1 p6.toNat] ++ [u14]) (by simp) (IntKind.i64.wrap (p6 + 1)))))
                  (fun h13 =>
                  L.jumpG mixed 8 [0, 1, 5, 6] [.ownp 3] [rows [getR a1 p6.toNat]] (by kernel_rfl) (by kernel_rfl) (by kernel_rfl) ⟨rows_pure _, trivial⟩ (by kernel_rfl) (by kernel_rfl) (IH35O ([getR a1 p6.toNat].length) [getR a1 p6.toNat] (by simp) (IntKind.i64.wrap (p6 + 1)))))
                (fun h12 =>
                L.jumpG mixed 12 [0, 1, 5, 6] [.ownp 3] [rows [getR a1 p6.toNat]] (by kernel_rfl) (by kernel_rfl) (by kernel_rfl) ⟨rows_pure _, trivial⟩ (by kernel_rfl) (by kernel_rfl) (IH35O ([getR a1 p6.toNat].length) [getR a1 p6.toNat] (by simp) (IntKind.i64.wrap (p6 + 1))))))
            (fun h6 =>
            L.guIs mixed 6 _ false h6 (by kernel_rfl) <|
            L.gu mixed 11 _ (by kernel_rfl)
              (fun h15 =>
              L.br mixed 3 _ (by kernel_rfl)
                (fun h16 =>
                L.callO mixed (fun u17 : TCorner => .agg ⟨[.int .i64 u17.P.X, .int .i64 u17.P.Y, .int .i64 u17.P.Z, .int .i64 u17.P.W, .int .i64 u17.A.e0, .int .i64 u17.A.e1, .int .i64 u17.A.e2, .int .i64 u17.A.e3, .int .i64 u17.A.e4, .int .i64 u17.A.e5]⟩) (k18 K a0 ((getR a1 ((IntKind.i64.wrap (p6 + 1)).tmod (↑a1.length : Int)).toNat)) ((getR a1 p6.toNat))) (by kernel_rfl) (fun u17 hu17 =>
                L.push0 mixed 1 80 2 0 [(Value.int IntKind.i64 u17.P.X), (Value.int IntKind.i64 u17.P.Y), (Value.int IntKind.i64 u17.P.Z), (Value.int IntKind.i64 u17.P.W), (Value.int IntKind.i64 u17.A.e0), (Value.int IntKind.i64 u17.A.e1), (Value.int IntKind.i64 u17.A.e2), (Value.int IntKind.i64 u17.A.e3), (Value.int IntKind.i64 u17.A.e4), (Value.int IntKind.i64 u17.A.e5)] ([u17] : List TCorner) (by kernel_rfl) (Nat.le_of_ble_eq_true (by kernel_rfl)) (Nat.le_of_ble_eq_true (by kernel_rfl)) (by kernel_rfl) <|
                L.jumpG mixed 9 [0, 1, 5, 6] [.ownp 3] [rows [u17]] (by kernel_rfl) (by kernel_rfl) (by kernel_rfl) ⟨rows_pure _, trivial⟩ (by kernel_rfl) (by kernel_rfl) (IH35O [u17].length [u17] (by simp) (IntKind.i64.wrap (p6 + 1)))))
                (fun h16 =>
                L.jumpG mixed 8 [0, 1, 5, 6] [] [] (by kernel_rfl) (by kernel_rfl) (by kernel_rfl) trivial (by kernel_rfl) (by kernel_rfl) (IH35N (IntKind.i64.wrap (p6 + 1)))))
              (fun h15 =>
              L.jumpG mixed 12 [0, 1, 5, 6] [] [] (by kernel_rfl) (by kernel_rfl) (by kernel_rfl) trivial (by kernel_rfl) (by kernel_rfl) (IH35N (IntKind.i64.wrap (p6 + 1)))))))))))
          (fun h1 =>
          L.frzNil mixed 6 4 (by kernel_rfl) <|
          L.ret _ mixed Try.func22 _ (by kernel_rfl) rfl)
    · subst ep5; rw [F22_3]
      exact
        L.br mixed 8 _ (by kernel_rfl)
          (fun h19 =>
          L.idx mixed 7 _ (rows a1) 10 IntKind.i64 _ (by kernel_rfl) (fun h20a h20b =>
          L.ld mixed 0 26 (rows a1) (p6.toNat * 10 + 0) (.agg ⟨[.int .i64 (getR a1 p6.toNat).P.X, .int .i64 (getR a1 p6.toNat).P.Y, .int .i64 (getR a1 p6.toNat).P.Z, .int .i64 (getR a1 p6.toNat).P.W, .int .i64 (getR a1 p6.toNat).A.e0, .int .i64 (getR a1 p6.toNat).A.e1, .int .i64 (getR a1 p6.toNat).A.e2, .int .i64 (getR a1 p6.toNat).A.e3, .int .i64 (getR a1 p6.toNat).A.e4, .int .i64 (getR a1 p6.toNat).A.e5]⟩) (by kernel_rfl) (loadN_rows (i := p6.toNat) (d := 0) (k := 10) rfl (toNat_lt h20a h20b) (by kernel_rfl) (by kernel_rfl) (Nat.le_of_ble_eq_true (by kernel_rfl)) (by kernel_rfl)) <|
          L.div mixed 10 true IntKind.i64 (IntKind.i64.wrap (p6 + 1)) _ (by kernel_rfl) (fun hd36 =>
          L.idx mixed 0 _ (rows a1) 10 IntKind.i64 _ (by kernel_rfl) (fun h21a h21b =>
          L.ld mixed 0 26 (rows a1) (((IntKind.i64.wrap (p6 + 1)).tmod (↑a1.length : Int)).toNat * 10 + 0) (.agg ⟨[.int .i64 (getR a1 ((IntKind.i64.wrap (p6 + 1)).tmod (↑a1.length : Int)).toNat).P.X, .int .i64 (getR a1 ((IntKind.i64.wrap (p6 + 1)).tmod (↑a1.length : Int)).toNat).P.Y, .int .i64 (getR a1 ((IntKind.i64.wrap (p6 + 1)).tmod (↑a1.length : Int)).toNat).P.Z, .int .i64 (getR a1 ((IntKind.i64.wrap (p6 + 1)).tmod (↑a1.length : Int)).toNat).P.W, .int .i64 (getR a1 ((IntKind.i64.wrap (p6 + 1)).tmod (↑a1.length : Int)).toNat).A.e0, .int .i64 (getR a1 ((IntKind.i64.wrap (p6 + 1)).tmod (↑a1.length : Int)).toNat).A.e1, .int .i64 (getR a1 ((IntKind.i64.wrap (p6 + 1)).tmod (↑a1.length : Int)).toNat).A.e2, .int .i64 (getR a1 ((IntKind.i64.wrap (p6 + 1)).tmod (↑a1.length : Int)).toNat).A.e3, .int .i64 (getR a1 ((IntKind.i64.wrap (p6 + 1)).tmod (↑a1.length : Int)).toNat).A.e4, .int .i64 (getR a1 ((IntKind.i64.wrap (p6 + 1)).tmod (↑a1.length : Int)).toNat).A.e5]⟩) (by kernel_rfl) (loadN_rows (i := ((IntKind.i64.wrap (p6 + 1)).tmod (↑a1.length : Int)).toNat) (d := 0) (k := 10) rfl (toNat_lt h21a h21b) (by kernel_rfl) (by kernel_rfl) (Nat.le_of_ble_eq_true (by kernel_rfl)) (by kernel_rfl)) <|
          L.callO mixed (fun u22 : Int => .int .i64 u22) (k17 K a0 ((getR a1 p6.toNat).P)) (by kernel_rfl) (fun u22 hu22 =>
          L.callO mixed (fun u23 : Int => .int .i64 u23) (k17 K a0 ((getR a1 ((IntKind.i64.wrap (p6 + 1)).tmod (↑a1.length : Int)).toNat).P)) (by kernel_rfl) (fun u23 hu23 =>
          L.br mixed 8 _ (by kernel_rfl)
            (fun h24 =>
            L.app mixed 4 0 80 3 0 p5.length [(Value.int IntKind.i64 ((getR a1 p6.toNat).P.X)), (Value.int IntKind.i64 ((getR a1 p6.toNat).P.Y)), (Value.int IntKind.i64 ((getR a1 p6.toNat).P.Z)), (Value.int IntKind.i64 ((getR a1 p6.toNat).P.W)), (Value.int IntKind.i64 ((getR a1 p6.toNat).A.e0)), (Value.int IntKind.i64 ((getR a1 p6.toNat).A.e1)), (Value.int IntKind.i64 ((getR a1 p6.toNat).A.e2)), (Value.int IntKind.i64 ((getR a1 p6.toNat).A.e3)), (Value.int IntKind.i64 ((getR a1 p6.toNat).A.e4)), (Value.int IntKind.i64 ((getR a1 p6.toNat).A.e5))] p5 ([(getR a1 p6.toNat)] : List TCorner) (by simp) (by kernel_rfl) (by kernel_rfl) (Nat.le_of_ble_eq_true (by kernel_rfl)) (Nat.le_of_ble_eq_true (by kernel_rfl)) (by kernel_rfl) <|
            L.guIs mixed 7 _ true h24 (by kernel_rfl) <|
            L.br mixed 4 _ (by kernel_rfl)
              (fun h25 =>
              L.callO mixed (fun u26 : TCorner => .agg ⟨[.int .i64 u26.P.X, .int .i64 u26.P.Y, .int .i64 u26.P.Z, .int .i64 u26.P.W, .int .i64 u26.A.e0, .int .i64 u26.A.e1, .int .i64 u26.A.e2, .int .i64 u26.A.e3, .int .i64 u26.A.e4, .int .i64 u26.A.e5]⟩) (k18 K a0 ((getR a1 p6.toNat)) ((getR a1 ((IntKind.i64.wrap (p6 + 1)).tmod (↑a1.length : Int)).toNat))) (by kernel_rfl) (fun u26 hu26 =>
              L.app mixed 1 4 80 5 0 ((p5 ++ [getR a1 p6.toNat]).length) [(Value.int IntKind.i64 u26.P.X), (Value.int IntKind.i64 u26.P.Y), (Value.int IntKind.i64 u26.P.Z), (Value.int IntKind.i64 u26.P.W), (Value.int IntKind.i64 u26.A.e0), (Value.int IntKind.i64 u26.A.e1), (Value.int IntKind.i64 u26.A.e2), (Value.int IntKind.i64 u26.A.e3), (Value.int IntKind.i64 u26.A.e4), (Value.int IntKind.i64 u26.A.e5)] (p5 ++ [getR a1 p6.toNat]) ([u26] : List TCorner) (by simp) (by kernel_rfl) (by kernel_rfl) (Nat.le_of_ble_eq_true (by kernel_rfl)) (Nat.le_of_ble_eq_true (by kernel_rfl)) (by kernel_rfl) <|
              L.gu mixed 7 _ (by kernel_rfl)
                (fun h27 =>
                L.br mixed 3 _ (by kernel_rfl)
                  (fun h28 =>
                  L.callO mixed (fun u29 : TCorner => .agg ⟨[.int .i64 u29.P.X, .int .i64 u29.P.Y, .int .i64 u29.P.Z, .int .i64 u29.P.W, .int .i64 u29.A.e0, .int .i64 u29.A.e1, .int .i64 u29.A.e2, .int .i64 u29.A.e3, .int .i64 u29.A.e4, .int .i64 u29.A.e5]⟩) (k18 K a0 ((getR a1 ((IntKind.i64.wrap (p6 + 1)).tmod (↑a1.length : Int)).toNat)) ((getR a1 p6.toNat))) (by kernel_rfl) (fun u29 hu29 =>
                  L.app mixed 1 6 80 7 0 ((p5 ++ [getR a1 p6.toNat] ++ [u26]).length) [(Value.int IntKind.i64 u29.P.X), (Value.int IntKind.i64 u29.P.Y), (Value.int IntKind.i64 u29.P.Z), (Value.int IntKind.i64 u29.P.W), (Value.int IntKind.i64 u29.A.e0), (Value.int IntKind.i64 u29.A.e1), (Value.int IntKind.i64 u29.A.e2), (Value.int IntKind.i64 u29.A.e3), (Value.int IntKind.i64 u29.A.e4), (Value.int IntKind.i64 u29.A.e5)] (p5 ++ [getR a1 p6.toNat] ++ [u26]) ([u29] : List TCorner) (by simp) (by kernel_rfl) (by kernel_rfl) (Nat.le_of_ble_eq_true (by kernel_rfl)) (Nat.le_of_ble_eq_true (by kernel_rfl)) (by kernel_rfl) <|
                  L.jumpG mixed 9 [0, 1, 5, 6] [.ownp 8] [rows (p5 ++ [getR a1 p6.toNat] ++ [u26] ++ [u29])] (by kernel_rfl) (by kernel_rfl) (by kernel_rfl) ⟨rows_pure _, trivial⟩ (by kernel_rfl) (by kernel_rfl) (IH35O ((p5 ++ [getR a1 p6.toNat] ++ [u26] ++ [u29]).length) (p5 ++ [getR a1 p6.toNat] ++ [u26] ++ [u29]) (by simp) (IntKind.i64.wrap (p6 + 1)))))
                  (fun h28 =>
                  L.jumpG mixed 8 [0, 1, 5, 6] [.ownp 6] [rows (p5 ++ [getR a1 p6.toNat] ++ [u26])] (by kernel_rfl) (by kernel_rfl) (by kernel_rfl) ⟨rows_pure _, trivial⟩ (by kernel_rfl) (by kernel_rfl) (IH35O ((p5 ++ [getR a1 p6.toNat] ++ [u26]).length) (p5 ++ [getR a1 p6.toNat] ++ [u26]) (by simp) (IntKind.i64.wrap (p6 + 1)))))
                (fun h27 =>
                L.jumpG mixed 12 [0, 1, 5, 6] [.ownp 6] [rows (p5 ++ [getR a1 p6.toNat] ++ [u26])] (by kernel_rfl) (by kernel_rfl) (by kernel_rfl) ⟨rows_pure _, trivial⟩ (by kernel_rfl) (by kernel_rfl) (IH35O ((p5 ++ [getR a1 p6.toNat] ++ [u26]).length) (p5 ++ [getR a1 p6.toNat] ++ [u26]) (by simp) (IntKind.i64.wrap (p6 + 1))))))
              (fun h25 =>
              L.gu mixed 6 _ (by kernel_rfl)
                (fun h30 =>
                L.br mixed 3 _ (by kernel_rfl)
                  (fun h31 =>
                  L.callO mixed (fun u32 : TCorner => .agg ⟨[.int .i64 u32.P.X, .int .i64 u32.P.Y, .int .i64 u32.P.Z, .int .i64 u32.P.W, .int .i64 u32.A.e0, .int .i64 u32.A.e1, .int .i64 u32.A.e2, .int .i64 u32.A.e3, .int .i64 u32.A.e4, .int .i64 u32.A.e5]⟩) (k18 K a0 ((getR a1 ((IntKind.i64.wrap (p6 + 1)).tmod (↑a1.length : Int)).toNat)) ((getR a1 p6.toNat))) (by kernel_rfl) (fun u32 hu32 =>
                  L.app mixed 1 4 80 5 0 ((p5 ++ [getR a1 p6.toNat]).length) [(Value.int IntKind.i64 u32.P.X), (Value.int IntKind.i64 u32.P.Y), (Value.int IntKind.i64 u32.P.Z), (Value.int IntKind.i64 u32.P.W), (Value.int IntKind.i64 u32.A.e0), (Value.int IntKind.i64 u32.A.e1), (Value.int IntKind.i64 u32.A.e2), (Value.int IntKind.i64 u32.A.e3), (Value.int IntKind.i64 u32.A.e4), (Value.int IntKind.i64 u32.A.e5)] (p5 ++ [getR a1 p6.toNat]) ([u32] : List TCorner) (by simp) (by kernel_rfl) (by kernel_rfl) (Nat.le_of_ble_eq_true (by kernel_rfl)) (Nat.le_of_ble_eq_true (by kernel_rfl)) (by kernel_rfl) <|
                  L.jumpG mixed 9 [0, 1, 5, 6] [.ownp 6] [rows (p5 ++ [getR a1 p6.toNat] ++ [u32])] (by kernel_rfl) (by kernel_rfl) (by kernel_rfl) ⟨rows_pure _, trivial⟩ (by kernel_rfl) (by kernel_rfl) (IH35O ((p5 ++ [getR a1 p6.toNat] ++ [u32]).length) (p5 ++ [getR a1 p6.toNat] ++ [u32]) (by simp) (IntKind.i64.wrap (p6 + 1)))))
                  (fun h31 =>
                  L.jumpG mixed 8 [0, 1, 5, 6] [.ownp 4] [rows (p5 ++ [getR a1 p6.toNat])] (by kernel_rfl) (by kernel_rfl) (by kernel_rfl) ⟨rows_pure _, trivial⟩ (by kernel_rfl) (by kernel_rfl) (IH35O ((p5 ++ [getR a1 p6.toNat]).length) (p5 ++ [getR a1 p6.toNat]) (by simp) (IntKind.i64.wrap (p6 + 1)))))
                (fun h30 =>
                L.jumpG mixed 12 [0, 1, 5, 6] [.ownp 4] [rows (p5 ++ [getR a1 p6.toNat])] (by kernel_rfl) (by kernel_rfl) (by kernel_rfl) ⟨rows_pure _, trivial⟩ (by kernel_rfl) (by kernel_rfl) (IH35O ((p5 ++ [getR a1 p6.toNat]).length) (p5 ++ [getR a1 p6.toNat]) (by simp) (IntKind.i64.wrap (p6 + 1))))))
            (fun h24 =>
            L.guIs mixed 6 _ false h24 (by kernel_rfl) <|
            L.gu mixed 11 _ (by kernel_rfl)
              (fun h33 =>
              L.br mixed 3 _ (by kernel_rfl)
                (fun h34 =>
                L.callO mixed (fun u35 : TCorner => .agg ⟨[.int .i64 u35.P.X, .int .i64 u35.P.Y, .int .i64 u35.P.Z, .int .i64 u35.P.W, .int .i64 u35.A.e0, .int .i64 u35.A.e1, .int .i64 u35.A.e2, .int .i64 u35.A.e3, .int .i64 u35.A.e4, .int .i64 u35.A.e5]⟩) (k18 K a0 ((getR a1 ((IntKind.i64.wrap (p6 + 1)).tmod (↑a1.length : Int)).toNat)) ((getR a1 p6.toNat))) (by kernel_rfl) (fun u35 hu35 =>
                L.app mixed 1 0 80 3 0 p5.length [(Value.int IntKind.i64 u35.P.X), (Value.int IntKind.i64 u35.P.Y), (Value.int IntKind.i64 u35.P.Z), (Value.int IntKind.i64 u35.P.W), (Value.int IntKind.i64 u35.A.e0), (Value.int IntKind.i64 u35.A.e1), (Value.int IntKind.i64 u35.A.e2), (Value.int IntKind.i64 u35.A.e3), (Value.int IntKind.i64 u35.A.e4), (Value.int IntKind.i64 u35.A.e5)] p5 ([u35] : List TCorner) (by simp) (by kernel_rfl) (by kernel_rfl) (Nat.le_of_ble_eq_true (by kernel_rfl)) (Nat.le_of_ble_eq_true (by kernel_rfl)) (by kernel_rfl) <|
                L.jumpG mixed 9 [0, 1, 5, 6] [.ownp 4] [rows (p5 ++ [u35])] (by kernel_rfl) (by kernel_rfl) (by kernel_rfl) ⟨rows_pure _, trivial⟩ (by kernel_rfl) (by kernel_rfl) (IH35O ((p5 ++ [u35]).length) (p5 ++ [u35]) (by simp) (IntKind.i64.wrap (p6 + 1)))))
                (fun h34 =>
                L.jumpG mixed 8 [0, 1, 5, 6] [.ownp 0] [rows p5] (by kernel_rfl) (by kernel_rfl) (by kernel_rfl) ⟨rows_pure _, trivial⟩ (by kernel_rfl) (by kernel_rfl) (IH35O p5.length p5 (by simp) (IntKind.i64.wrap (p6 + 1)))))
              (fun h33 =>
              L.jumpG mixed 12 [0, 1, 5, 6] [.ownp 0] [rows p5] (by kernel_rfl) (by kernel_rfl) (by kernel_rfl) ⟨rows_pure _, trivial⟩ (by kernel_rfl) (by kernel_rfl) (IH35O p5.length p5 (by simp) (IntKind.i64.wrap (p6 + 1)))))))))))
          (fun h19 =>
          L.frzO mixed 6 4 0 p5.length p5 (by simp) (by kernel_rfl) (by kernel_rfl) (by kernel_rfl) <|
          L.ret _ mixed Try.func22 _ (by kernel_rfl) rfl)
theorem c22 (K : Nat) (a0 : Int) (a1 : List TCorner) : ∀ r, F22 K a0 a1 = some r → Con Try.prog 22 [.int .i64 a0, lst a1] (E22 r) := by
  obtain ⟨IH35N, IH35O⟩ := l22 a0 a1 K
  refine Con.lift Try.func22 (by kernel_rfl) rfl (fun _ => rfl) ?_
  unfold F22
  exact
    L.jump mixed 15 [0, 1, 5, 6] (by kernel_rfl) (IH35N 0)
/-! ### 25 -/
abbrev E25 : List TCorner → Value := fun r => lst r
def F25_3 (a0 : List TCorner) : Nat → (List TCorner) → Int → Option (List TCorner)
  | 0, _, _ => none
  | K + 1, p3, p4 =>
    bif (decide (p4 < 7)) then
      (F22 K p4 p3).bind fun u2 =>
      F25_3 a0 K u2 (IntKind.i64.wrap (p4 + 1))
    else
      some p3
def F25 (K : Nat) (a0 : List TCorner) : Option (List TCorner) :=
  bif room a0.length 80 then
    F25_3 a0 K a0 0
  else none
def H25_3 (fn : Func) (a0 : List TCorner) (p3 : List TCorner) (p4 : Int) : VS := headS fn 3 [(3, lst p3), (4, .int .i64 p4)] []
theorem l25 (a0 : List TCorner) : ∀ K : Nat, (∀ (p3 : List TCorner) (p4 : Int), Lifts Try.prog 25 0 E25 (H25_3 Try.f25 a0 p3 p4) (F25_3 a0 K p3 p4)) := by
  intro K
  induction K with
  | zero =>
    exact fun p3 p4 => (by rw [F25_3]; exact L.no)
  | succ K ih =>
    have IH3 := ih
    refine fun p3 p4 => ?_
    · rw [F25_3]
      exact
        L.br mixed 6 _ (by kernel_rfl)
          (fun h1 =>
          L.callO mixed (fun u2 : List TCorner => lst u2) (c22 K p4 p3) (by kernel_rfl) (fun u2 hu2 =>
          L.jump mixed 9 [3, 4] (by kernel_rfl) (IH3 u2 (IntKind.i64.wrap (p4 + 1)))))
          (fun h1 =>
          L.ret _ mixed Try.func25 _ (by kernel_rfl) rfl)
theorem c25 (K : Nat) (a0 : List TCorner) : ∀ r, F25 K a0 = some r → Con Try.prog 25 [lst a0] (E25 r) := by
  have IH3 := l25 a0 K
  refine Con.lift Try.func25 (by kernel_rfl) rfl (fun _ => rfl) ?_
  unfold F25
  exact
    L.none mixed 6 10 (by kernel_rfl) <|
    L.cat0 mixed 1 0 80 a0 (by kernel_rfl) (by kernel_rfl) <|
    L.jumpG mixed 9 [3, 4] [] [] (by kernel_rfl) (by kernel_rfl) (by kernel_rfl) trivial (by kernel_rfl) (by kernel_rfl) (IH3 a0 0)
/-! ### 6 -/
abbrev E6 : Bool → Value := fun r => .bool r
mutual
def F6_8 (a0 : List TCorner) : Nat → (List TCorner) → Int → Option Bool
  | 0, _, _ => none
  | K + 1, p3, p6 =>
    bif (decide (p6 < (↑p3.length : Int))) then
      bif inR p6 p3.length then
        bif (decide ((getR p3 p6.toNat).P.W < 1)) then
          some false
        else
          F6_8 a0 K p3 (IntKind.i64.wrap (p6 + 1))
      else none
    else
      F6_14 a0 K p3 true 0
def F6_14 (a0 : List TCorner) : Nat → (List TCorner) → Bool → Int → Option Bool
  | 0, _, _, _ => none
  | K + 1, p3, p7, p8 =>
    bif (decide (p8 < (↑a0.length : Int))) then
      F6_17 a0 K p3 p7 p8 0
    else
      bif !p7 then
        some (bif true then F15 else false)
      else
        (F21 K p3 a0).bind fun u15 =>
        bif (bif false then true else u15) then
          some (bif true then F15 else false)
        else
          some false
def F6_17 (a0 : List TCorner) : Nat → (List TCorner) → Bool → Int → Int → Option Bool
  | 0, _, _, _, _ => none
  | K + 1, p3, p7, p8, p9 =>
    bif (decide (p9 < 7)) then
      bif p7 then
        bif inR p8 a0.length then
          (F49 K p9 ((getR a0 p8.toNat).P)).bind fun u20 =>
          F6_17 a0 K p3 (bif true then decide (u20 ≥ 0) else false) p8 (IntKind.i64.wrap (p9 + 1))
        else none
      else
        F6_17 a0 K p3 false p8 (IntKind.i64.wrap (p9 + 1))
    else
      F6_14 a0 K p3 p7 (IntKind.i64.wrap (p8 + 1))
end
def F6 (K : Nat) (a0 : List TCorner) : Option Bool :=
  (F24 K a0).bind fun u1 =>
  (F20 K a0).bind fun u2 =>
  bif (u2 != 0) then
    bif ((↑u1.fst.length : Int) == 0) then
      bif (bif true then u1.snd == u2 else false) then
        some (bif true then F15 else false)
      else
        some false
    else
      some false
  else
    bif (u1.snd != 0) then
      some false
    else
      (F25 K a0).bind fun u7 =>
      (F21 K u1.fst u7).bind fun u8 =>
      bif (bif false then true else !u8) then
        some false
      else
        F6_8 a0 K u1.fst 0
def H6_8 (fn : Func) (a0 : List TCorner) (p3 : List TCorner) (p6 : Int) : VS := headS fn 8 [(0, (lst a0)), (3, lst p3), (6, .int .i64 p6)] []
def H6_14 (fn : Func) (a0 : List TCorner) (p3 : List TCorner) (p7 : Bool) (p8 : Int) : VS := headS fn 14 [(0, (lst a0)), (3, lst p3), (7, .bool p7), (8, .int .i64 p8)] []
def H6_17 (fn : Func) (a0 : List TCorner) (p3 : List TCorner) (p7 : Bool) (p8 : Int) (p9 : Int) : VS := headS fn 17 [(0, (lst a0)), (3, lst p3), (7, .bool p7), (8, .int .i64 p8), (9, .int .i64 p9)] []
theorem l6 (a0 : List TCorner) : ∀ K : Nat, (∀ (p3 : List TCorner) (p6 : Int), Lifts Try.prog 6 0 E6 (H6_8 Try.f6 a0 p3 p6) (F6_8 a0 K p3 p6)) ∧ (∀ (p3 : List TCorner) (p7 : Bool) (p8 : Int), Lifts Try.prog 6 0 E6 (H6_14 Try.f6 a0 p3 p7 p8) (F6_14 a0 K p3 p7 p8)) ∧ (∀ (p3 : List TCorner) (p7 : Bool) (p8 : Int) (p9 : Int), Lifts Try.prog 6 0 E6 (H6_17 Try.f6 a0 p3 p7 p8 p9) (F6_17 a0 K p3 p7 p8 p9)) := by
  intro K
  induction K with
  | zero =>
    exact ⟨fun p3 p6 => (by rw [F6_8]; exact L.no), fun p3 p7 p8 => (by rw [F6_14]; exact L.no), fun p3 p7 p8 p9 => (by rw [F6_17]; exact L.no)⟩
  | succ K ih =>
    obtain ⟨IH8, IH14, IH17⟩ := ih
    refine ⟨fun p3 p6 => ?_, fun p3 p7 p8 => ?_, fun p3 p7 p8 p9 => ?_⟩
    · rw [F6_8]
      exact
        L.br mixed 8 _ (by kernel_rfl)
          (fun h10 =>
          L.idx mixed 7 _ (rows p3) 10 IntKind.i64 _ (by kernel_rfl) (fun h11a h11b =>
          L.ld mixed 2 3 (rows p3) (p6.toNat * 10 + 3) (.int .i64 (getR p3 p6.toNat).P.W) (by kernel_rfl) (load1_rows (i := p6.toNat) (d := 3) rfl (toNat_lt h11a h11b) (by kernel_rfl) (Nat.le_of_ble_eq_true (by kernel_rfl)) (by kernel_rfl)) <|
          L.br mixed 2 _ (by kernel_rfl)
            (fun h12 =>
            L.ret _ mixed Try.func6 _ (by kernel_rfl) rfl)
            (fun h12 =>
            L.jump mixed 8 [0, 3, 6] (by kernel_rfl) (IH8 p3 (IntKind.i64.wrap (p6 + 1))))))
          (fun h10 =>
          L.jump mixed 12 [0, 3, 7, 8] (by kernel_rfl) (IH14 p3 true 0))
    · rw [F6_14]
      exact
        L.br mixed 8 _ (by kernel_rfl)
          (fun h13 =>
          L.jump mixed 9 [0, 3, 7, 8, 9] (by kernel_rfl) (IH17 p3 p7 p8 0))
          (fun h13 =>
          L.gu mixed 6 _ (by kernel_rfl)
            (fun h14 =>
            L.call mixed (k15) (by kernel_rfl) <|
            L.ret _ mixed Try.func6 _ (by kernel_rfl) rfl)
            (fun h14 =>
            L.callO mixed (fun u15 : Bool => .bool u15) (c21 K p3 a0) (by kernel_rfl) (fun u15 hu15 =>
            L.gu mixed 2 _ (by kernel_rfl)
              (fun h16 =>
              L.call mixed (k15) (by kernel_rfl) <|
              L.ret _ mixed Try.func6 _ (by kernel_rfl) rfl)
              (fun h16 =>
              L.ret _ mixed Try.func6 _ (by kernel_rfl) rfl))))
    · rw [F6_17]
      exact
        L.br mixed 6 _ (by kernel_rfl)
          (fun h17 =>
          L.gu mixed 6 _ (by kernel_rfl)
            (fun h18 =>
            L.idx mixed 3 _ (rows a0) 10 IntKind.i64 _ (by kernel_rfl) (fun h19a h19b =>
            L.ld mixed 1 23 (rows a0) (p8.toNat * 10 + 0) (.agg ⟨[.int .i64 (getR a0 p8.toNat).P.X, .int .i64 (getR a0 p8.toNat).P.Y, .int .i64 (getR a0 p8.toNat).P.Z, .int .i64 (getR a0 p8.toNat).P.W]⟩) (by kernel_rfl) (loadN_rows (i := p8.toNat) (d := 0) (k := 4) rfl (toNat_lt h19a h19b) (by kernel_rfl) (by kernel_rfl) (Nat.le_of_ble_eq_true (by kernel_rfl)) (by kernel_rfl)) <|
            L.callO mixed (fun u20 : Int => .int .i64 u20) (k17 K p9 ((getR a0 p8.toNat).P)) (by kernel_rfl) (fun u20 hu20 =>
            L.jump mixed 11 [0, 3, 7, 8, 9] (by kernel_rfl) (IH17 p3 (bif true then decide (u20 ≥ 0) else false) p8 (IntKind.i64.wrap (p9 + 1))))))
            (fun h18 =>
            L.jump mixed 18 [0, 3, 7, 8, 9] (by kernel_rfl) (IH17 p3 false p8 (IntKind.i64.wrap (p9 + 1)))))
          (fun h17 =>
          L.jump mixed 8 [0, 3, 7, 8] (by kernel_rfl) (IH14 p3 p7 (IntKind.i64.wrap (p8 + 1))))
theorem c6 (K : Nat) (a0 : List TCorner) : ∀ r, F6 K a0 = some r → Con Try.prog 6 [lst a0] (E6 r) := by
  obtain ⟨IH8, IH14, IH17⟩ := l6 a0 K
  refine Con.lift Try.func6 (by kernel_rfl) rfl (fun _ => rfl) ?_
  unfold F6
  exact
    L.callO mixed (fun u1 : List TCorner × Int => .tuple ⟨[lst u1.1, .int .i64 u1.2]⟩) (c24 K a0) (by kernel_rfl) (fun u1 hu1 =>
    L.callO mixed (fun u2 : Int => .int .i64 u2) (c20 K a0) (by kernel_rfl) (fun u2 hu2 =>
    L.br mixed 7 _ (by kernel_rfl)
      (fun h3 =>
      L.gu mixed 6 _ (by kernel_rfl)
        (fun h4 =>
        L.gu mixed 5 _ (by kernel_rfl)
          (fun h5 =>
          L.call mixed (k15) (by kernel_rfl) <|
          L.ret _ mixed Try.func6 _ (by kernel_rfl) rfl)
          (fun h5 =>
          L.ret _ mixed Try.func6 _ (by kernel_rfl) rfl))
        (fun h4 =>
        L.ret _ mixed Try.func6 _ (by kernel_rfl) rfl))
      (fun h3 =>
      L.gu mixed 7 _ (by kernel_rfl)
        (fun h6 =>
        L.ret _ mixed Try.func6 _ (by kernel_rfl) rfl)
        (fun h6 =>
        L.callO mixed (fun u7 : List TCorner => lst u7) (c25 K a0) (by kernel_rfl) (fun u7 hu7 =>
        L.callO mixed (fun u8 : Bool => .bool u8) (c21 K u1.fst u7) (by kernel_rfl) (fun u8 hu8 =>
        L.br mixed 3 _ (by kernel_rfl)
          (fun h9 =>
          L.ret _ mixed Try.func6 _ (by kernel_rfl) rfl)
          (fun h9 =>
          L.jump mixed 8 [0, 3, 6] (by kernel_rfl) (IH8 u1.fst 0))))))))

end

end Go.Proofs.Ytfkmhhbpomkakaa.Lf
