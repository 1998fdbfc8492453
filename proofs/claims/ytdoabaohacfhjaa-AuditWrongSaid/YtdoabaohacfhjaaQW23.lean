/- Several texts in one: AUh, AUi, AUj. -/
import Derived.Test.YtdoabaohacfhjaaQW22
namespace Go.Proofs.Ytdoabaohacfhjaa.Lf

section
open Go Go.Dt Go.Proofs
set_option linter.unusedVariables false

def Fsee (a0 : Book) (a1 : TEvent) : Option (Int × Book) :=
  bif (decide (a1.Kind < 1)) then
    some (9, ⟨a0.workers, a0.tiles, a0.frames, a0.opn, a0.drawn, a0.over⟩)
  else
    bif (bif false then true else decide (a1.Kind > 5)) then
      some (9, ⟨a0.workers, a0.tiles, a0.frames, a0.opn, a0.drawn, a0.over⟩)
    else
      bif (decide (a1.Who < 1)) then
        some (3, ⟨a0.workers, a0.tiles, a0.frames, a0.opn, a0.drawn, a0.over⟩)
      else
        bif (bif false then true else decide (a1.Who > a0.workers)) then
          some (3, ⟨a0.workers, a0.tiles, a0.frames, a0.opn, a0.drawn, a0.over⟩)
        else
          bif (decide ((bif a0.over.contains a1.Who then (1 : Int) else 0) > 0)) then
            some (15, ⟨a0.workers, a0.tiles, a0.frames, a0.opn, a0.drawn, a0.over⟩)
          else
            bif (a1.Kind == 1) then
              bif a0.opn then
                some (6, ⟨a0.workers, a0.tiles, a0.frames, a0.opn, a0.drawn, a0.over⟩)
              else
                bif (bif false then true else a1.A != a0.frames) then
                  some (6, ⟨a0.workers, a0.tiles, a0.frames, a0.opn, a0.drawn, a0.over⟩)
                else
                  some (0, ⟨a0.workers, a0.tiles, IntKind.i64.wrap (a0.frames + 1), true, a0.drawn, a0.over⟩)
            else
              bif (a1.Kind == 2) then
                (Fdraw (⟨a0.workers, a0.tiles, a0.frames, a0.opn, a0.drawn, a0.over⟩ : Book) (⟨a1.Who, a1.Kind, a1.A, a1.B⟩ : TEvent)).bind fun u10 =>
                some (u10.fst, ⟨u10.snd.workers, u10.snd.tiles, u10.snd.frames, u10.snd.opn, u10.2.drawn, u10.2.over⟩)
              else
                bif (a1.Kind == 3) then
                  (Fsteal (⟨a0.workers, a0.tiles, a0.frames, a0.opn, a0.drawn, a0.over⟩ : Book) (⟨a1.Who, a1.Kind, a1.A, a1.B⟩ : TEvent)).bind fun u12 =>
                  some (u12.fst, ⟨u12.snd.workers, u12.snd.tiles, u12.snd.frames, u12.snd.opn, u12.2.drawn, u12.2.over⟩)
                else
                  bif (a1.Kind == 4) then
                    bif !a0.opn then
                      some (6, ⟨a0.workers, a0.tiles, a0.frames, a0.opn, a0.drawn, a0.over⟩)
                    else
                      bif (bif false then true else !nowF a0.frames a1.A) then
                        some (6, ⟨a0.workers, a0.tiles, a0.frames, a0.opn, a0.drawn, a0.over⟩)
                      else
                        some (0, ⟨a0.workers, a0.tiles, a0.frames, false, a0.drawn, a0.over⟩)
                  else
                    bif (a1.Kind == 5) then
                      some (0, ⟨a0.workers, a0.tiles, a0.frames, a0.opn, a0.drawn, a0.over ++ [a1.Who]⟩)
                    else
                      some (0, ⟨a0.workers, a0.tiles, a0.frames, a0.opn, a0.drawn, a0.over⟩)
theorem csee (a0 : Book) (a1 : TEvent) : ∀ r, Fsee a0 a1 = some r → ConM Try.prog 11 [.pointer (some ⟨2, 0, none⟩), evV a1] (bookM a0) (.int .i64 r.1) (bookM r.2) := by
  refine LT.con Try.func11 (by kernel_rfl) ?_
  unfold Fsee
  exact
    LT.gu 13 _ (by kernel_rfl)
      (fun h1 =>
      LT.ret Try.f11 Try.func11 _ (by kernel_rfl) rfl (by kernel_rfl))
      (fun h1 =>
      LT.br 6 _ (by kernel_rfl)
        (fun h2 =>
        LT.ret Try.f11 Try.func11 _ (by kernel_rfl) rfl (by kernel_rfl))
        (fun h2 =>
        LT.gu 6 _ (by kernel_rfl)
          (fun h3 =>
          LT.ret Try.f11 Try.func11 _ (by kernel_rfl) rfl (by kernel_rfl))
          (fun h3 =>
          LT.br 10 _ (by kernel_rfl)
            (fun h4 =>
            LT.ret Try.f11 Try.func11 _ (by kernel_rfl) rfl (by kernel_rfl))
            (fun h4 =>
            LT.lookI 8 a1.Who a0.over (by kernel_rfl) (by kernel_rfl) <|
            LT.br 3 _ (by kernel_rfl)
              (fun h5 =>
              LT.ret Try.f11 Try.func11 _ (by kernel_rfl) rfl (by kernel_rfl))
              (fun h5 =>
              LT.br 14 _ (by kernel_rfl)
                (fun h6 =>
                LT.gu 8 _ (by kernel_rfl)
                  (fun h7 =>
                  LT.ret Try.f11 Try.func11 _ (by kernel_rfl) rfl (by kernel_rfl))
                  (fun h7 =>
                  LT.br 9 _ (by kernel_rfl)
                    (fun h8 =>
                    LT.ret Try.f11 Try.func11 _ (by kernel_rfl) rfl (by kernel_rfl))
                    (fun h8 =>
                    LT.ret Try.f11 Try.func11 _ (by kernel_rfl) rfl (by kernel_rfl))))
                (fun h6 =>
                LT.br 5 _ (by kernel_rfl)
                  (fun h9 =>
                  LT.callB (e := (⟨a1.Who, a1.Kind, a1.A, a1.B⟩ : TEvent)) (b := (⟨a0.workers, a0.tiles, a0.frames, a0.opn, a0.drawn, a0.over⟩ : Book)) [Blk.cells [Value.int IntKind.i64 a1.Who, Value.int IntKind.i64 a1.Kind, Value.int IntKind.i64 a1.A, Value.int IntKind.i64 a1.B] 0 true] (cdraw (⟨a0.workers, a0.tiles, a0.frames, a0.opn, a0.drawn, a0.over⟩ : Book) (⟨a1.Who, a1.Kind, a1.A, a1.B⟩ : TEvent)) (by kernel_rfl) (by kernel_rfl) (fun u10 hu10 =>
                  LT.ret Try.f11 Try.func11 _ (by kernel_rfl) rfl (by kernel_rfl)))
                  (fun h9 =>
                  LT.br 5 _ (by kernel_rfl)
                    (fun h11 =>
                    LT.callB (e := (⟨a1.Who, a1.Kind, a1.A, a1.B⟩ : TEvent)) (b := (⟨a0.workers, a0.tiles, a0.frames, a0.opn, a0.drawn, a0.over⟩ : Book)) [Blk.cells [Value.int IntKind.i64 a1.Who, Value.int IntKind.i64 a1.Kind, Value.int IntKind.i64 a1.A, Value.int IntKind.i64 a1.B] 0 true] (csteal (⟨a0.workers, a0.tiles, a0.frames, a0.opn, a0.drawn, a0.over⟩ : Book) (⟨a1.Who, a1.Kind, a1.A, a1.B⟩ : TEvent)) (by kernel_rfl) (by kernel_rfl) (fun u12 hu12 =>
                    LT.ret Try.f11 Try.func11 _ (by kernel_rfl) rfl (by kernel_rfl)))
                    (fun h11 =>
                    LT.br 5 _ (by kernel_rfl)
                      (fun h13 =>
                      LT.gu 9 _ (by kernel_rfl)
                        (fun h14 =>
                        LT.ret Try.f11 Try.func11 _ (by kernel_rfl) rfl (by kernel_rfl))
                        (fun h14 =>
                        LT.callR [.win 2 0 6 false] (now_con a0.workers a0.tiles a0.frames a0.opn a1.A) (by kernel_rfl) (by kernel_rfl) rfl <|
                        LT.br 3 _ (by kernel_rfl)
                          (fun h15 =>
                          LT.ret Try.f11 Try.func11 _ (by kernel_rfl) rfl (by kernel_rfl))
                          (fun h15 =>
                          LT.ret Try.f11 Try.func11 _ (by kernel_rfl) rfl (by kernel_rfl))))
                      (fun h13 =>
                      LT.br 5 _ (by kernel_rfl)
                        (fun h16 =>
                        LT.lookI 7 a1.Who a0.over (by kernel_rfl) (by kernel_rfl) <|
                        LT.updI 1 a1.Who a0.over (no_hit h5) _ (one_of (no_hit h5)) (by kernel_rfl) (by kernel_rfl) <|
                        LT.ret Try.f11 Try.func11 _ (by kernel_rfl) rfl (by kernel_rfl))
                        (fun h16 =>
                        LT.ret Try.f11 Try.func11 _ (by kernel_rfl) rfl (by kernel_rfl)))))))))))

end

section
open Go Go.Dt Go.Proofs
set_option linter.unusedVariables false

theorem bookBnd (s : Book) : ∀ b, b < 3 → BBnd 3 ((bookM s).getD b .gone) := fun b hb => by
  have key : ∀ ks : List Value, ks.all (bnd 3) = true → BBnd 3 (mapK ks) := fun ks h => by
    refine .map fun e he => ?_
    have h2 : (ents 0 ks).all (fun e => bnd 3 e.key && bnd 3 e.val) = true := by rw [ents_all _ (bnd 3) (fun k n => by simp [bnd])]; exact h
    have := List.all_eq_true.1 h2 e he
    simpa using this
  rcases b with _ | _ | _ | b
  · exact key _ (by rw [List.all_eq_true]; intro v hv; obtain ⟨t, _, rfl⟩ := List.mem_map.1 hv; rfl)
  · exact key _ (by rw [List.all_eq_true]; intro v hv; obtain ⟨t, _, rfl⟩ := List.mem_map.1 hv; rfl)
  · exact .cells rfl
  · omega

section
variable {f : FuncId} {ρ : Type} {E : ρ → Value} {s : VS} {T : Option ρ}
theorem L.callB {g : FuncId} {e : TEvent} {b : Book} {G : Option (Int × Book)} {k : Int × Book → Option ρ} (ext : List Blk) (c : ∀ u, G = some u → ConM Try.prog g [.pointer (some ⟨2, 0, none⟩), evV e] (bookM b) (.int .i64 u.1) (bookM u.2))
    (hs : callAt (go Try.prog s) = some (g, [.pointer (some ⟨2, 0, none⟩), evV e])) (hmem : (go Try.prog s).mem = bookM b ++ ext)
    (h : ∀ u, G = some u → Lifts Try.prog f 0 E (afterPre (bookM b) (bookM u.2) ext (go Try.prog s) (.int .i64 u.1)) (k u)) : Lifts Try.prog f 0 E s (G.bind k) := fun r hr => by
  cases hG : G with
  | none => rw [hG] at hr; cases hr
  | some u =>
    rw [hG] at hr
    obtain ⟨m, hm⟩ := h u hG r hr
    exact (Q.callPre (Φ := fun _ => True) mixed (bookM b) (bookM u.2) ext (c u hG) hs hmem (bookOk b) (bookOk u.2) rfl rfl rfl rfl ⟨m, hm, trivial⟩).run
theorem L.jumpD (n : Nat) (ks : List Nat) (b : Book) {st : VS} (e : takeM 3 (keepS ks (vadv Try.prog n s)) = st) (ha : bnds 3 (keepS ks (vadv Try.prog n s)).slots = true) (hm : (keepS ks (vadv Try.prog n s)).mem.take 3 = bookM b)
    (h : Lifts Try.prog f 0 E st T) : Lifts Try.prog f 0 E s T := fun r hr => by
  obtain ⟨m, h⟩ := h r hr
  refine RunsE.adv mixed n ⟨m, Runs.forget ks (Runs.drop 3 (Nat.zero_le _) ha (fun i hi => ?_) (e ▸ h))⟩
  have := bookBnd b i hi
  rw [← hm] at this
  rwa [List.getD_eq_getElem?_getD, List.getElem?_take, if_pos hi, ← List.getD_eq_getElem?_getD] at this
end

def Faudit_Wrong_5 (a0 : List TEvent) : Nat → Book → Int → Option (Int × Int)
  | 0, _, _ => none
  | K + 1, b, p =>
    bif decide (p < (↑a0.length : Int)) then
      bif inR p a0.length then
        (Fsee b (getR a0 p.toNat)).bind fun u =>
        bif u.1 != 0 then
          some (p, u.1)
        else
          Faudit_Wrong_5 a0 K u.2 (IntKind.i64.wrap (p + 1))
      else none
    else
      some ((↑a0.length : Int), 0)
def Faudit_Wrong (K : Nat) (a0 : List TEvent) (w t : Int) : Option (Int × Int) :=
  bif decide (w < 1) then
    some (-1, 2)
  else
    bif (bif false then true else decide (t < 1)) then
      some (-1, 2)
    else
      Faudit_Wrong_5 a0 K ⟨w, t, 0, false, [], []⟩ 0
abbrev Eaudit_Wrong : Int × Int → Value := fun r => .tuple ⟨[.int .i64 r.1, .int .i64 r.2]⟩
def Haudit_Wrong (fn : Func) (a0 : List TEvent) (b : Book) (p : Int) : VS := headS fn 5 [(0, lst a0), (8, .pointer (some ⟨2, 0, none⟩)), (24, lst a0), (25, .int .i64 (↑a0.length : Int)), (26, .int .i64 p)] (bookM b)
theorem laudit_Wrong (a0 : List TEvent) : ∀ (K : Nat) (b : Book) (p : Int), Lifts Try.prog 6 0 Eaudit_Wrong (Haudit_Wrong Try.f6 a0 b p) (Faudit_Wrong_5 a0 K b p) := by
  intro K
  induction K with
  | zero => exact fun b p => (by rw [Faudit_Wrong_5]; exact L.no)
  | succ K ih =>
    refine fun b p => ?_
    rw [Faudit_Wrong_5]
    exact
      L.br mixed 5 _ (by kernel_rfl)
        (fun h1 =>
        L.idx mixed 6 _ (rows a0) 4 IntKind.i64 _ (by kernel_rfl) (fun h4a h4b =>
        L.ld mixed 0 36 (rows a0) (p.toNat * 4 + 0) (.agg ⟨[.int .i64 (getR a0 p.toNat).Who, .int .i64 (getR a0 p.toNat).Kind, .int .i64 (getR a0 p.toNat).A, .int .i64 (getR a0 p.toNat).B]⟩) (by kernel_rfl) (loadN_rows (i := p.toNat) (d := 0) (k := 4) rfl (toNat_lt h4a h4b) (by kernel_rfl) (by kernel_rfl) (Nat.le_of_ble_eq_true (by kernel_rfl)) (by kernel_rfl)) <|
        L.callB (e := getR a0 p.toNat) (b := b) [.cells [.int .i64 (getR a0 p.toNat).Who, .int .i64 (getR a0 p.toNat).Kind, .int .i64 (getR a0 p.toNat).A, .int .i64 (getR a0 p.toNat).B] 0 true] (csee b (getR a0 p.toNat)) (by kernel_rfl) (by kernel_rfl) (fun u hu =>
        L.br mixed 7 _ (by kernel_rfl)
          (fun h2 =>
          L.ret _ mixed Try.func6 _ (by kernel_rfl) rfl)
          (fun h2 =>
          L.jumpD 7 [0, 8, 24, 25, 26] u.2 (st := Haudit_Wrong Try.f6 a0 u.2 (IntKind.i64.wrap (p + 1))) (by kernel_rfl) (by kernel_rfl) (by kernel_rfl) (ih u.2 _)))))
        (fun h1 =>
        L.ret _ mixed Try.func6 _ (by kernel_rfl) rfl)
theorem caudit_Wrong (K : Nat) (a0 : List TEvent) (w t : Int) : ∀ r, Faudit_Wrong K a0 w t = some r → Con Try.prog 6 [lst a0, .int .i64 w, .int .i64 t] (Eaudit_Wrong r) := by
  refine Con.lift Try.func6 (by kernel_rfl) rfl (fun _ => rfl) ?_
  unfold Faudit_Wrong
  exact
    L.gu mixed 11 _ (by kernel_rfl)
      (fun h1 =>
      L.ret _ mixed Try.func6 _ (by kernel_rfl) rfl)
      (fun h1 =>
      L.br mixed 4 _ (by kernel_rfl)
        (fun h2 =>
        L.ret _ mixed Try.func6 _ (by kernel_rfl) rfl)
        (fun h2 =>
        L.jumpD 20 [0, 8, 24, 25, 26] ⟨w, t, 0, false, [], []⟩ (st := Haudit_Wrong Try.f6 a0 ⟨w, t, 0, false, [], []⟩ 0) (by kernel_rfl) (by kernel_rfl) (by kernel_rfl) (laudit_Wrong a0 K _ 0)))

end

section
open Go Go.Dt Go.Proofs
set_option linter.unusedVariables false

/-! ### 17 -/
abbrev ER40_last : Int → Value := fun r => .int .i64 r
def FR40_last_3 (a0 : List TEvent) : Nat → Int → Int → Option Int
  | 0, _, _ => none
  | K + 1, p3, p4 =>
    bif (decide (p4 < (↑a0.length : Int))) then
      bif inR p4 a0.length then
        bif ((getR a0 p4.toNat).Kind == 1) then
          bif inR p4 a0.length then
            FR40_last_3 a0 K ((getR a0 p4.toNat).A) (IntKind.i64.wrap (p4 + 1))
          else none
        else
          FR40_last_3 a0 K p3 (IntKind.i64.wrap (p4 + 1))
      else none
    else
      some p3
def FR40_last (K : Nat) (a0 : List TEvent) : Option Int :=
  FR40_last_3 a0 K (-1) 0
def HR40_last_3 (fn : Func) (a0 : List TEvent) (p3 : Int) (p4 : Int) : VS := headS fn 3 [(0, (lst a0)), (3, .int .i64 p3), (4, .int .i64 p4)] []
theorem lR40_last (a0 : List TEvent) : ∀ K : Nat, (∀ (p3 : Int) (p4 : Int), Lifts Try.prog 17 0 ER40_last (HR40_last_3 Try.f17 a0 p3 p4) (FR40_last_3 a0 K p3 p4)) := by
  intro K
  induction K with
  | zero =>
    exact fun p3 p4 => (by rw [FR40_last_3]; exact L.no)
  | succ K ih =>
    have IH3 := ih
    refine fun p3 p4 => ?_
    · rw [FR40_last_3]
      exact
        L.br mixed 8 _ (by kernel_rfl)
          (fun h1 =>
          L.idx mixed 7 _ (rows a0) 4 IntKind.i64 _ (by kernel_rfl) (fun h2a h2b =>
          L.ld mixed 1 3 (rows a0) (p4.toNat * 4 + 1) (.int .i64 (getR a0 p4.toNat).Kind) (by kernel_rfl) (load1_rows (i := p4.toNat) (d := 1) rfl (toNat_lt h2a h2b) (by kernel_rfl) (Nat.le_of_ble_eq_true (by kernel_rfl)) (by kernel_rfl)) <|
          L.br mixed 2 _ (by kernel_rfl)
            (fun h3 =>
            L.idx mixed 3 _ (rows a0) 4 IntKind.i64 _ (by kernel_rfl) (fun h4a h4b =>
            L.ld mixed 1 3 (rows a0) (p4.toNat * 4 + 2) (.int .i64 (getR a0 p4.toNat).A) (by kernel_rfl) (load1_rows (i := p4.toNat) (d := 2) rfl (toNat_lt h4a h4b) (by kernel_rfl) (Nat.le_of_ble_eq_true (by kernel_rfl)) (by kernel_rfl)) <|
            L.jump mixed 9 [0, 3, 4] (by kernel_rfl) (IH3 ((getR a0 p4.toNat).A) (IntKind.i64.wrap (p4 + 1)))))
            (fun h3 =>
            L.jump mixed 8 [0, 3, 4] (by kernel_rfl) (IH3 p3 (IntKind.i64.wrap (p4 + 1))))))
          (fun h1 =>
          L.ret _ mixed Try.func17 _ (by kernel_rfl) rfl)
theorem cR40_last (K : Nat) (a0 : List TEvent) : ∀ r, FR40_last K a0 = some r → Con Try.prog 17 [lst a0] (ER40_last r) := by
  have IH3 := lR40_last a0 K
  refine Con.lift Try.func17 (by kernel_rfl) rfl (fun _ => rfl) ?_
  unfold FR40_last
  exact
    L.jump mixed 15 [0, 3, 4] (by kernel_rfl) (IH3 (-1) 0)
/-! ### 18 -/
abbrev ER40_open : Bool → Value := fun r => .bool r
def FR40_open_3 (a0 : List TEvent) : Nat → Bool → Int → Option Bool
  | 0, _, _ => none
  | K + 1, p3, p4 =>
    bif (decide (p4 < (↑a0.length : Int))) then
      bif inR p4 a0.length then
        bif ((getR a0 p4.toNat).Kind == 1) then
          bif inR p4 a0.length then
            bif ((getR a0 p4.toNat).Kind == 4) then
              FR40_open_3 a0 K false (IntKind.i64.wrap (p4 + 1))
            else
              FR40_open_3 a0 K true (IntKind.i64.wrap (p4 + 1))
          else none
        else
          bif inR p4 a0.length then
            bif ((getR a0 p4.toNat).Kind == 4) then
              FR40_open_3 a0 K false (IntKind.i64.wrap (p4 + 1))
            else
              FR40_open_3 a0 K p3 (IntKind.i64.wrap (p4 + 1))
          else none
      else none
    else
      some p3
def FR40_open (K : Nat) (a0 : List TEvent) : Option Bool :=
  FR40_open_3 a0 K false 0
def HR40_open_3 (fn : Func) (a0 : List TEvent) (p3 : Bool) (p4 : Int) : VS := headS fn 3 [(0, (lst a0)), (3, .bool p3), (4, .int .i64 p4)] []
theorem lR40_open (a0 : List TEvent) : ∀ K : Nat, (∀ (p3 : Bool) (p4 : Int), Lifts Try.prog 18 0 ER40_open (HR40_open_3 Try.f18 a0 p3 p4) (FR40_open_3 a0 K p3 p4)) := by
  intro K
  induction K with
  | zero =>
    exact fun p3 p4 => (by rw [FR40_open_3]; exact L.no)
  | succ K ih =>
    have IH3 := ih
    refine fun p3 p4 => ?_
    · rw [FR40_open_3]
      exact
        L.br mixed 8 _ (by kernel_rfl)
          (fun h1 =>
          L.idx mixed 8 _ (rows a0) 4 IntKind.i64 _ (by kernel_rfl) (fun h2a h2b =>
          L.ld mixed 1 3 (rows a0) (p4.toNat * 4 + 1) (.int .i64 (getR a0 p4.toNat).Kind) (by kernel_rfl) (load1_rows (i := p4.toNat) (d := 1) rfl (toNat_lt h2a h2b) (by kernel_rfl) (Nat.le_of_ble_eq_true (by kernel_rfl)) (by kernel_rfl)) <|
          L.br mixed 2 _ (by kernel_rfl)
            (fun h3 =>
            L.idx mixed 7 _ (rows a0) 4 IntKind.i64 _ (by kernel_rfl) (fun h4a h4b =>
            L.ld mixed 1 3 (rows a0) (p4.toNat * 4 + 1) (.int .i64 (getR a0 p4.toNat).Kind) (by kernel_rfl) (load1_rows (i := p4.toNat) (d := 1) rfl (toNat_lt h4a h4b) (by kernel_rfl) (Nat.le_of_ble_eq_true (by kernel_rfl)) (by kernel_rfl)) <|
            L.br mixed 2 _ (by kernel_rfl)
              (fun h5 =>
              L.jump mixed 10 [0, 3, 4] (by kernel_rfl) (IH3 false (IntKind.i64.wrap (p4 + 1))))
              (fun h5 =>
              L.jump mixed 8 [0, 3, 4] (by kernel_rfl) (IH3 true (IntKind.i64.wrap (p4 + 1))))))
            (fun h3 =>
            L.idx mixed 5 _ (rows a0) 4 IntKind.i64 _ (by kernel_rfl) (fun h6a h6b =>
            L.ld mixed 1 3 (rows a0) (p4.toNat * 4 + 1) (.int .i64 (getR a0 p4.toNat).Kind) (by kernel_rfl) (load1_rows (i := p4.toNat) (d := 1) rfl (toNat_lt h6a h6b) (by kernel_rfl) (Nat.le_of_ble_eq_true (by kernel_rfl)) (by kernel_rfl)) <|
            L.br mixed 2 _ (by kernel_rfl)
              (fun h7 =>
              L.jump mixed 10 [0, 3, 4] (by kernel_rfl) (IH3 false (IntKind.i64.wrap (p4 + 1))))
              (fun h7 =>
              L.jump mixed 8 [0, 3, 4] (by kernel_rfl) (IH3 p3 (IntKind.i64.wrap (p4 + 1))))))))
          (fun h1 =>
          L.ret _ mixed Try.func18 _ (by kernel_rfl) rfl)
theorem cR40_open (K : Nat) (a0 : List TEvent) : ∀ r, FR40_open K a0 = some r → Con Try.prog 18 [lst a0] (ER40_open r) := by
  have IH3 := lR40_open a0 K
  refine Con.lift Try.func18 (by kernel_rfl) rfl (fun _ => rfl) ?_
  unfold FR40_open
  exact
    L.jump mixed 15 [0, 3, 4] (by kernel_rfl) (IH3 false 0)
/-! ### 19 -/
abbrev ER40_has : Bool → Value := fun r => .bool r
def FR40_has_2 (a0 : List TEvent) (a1 : TEvent) : Nat → Int → Option Bool
  | 0, _ => none
  | K + 1, p5 =>
    bif (decide (p5 < (↑a0.length : Int))) then
      bif inR p5 a0.length then
        bif ((getR a0 p5.toNat).Kind == a1.Kind) then
          bif inR p5 a0.length then
            bif (bif true then (getR a0 p5.toNat).A == a1.A else false) then
              bif inR p5 a0.length then
                bif (bif true then (getR a0 p5.toNat).B == a1.B else false) then
                  some true
                else
                  FR40_has_2 a0 a1 K (IntKind.i64.wrap (p5 + 1))
              else none
            else
              FR40_has_2 a0 a1 K (IntKind.i64.wrap (p5 + 1))
          else none
        else
          FR40_has_2 a0 a1 K (IntKind.i64.wrap (p5 + 1))
      else none
    else
      some false
def FR40_has (K : Nat) (a0 : List TEvent) (a1 : TEvent) : Option Bool :=
  FR40_has_2 a0 a1 K 0
def HR40_has_2 (fn : Func) (a0 : List TEvent) (a1 : TEvent) (p5 : Int) : VS := headS fn 2 [(0, (lst a0)), (3, (frp [(Value.int IntKind.i64 a1.Who), (Value.int IntKind.i64 a1.Kind), (Value.int IntKind.i64 a1.A), (Value.int IntKind.i64 a1.B)] 0)), (5, .int .i64 p5)] []
theorem lR40_has (a0 : List TEvent) (a1 : TEvent) : ∀ K : Nat, (∀ (p5 : Int), Lifts Try.prog 19 0 ER40_has (HR40_has_2 Try.f19 a0 a1 p5) (FR40_has_2 a0 a1 K p5)) := by
  intro K
  induction K with
  | zero =>
    exact fun p5 => (by rw [FR40_has_2]; exact L.no)
  | succ K ih =>
    have IH2 := ih
    refine fun p5 => ?_
    · rw [FR40_has_2]
      exact
        L.br mixed 8 _ (by kernel_rfl)
          (fun h1 =>
          L.idx mixed 7 _ (rows a0) 4 IntKind.i64 _ (by kernel_rfl) (fun h2a h2b =>
          L.ld mixed 1 3 (rows a0) (p5.toNat * 4 + 1) (.int .i64 (getR a0 p5.toNat).Kind) (by kernel_rfl) (load1_rows (i := p5.toNat) (d := 1) rfl (toNat_lt h2a h2b) (by kernel_rfl) (Nat.le_of_ble_eq_true (by kernel_rfl)) (by kernel_rfl)) <|
          L.ld mixed 1 3 [(Value.int IntKind.i64 a1.Who), (Value.int IntKind.i64 a1.Kind), (Value.int IntKind.i64 a1.A), (Value.int IntKind.i64 a1.B)] 1 ((Value.int IntKind.i64 a1.Kind)) (by kernel_rfl) (by kernel_rfl) <|
          L.gu mixed 2 _ (by kernel_rfl)
            (fun h3 =>
            L.idx mixed 2 _ (rows a0) 4 IntKind.i64 _ (by kernel_rfl) (fun h4a h4b =>
            L.ld mixed 1 3 (rows a0) (p5.toNat * 4 + 2) (.int .i64 (getR a0 p5.toNat).A) (by kernel_rfl) (load1_rows (i := p5.toNat) (d := 2) rfl (toNat_lt h4a h4b) (by kernel_rfl) (Nat.le_of_ble_eq_true (by kernel_rfl)) (by kernel_rfl)) <|
            L.ld mixed 1 3 [(Value.int IntKind.i64 a1.Who), (Value.int IntKind.i64 a1.Kind), (Value.int IntKind.i64 a1.A), (Value.int IntKind.i64 a1.B)] 2 ((Value.int IntKind.i64 a1.A)) (by kernel_rfl) (by kernel_rfl) <|
            L.gu mixed 3 _ (by kernel_rfl)
              (fun h5 =>
              L.idx mixed 2 _ (rows a0) 4 IntKind.i64 _ (by kernel_rfl) (fun h6a h6b =>
              L.ld mixed 1 3 (rows a0) (p5.toNat * 4 + 3) (.int .i64 (getR a0 p5.toNat).B) (by kernel_rfl) (load1_rows (i := p5.toNat) (d := 3) rfl (toNat_lt h6a h6b) (by kernel_rfl) (Nat.le_of_ble_eq_true (by kernel_rfl)) (by kernel_rfl)) <|
              L.ld mixed 1 3 [(Value.int IntKind.i64 a1.Who), (Value.int IntKind.i64 a1.Kind), (Value.int IntKind.i64 a1.A), (Value.int IntKind.i64 a1.B)] 3 ((Value.int IntKind.i64 a1.B)) (by kernel_rfl) (by kernel_rfl) <|
              L.br mixed 3 _ (by kernel_rfl)
                (fun h7 =>
                L.ret _ mixed Try.func19 _ (by kernel_rfl) rfl)
                (fun h7 =>
                L.jump mixed 8 [0, 3, 5] (by kernel_rfl) (IH2 (IntKind.i64.wrap (p5 + 1))))))
              (fun h5 =>
              L.jump mixed 19 [0, 3, 5] (by kernel_rfl) (IH2 (IntKind.i64.wrap (p5 + 1))))))
            (fun h3 =>
            L.jump mixed 29 [0, 3, 5] (by kernel_rfl) (IH2 (IntKind.i64.wrap (p5 + 1))))))
          (fun h1 =>
          L.ret _ mixed Try.func19 _ (by kernel_rfl) rfl)
theorem cR40_has (K : Nat) (a0 : List TEvent) (a1 : TEvent) : ∀ r, FR40_has K a0 a1 = some r → Con Try.prog 19 [lst a0, .agg ⟨[.int .i64 a1.Who, .int .i64 a1.Kind, .int .i64 a1.A, .int .i64 a1.B]⟩] (ER40_has r) := by
  have IH2 := lR40_has a0 a1 K
  refine Con.lift Try.func19 (by kernel_rfl) rfl (fun _ => rfl) ?_
  unfold FR40_has
  exact
    L.frzP mixed 11 3 0 0 0 [(Value.int IntKind.i64 a1.Who), (Value.int IntKind.i64 a1.Kind), (Value.int IntKind.i64 a1.A), (Value.int IntKind.i64 a1.B)] (by kernel_rfl) (by kernel_rfl) (by kernel_rfl) (by kernel_rfl) <|
    L.jumpG mixed 1 [0, 3, 5] [] [] (by kernel_rfl) (by kernel_rfl) (by kernel_rfl) trivial (by kernel_rfl) (by kernel_rfl) (IH2 0)
/-! ### 16 -/
abbrev ER40_over : Bool → Value := fun r => .bool r
def FR40_over_2 (a0 : List TEvent) (a1 : Int) : Nat → Int → Option Bool
  | 0, _ => none
  | K + 1, p5 =>
    bif (decide (p5 < (↑a0.length : Int))) then
      bif inR p5 a0.length then
        bif ((getR a0 p5.toNat).Kind == 5) then
          bif inR p5 a0.length then
            bif (bif true then (getR a0 p5.toNat).Who == a1 else false) then
              some true
            else
              FR40_over_2 a0 a1 K (IntKind.i64.wrap (p5 + 1))
          else none
        else
          FR40_over_2 a0 a1 K (IntKind.i64.wrap (p5 + 1))
      else none
    else
      some false
def FR40_over (K : Nat) (a0 : List TEvent) (a1 : Int) : Option Bool :=
  FR40_over_2 a0 a1 K 0
def HR40_over_2 (fn : Func) (a0 : List TEvent) (a1 : Int) (p5 : Int) : VS := headS fn 2 [(0, (lst a0)), (1, (Value.int IntKind.i64 a1)), (5, .int .i64 p5)] []
theorem lR40_over (a0 : List TEvent) (a1 : Int) : ∀ K : Nat, (∀ (p5 : Int), Lifts Try.prog 16 0 ER40_over (HR40_over_2 Try.f16 a0 a1 p5) (FR40_over_2 a0 a1 K p5)) := by
  intro K
  induction K with
  | zero =>
    exact fun p5 => (by rw [FR40_over_2]; exact L.no)
  | succ K ih =>
    have IH2 := ih
    refine fun p5 => ?_
    · rw [FR40_over_2]
      exact
        L.br mixed 8 _ (by kernel_rfl)
          (fun h1 =>
          L.idx mixed 7 _ (rows a0) 4 IntKind.i64 _ (by kernel_rfl) (fun h2a h2b =>
          L.ld mixed 1 3 (rows a0) (p5.toNat * 4 + 1) (.int .i64 (getR a0 p5.toNat).Kind) (by kernel_rfl) (load1_rows (i := p5.toNat) (d := 1) rfl (toNat_lt h2a h2b) (by kernel_rfl) (Nat.le_of_ble_eq_true (by kernel_rfl)) (by kernel_rfl)) <|
          L.gu mixed 2 _ (by kernel_rfl)
            (fun h3 =>
            L.idx mixed 2 _ (rows a0) 4 IntKind.i64 _ (by kernel_rfl) (fun h4a h4b =>
            L.ld mixed 1 3 (rows a0) (p5.toNat * 4 + 0) (.int .i64 (getR a0 p5.toNat).Who) (by kernel_rfl) (load1_rows (i := p5.toNat) (d := 0) rfl (toNat_lt h4a h4b) (by kernel_rfl) (Nat.le_of_ble_eq_true (by kernel_rfl)) (by kernel_rfl)) <|
            L.br mixed 4 _ (by kernel_rfl)
              (fun h5 =>
              L.ret _ mixed Try.func16 _ (by kernel_rfl) rfl)
              (fun h5 =>
              L.jump mixed 8 [0, 1, 5] (by kernel_rfl) (IH2 (IntKind.i64.wrap (p5 + 1))))))
            (fun h3 =>
            L.jump mixed 18 [0, 1, 5] (by kernel_rfl) (IH2 (IntKind.i64.wrap (p5 + 1))))))
          (fun h1 =>
          L.ret _ mixed Try.func16 _ (by kernel_rfl) rfl)
theorem cR40_over (K : Nat) (a0 : List TEvent) (a1 : Int) : ∀ r, FR40_over K a0 a1 = some r → Con Try.prog 16 [lst a0, .int .i64 a1] (ER40_over r) := by
  have IH2 := lR40_over a0 a1 K
  refine Con.lift Try.func16 (by kernel_rfl) rfl (fun _ => rfl) ?_
  unfold FR40_over
  exact
    L.jump mixed 11 [0, 1, 5] (by kernel_rfl) (IH2 0)
/-! ### 12 -/
abbrev ER40_See : Int → Value := fun r => .int .i64 r
def FR40_See (K : Nat) (a0 : List TEvent) (a1 : TEvent) (a2 : Int) (a3 : Int) : Option Int :=
  bif (decide (a1.Kind < 1)) then
    some 9
  else
    bif (bif false then true else decide (a1.Kind > 5)) then
      some 9
    else
      bif (decide (a1.Who < 1)) then
        some 3
      else
        bif (bif false then true else decide (a1.Who > a2)) then
          some 3
        else
          (FR40_over K a0 a1.Who).bind fun u5 =>
          bif u5 then
            some 15
          else
            (FR40_last K a0).bind fun u7 =>
            bif (a1.Kind == 1) then
              bif (a1.A != IntKind.i64.wrap (u7 + 1)) then
                some 6
              else
                (FR40_open K a0).bind fun u10 =>
                bif (bif false then true else u10) then
                  some 6
                else
                  some 0
            else
              bif (a1.Kind == 2) then
                bif (decide (u7 < 0)) then
                  some 6
                else
                  bif (bif false then true else a1.A != u7) then
                    some 6
                  else
                    (FR40_open K a0).bind fun u15 =>
                    bif (bif false then true else !u15) then
                      some 6
                    else
                      bif (decide (a1.B < 0)) then
                        some 10
                      else
                        bif (bif false then true else decide (a1.B ≥ a3)) then
                          some 10
                        else
                          (FR40_has K a0 a1).bind fun u19 =>
                          bif u19 then
                            some 4
                          else
                            some 0
              else
                bif (a1.Kind == 3) then
                  bif (decide (a1.A < 0)) then
                    some 3
                  else
                    bif (bif false then true else decide (a1.A ≥ a2)) then
                      some 3
                    else
                      bif (bif false then true else a1.A == IntKind.i64.wrap (a1.Who - 1)) then
                        some 3
                      else
                        bif (decide (u7 < 0)) then
                          some 6
                        else
                          bif (bif false then true else decide (a1.B < 0)) then
                            some 6
                          else
                            bif a3 != 0 then
                              bif (bif false then true else IntKind.i64.wrap (a1.B.tdiv a3) != u7) then
                                some 6
                              else
                                some 0
                            else none
                else
                  bif (a1.Kind == 4) then
                    bif (decide (u7 < 0)) then
                      some 6
                    else
                      bif (bif false then true else a1.A != u7) then
                        some 6
                      else
                        (FR40_open K a0).bind fun u32 =>
                        bif (bif false then true else !u32) then
                          some 6
                        else
                          some 0
                  else
                    some 0
theorem cR40_See (K : Nat) (a0 : List TEvent) (a1 : TEvent) (a2 : Int) (a3 : Int) : ∀ r, FR40_See K a0 a1 a2 a3 = some r → Con Try.prog 12 [lst a0, .agg ⟨[.int .i64 a1.Who, .int .i64 a1.Kind, .int .i64 a1.A, .int .i64 a1.B]⟩, .int .i64 a2, .int .i64 a3] (ER40_See r) := by
  refine Con.lift Try.func12 (by kernel_rfl) rfl (fun _ => rfl) ?_
  unfold FR40_See
  exact
    L.gu mixed 12 _ (by kernel_rfl)
      (fun h1 =>
      L.ret _ mixed Try.func12 _ (by kernel_rfl) rfl)
      (fun h1 =>
      L.br mixed 5 _ (by kernel_rfl)
        (fun h2 =>
        L.ret _ mixed Try.func12 _ (by kernel_rfl) rfl)
        (fun h2 =>
        L.gu mixed 8 _ (by kernel_rfl)
          (fun h3 =>
          L.ret _ mixed Try.func12 _ (by kernel_rfl) rfl)
          (fun h3 =>
          L.br mixed 6 _ (by kernel_rfl)
            (fun h4 =>
            L.ret _ mixed Try.func12 _ (by kernel_rfl) rfl)
            (fun h4 =>
            L.callO mixed (fun u5 : Bool => .bool u5) (cR40_over K a0 a1.Who) (by kernel_rfl) (fun u5 hu5 =>
            L.br mixed 1 _ (by kernel_rfl)
              (fun h6 =>
              L.ret _ mixed Try.func12 _ (by kernel_rfl) rfl)
              (fun h6 =>
              L.callO mixed (fun u7 : Int => .int .i64 u7) (cR40_last K a0) (by kernel_rfl) (fun u7 hu7 =>
              L.br mixed 14 _ (by kernel_rfl)
                (fun h8 =>
                L.gu mixed 8 _ (by kernel_rfl)
                  (fun h9 =>
                  L.ret _ mixed Try.func12 _ (by kernel_rfl) rfl)
                  (fun h9 =>
                  L.callO mixed (fun u10 : Bool => .bool u10) (cR40_open K a0) (by kernel_rfl) (fun u10 hu10 =>
                  L.br mixed 2 _ (by kernel_rfl)
                    (fun h11 =>
                    L.ret _ mixed Try.func12 _ (by kernel_rfl) rfl)
                    (fun h11 =>
                    L.ret _ mixed Try.func12 _ (by kernel_rfl) rfl))))
                (fun h8 =>
                L.br mixed 5 _ (by kernel_rfl)
                  (fun h12 =>
                  L.gu mixed 6 _ (by kernel_rfl)
                    (fun h13 =>
                    L.ret _ mixed Try.func12 _ (by kernel_rfl) rfl)
                    (fun h13 =>
                    L.gu mixed 6 _ (by kernel_rfl)
                      (fun h14 =>
                      L.ret _ mixed Try.func12 _ (by kernel_rfl) rfl)
                      (fun h14 =>
                      L.callO mixed (fun u15 : Bool => .bool u15) (cR40_open K a0) (by kernel_rfl) (fun u15 hu15 =>
                      L.br mixed 3 _ (by kernel_rfl)
                        (fun h16 =>
                        L.ret _ mixed Try.func12 _ (by kernel_rfl) rfl)
                        (fun h16 =>
                        L.gu mixed 8 _ (by kernel_rfl)
                          (fun h17 =>
                          L.ret _ mixed Try.func12 _ (by kernel_rfl) rfl)
                          (fun h17 =>
                          L.br mixed 6 _ (by kernel_rfl)
                            (fun h18 =>
                            L.ret _ mixed Try.func12 _ (by kernel_rfl) rfl)
                            (fun h18 =>
                            L.callO mixed (fun u19 : Bool => .bool u19) (cR40_has K a0 a1) (by kernel_rfl) (fun u19 hu19 =>
                            L.br mixed 1 _ (by kernel_rfl)
                              (fun h20 =>
                              L.ret _ mixed Try.func12 _ (by kernel_rfl) rfl)
                              (fun h20 =>
                              L.ret _ mixed Try.func12 _ (by kernel_rfl) rfl)))))))))
                  (fun h12 =>
                  L.br mixed 5 _ (by kernel_rfl)
                    (fun h21 =>
                    L.gu mixed 7 _ (by kernel_rfl)
                      (fun h22 =>
                      L.ret _ mixed Try.func12 _ (by kernel_rfl) rfl)
                      (fun h22 =>
                      L.gu mixed 6 _ (by kernel_rfl)
                        (fun h23 =>
                        L.ret _ mixed Try.func12 _ (by kernel_rfl) rfl)
                        (fun h23 =>
                        L.br mixed 8 _ (by kernel_rfl)
                          (fun h24 =>
                          L.ret _ mixed Try.func12 _ (by kernel_rfl) rfl)
                          (fun h24 =>
                          L.gu mixed 6 _ (by kernel_rfl)
                            (fun h25 =>
                            L.ret _ mixed Try.func12 _ (by kernel_rfl) rfl)
                            (fun h25 =>
                            L.gu mixed 5 _ (by kernel_rfl)
                              (fun h26 =>
                              L.ret _ mixed Try.func12 _ (by kernel_rfl) rfl)
                              (fun h26 =>
                              L.div mixed 3 false IntKind.i64 a1.B _ (by kernel_rfl) (fun hd28 =>
                              L.br mixed 4 _ (by kernel_rfl)
                                (fun h27 =>
                                L.ret _ mixed Try.func12 _ (by kernel_rfl) rfl)
                                (fun h27 =>
                                L.ret _ mixed Try.func12 _ (by kernel_rfl) rfl))))))))
                    (fun h21 =>
                    L.br mixed 5 _ (by kernel_rfl)
                      (fun h29 =>
                      L.gu mixed 5 _ (by kernel_rfl)
                        (fun h30 =>
                        L.ret _ mixed Try.func12 _ (by kernel_rfl) rfl)
                        (fun h30 =>
                        L.gu mixed 6 _ (by kernel_rfl)
                          (fun h31 =>
                          L.ret _ mixed Try.func12 _ (by kernel_rfl) rfl)
                          (fun h31 =>
                          L.callO mixed (fun u32 : Bool => .bool u32) (cR40_open K a0) (by kernel_rfl) (fun u32 hu32 =>
                          L.br mixed 3 _ (by kernel_rfl)
                            (fun h33 =>
                            L.ret _ mixed Try.func12 _ (by kernel_rfl) rfl)
                            (fun h33 =>
                            L.ret _ mixed Try.func12 _ (by kernel_rfl) rfl)))))
                      (fun h29 =>
                      L.ret _ mixed Try.func12 _ (by kernel_rfl) rfl)))))))))))
/-! ### 7 -/
abbrev ER40_Wrong : Int × Int → Value := fun r => .tuple ⟨[.int .i64 r.1, .int .i64 r.2]⟩
def FR40_Wrong_2 (a0 : List TEvent) (a1 : Int) (a2 : Int) : Nat → Int → Option (Int × Int)
  | 0, _ => none
  | K + 1, p8 =>
    bif (decide (p8 < (↑a0.length : Int))) then
      bif cutOk a0.length ((Option.none : Option Int).getD 0) ((some p8).getD a0.length) then
        bif inR p8 a0.length then
          (FR40_See K (List.take (((some p8).getD (↑a0.length : Int)).toNat - 0) (List.drop 0 a0)) ((getR a0 p8.toNat)) a1 a2).bind fun u3 =>
          bif (u3 != 0) then
            some ((p8, u3))
          else
            FR40_Wrong_2 a0 a1 a2 K (IntKind.i64.wrap (p8 + 1))
        else none
      else none
    else
      some (((↑a0.length : Int), 0))
def FR40_Wrong (K : Nat) (a0 : List TEvent) (a1 : Int) (a2 : Int) : Option (Int × Int) :=
  FR40_Wrong_2 a0 a1 a2 K 0
def HR40_Wrong_2 (fn : Func) (a0 : List TEvent) (a1 : Int) (a2 : Int) (p8 : Int) : VS := headS fn 2 [(0, (lst a0)), (1, (Value.int IntKind.i64 a1)), (2, (Value.int IntKind.i64 a2)), (8, .int .i64 p8)] []
theorem lR40_Wrong (a0 : List TEvent) (a1 : Int) (a2 : Int) : ∀ K : Nat, (∀ (p8 : Int), Lifts Try.prog 7 0 ER40_Wrong (HR40_Wrong_2 Try.f7 a0 a1 a2 p8) (FR40_Wrong_2 a0 a1 a2 K p8)) := by
  intro K
  induction K with
  | zero =>
    exact fun p8 => (by rw [FR40_Wrong_2]; exact L.no)
  | succ K ih =>
    have IH2 := ih
    refine fun p8 => ?_
    · rw [FR40_Wrong_2]
      exact
        L.br mixed 8 _ (by kernel_rfl)
          (fun h1 =>
          L.sl mixed 7 a0 (Option.none : Option Int) (some p8) (by kernel_rfl) <|
          L.idx mixed 2 _ (rows a0) 4 IntKind.i64 _ (by kernel_rfl) (fun h2a h2b =>
          L.ld mixed 0 36 (rows a0) (p8.toNat * 4 + 0) (.agg ⟨[.int .i64 (getR a0 p8.toNat).Who, .int .i64 (getR a0 p8.toNat).Kind, .int .i64 (getR a0 p8.toNat).A, .int .i64 (getR a0 p8.toNat).B]⟩) (by kernel_rfl) (loadN_rows (i := p8.toNat) (d := 0) (k := 4) rfl (toNat_lt h2a h2b) (by kernel_rfl) (by kernel_rfl) (Nat.le_of_ble_eq_true (by kernel_rfl)) (by kernel_rfl)) <|
          L.callO mixed (fun u3 : Int => .int .i64 u3) (cR40_See K (List.take (((some p8).getD (↑a0.length : Int)).toNat - 0) (List.drop 0 a0)) ((getR a0 p8.toNat)) a1 a2) (by kernel_rfl) (fun u3 hu3 =>
          L.br mixed 7 _ (by kernel_rfl)
            (fun h4 =>
            L.ret _ mixed Try.func7 _ (by kernel_rfl) rfl)
            (fun h4 =>
            L.jump mixed 8 [0, 1, 2, 8] (by kernel_rfl) (IH2 (IntKind.i64.wrap (p8 + 1)))))))
          (fun h1 =>
          L.ret _ mixed Try.func7 _ (by kernel_rfl) rfl)
theorem cR40_Wrong (K : Nat) (a0 : List TEvent) (a1 : Int) (a2 : Int) : ∀ r, FR40_Wrong K a0 a1 a2 = some r → Con Try.prog 7 [lst a0, .int .i64 a1, .int .i64 a2] (ER40_Wrong r) := by
  have IH2 := lR40_Wrong a0 a1 a2 K
  refine Con.lift Try.func7 (by kernel_rfl) rfl (fun _ => rfl) ?_
  unfold FR40_Wrong
  exact
    L.jump mixed 12 [0, 1, 2, 8] (by kernel_rfl) (IH2 0)
/-! ### 3 -/
abbrev EL40_AuditWrong : Bool → Value := fun r => .bool r
def FL40_AuditWrong (K : Nat) (a0 : List TEvent) (a1 : Int) (a2 : Int) : Option Bool :=
  bif (decide ((↑a0.length : Int) > 100)) then
    some Fawake
  else
    (Faudit_Wrong K a0 a1 a2).bind fun u2 =>
    bif (decide (a1 < 1)) then
      bif (u2.fst == -1) then
        bif (bif true then u2.snd == 2 else false) then
          some (bif true then Fawake else false)
        else
          some false
      else
        some false
    else
      bif (bif false then true else decide (a2 < 1)) then
        bif (u2.fst == -1) then
          bif (bif true then u2.snd == 2 else false) then
            some (bif true then Fawake else false)
          else
            some false
        else
          some false
      else
        (FR40_Wrong K a0 a1 a2).bind fun u9 =>
        bif (u2.fst == u9.fst) then
          bif (bif true then u2.snd == u9.snd else false) then
            some (bif true then Fawake else false)
          else
            some false
        else
          some false
theorem cL40_AuditWrong (K : Nat) (a0 : List TEvent) (a1 : Int) (a2 : Int) : ∀ r, FL40_AuditWrong K a0 a1 a2 = some r → Con Try.prog 3 [lst a0, .int .i64 a1, .int .i64 a2] (EL40_AuditWrong r) := by
  refine Con.lift Try.func3 (by kernel_rfl) rfl (fun _ => rfl) ?_
  unfold FL40_AuditWrong
  exact
    L.br mixed 11 _ (by kernel_rfl)
      (fun h1 =>
      L.call mixed (awake_con) (by kernel_rfl) <|
      L.ret _ mixed Try.func3 _ (by kernel_rfl) rfl)
      (fun h1 =>
      L.callO mixed (fun u2 : Int × Int => .tuple ⟨[.int .i64 u2.1, .int .i64 u2.2]⟩) (caudit_Wrong K a0 a1 a2) (by kernel_rfl) (fun u2 hu2 =>
      L.gu mixed 12 _ (by kernel_rfl)
        (fun h3 =>
        L.gu mixed 10 _ (by kernel_rfl)
          (fun h4 =>
          L.gu mixed 4 _ (by kernel_rfl)
            (fun h5 =>
            L.call mixed (awake_con) (by kernel_rfl) <|
            L.ret _ mixed Try.func3 _ (by kernel_rfl) rfl)
            (fun h5 =>
            L.ret _ mixed Try.func3 _ (by kernel_rfl) rfl))
          (fun h4 =>
          L.ret _ mixed Try.func3 _ (by kernel_rfl) rfl))
        (fun h3 =>
        L.br mixed 4 _ (by kernel_rfl)
          (fun h6 =>
          L.gu mixed 5 _ (by kernel_rfl)
            (fun h7 =>
            L.gu mixed 4 _ (by kernel_rfl)
              (fun h8 =>
              L.call mixed (awake_con) (by kernel_rfl) <|
              L.ret _ mixed Try.func3 _ (by kernel_rfl) rfl)
              (fun h8 =>
              L.ret _ mixed Try.func3 _ (by kernel_rfl) rfl))
            (fun h7 =>
            L.ret _ mixed Try.func3 _ (by kernel_rfl) rfl))
          (fun h6 =>
          L.callO mixed (fun u9 : Int × Int => .tuple ⟨[.int .i64 u9.1, .int .i64 u9.2]⟩) (cR40_Wrong K a0 a1 a2) (by kernel_rfl) (fun u9 hu9 =>
          L.gu mixed 12 _ (by kernel_rfl)
            (fun h10 =>
            L.gu mixed 5 _ (by kernel_rfl)
              (fun h11 =>
              L.call mixed (awake_con) (by kernel_rfl) <|
              L.ret _ mixed Try.func3 _ (by kernel_rfl) rfl)
              (fun h11 =>
              L.ret _ mixed Try.func3 _ (by kernel_rfl) rfl))
            (fun h10 =>
            L.ret _ mixed Try.func3 _ (by kernel_rfl) rfl))))))

end

end Go.Proofs.Ytdoabaohacfhjaa.Lf
