/- Several texts in one: EWd, EWe, EWf. -/
import Derived.Test.YtdmcdijlpnbghaaGreatDoorQI37
import Derived.Test.YtdmcdijlpnbghaaGreatDoorQI27
import Derived.Test.YtdmcdijlpnbghaaGreatDoorQI34
import Derived.Test.YtdmcdijlpnbghaaGreatDoorQI29
namespace Go.Proofs.YtdmcdijlpnbghaaGreatDoor.Lf

section
open Go Go.Dt Go.Proofs
set_option linter.unusedVariables false

/-! ### 79 -/
abbrev Einternal_stringslite_HasSuffix : Bool → Value := fun r => .bool r
def Finternal_stringslite_HasSuffix (K : Nat) (a0 : ByteArray) (a1 : ByteArray) : Option Bool :=
  bif (decide ((↑a0.size : Int) ≥ (↑a1.size : Int))) then
    bif cutOk (ByteArray.size a0) ((some (IntKind.i64.wrap ((↑a0.size : Int) - (↑a1.size : Int))) : Option Int).getD 0) ((Option.none : Option Int).getD (ByteArray.size a0 : Int)) then
      some (bif true then (a0.extract ((some (IntKind.i64.wrap ((↑a0.size : Int) - (↑a1.size : Int)))).getD 0).toNat (none.getD (↑a0.size : Int)).toNat).toList == a1.toList else false)
    else none
  else
    some false
theorem cinternal_stringslite_HasSuffix (K : Nat) (a0 : ByteArray) (a1 : ByteArray) : ∀ r, Finternal_stringslite_HasSuffix K a0 a1 = some r → Con Tryz.prog 79 [.string a0, .string a1] (Einternal_stringslite_HasSuffix r) := by
  refine Con.lift Tryz.func79 (by kernel_rfl) rfl (fun _ => rfl) ?_
  unfold Finternal_stringslite_HasSuffix
  exact
    L.gu mixed 12 _ (by kernel_rfl)
      (fun h1 =>
      L.ssl mixed 6 a0 (some (IntKind.i64.wrap ((↑a0.size : Int) - (↑a1.size : Int))) : Option Int) (Option.none : Option Int) (by kernel_rfl) <|
      L.ret _ mixed Tryz.func79 _ (by kernel_rfl) rfl)
      (fun h1 =>
      L.ret _ mixed Tryz.func79 _ (by kernel_rfl) rfl)
/-! ### 61 -/
abbrev Einternal_stringslite_CutSuffix : ByteArray × Bool → Value := fun r => .tuple ⟨[.string r.1, .bool r.2]⟩
def Finternal_stringslite_CutSuffix (K : Nat) (a0 : ByteArray) (a1 : ByteArray) : Option (ByteArray × Bool) :=
  (Finternal_stringslite_HasSuffix K a0 a1).bind fun u1 =>
  bif !u1 then
    some ((a0, false))
  else
    bif cutOk (ByteArray.size a0) ((Option.none : Option Int).getD 0) ((some (IntKind.i64.wrap ((↑a0.size : Int) - (↑a1.size : Int))) : Option Int).getD (ByteArray.size a0 : Int)) then
      some ((a0.extract 0 ((some (IntKind.i64.wrap ((↑a0.size : Int) - (↑a1.size : Int)))).getD (↑a0.size : Int)).toNat, true))
    else none
theorem cinternal_stringslite_CutSuffix (K : Nat) (a0 : ByteArray) (a1 : ByteArray) : ∀ r, Finternal_stringslite_CutSuffix K a0 a1 = some r → Con Tryz.prog 61 [.string a0, .string a1] (Einternal_stringslite_CutSuffix r) := by
  refine Con.lift Tryz.func61 (by kernel_rfl) rfl (fun _ => rfl) ?_
  unfold Finternal_stringslite_CutSuffix
  exact
    L.callO mixed (fun u1 : Bool => .bool u1) (cinternal_stringslite_HasSuffix K a0 a1) (by kernel_rfl) (fun u1 hu1 =>
    L.br mixed 2 _ (by kernel_rfl)
      (fun h2 =>
      L.ret _ mixed Tryz.func61 _ (by kernel_rfl) rfl)
      (fun h2 =>
      L.ssl mixed 9 a0 (Option.none : Option Int) (some (IntKind.i64.wrap ((↑a0.size : Int) - (↑a1.size : Int))) : Option Int) (by kernel_rfl) <|
      L.ret _ mixed Tryz.func61 _ (by kernel_rfl) rfl))
/-! ### 42 -/
abbrev Estrings_CutSuffix : ByteArray × Bool → Value := fun r => .tuple ⟨[.string r.1, .bool r.2]⟩
def Fstrings_CutSuffix (K : Nat) (a0 : ByteArray) (a1 : ByteArray) : Option (ByteArray × Bool) :=
  (Finternal_stringslite_CutSuffix K a0 a1).bind fun u1 =>
  some ((u1.fst, u1.snd))
theorem cstrings_CutSuffix (K : Nat) (a0 : ByteArray) (a1 : ByteArray) : ∀ r, Fstrings_CutSuffix K a0 a1 = some r → Con Tryz.prog 42 [.string a0, .string a1] (Estrings_CutSuffix r) := by
  refine Con.lift Tryz.func42 (by kernel_rfl) rfl (fun _ => rfl) ?_
  unfold Fstrings_CutSuffix
  exact
    L.callO mixed (fun u1 : ByteArray × Bool => .tuple ⟨[.string u1.1, .bool u1.2]⟩) (cinternal_stringslite_CutSuffix K a0 a1) (by kernel_rfl) (fun u1 hu1 =>
    L.ret _ mixed Tryz.func42 _ (by kernel_rfl) rfl)
/-! ### 69 -/
/-! ### 50 -/
end

section
open Go Go.Dt Go.Proofs
set_option linter.unusedVariables false

/-! ### 18 -/
abbrev Etrace_Events : List TEvent × Int → Value := fun r => .tuple ⟨[lst r.1, .int .i64 r.2]⟩
def M18r : List TEvent × Int → List Blk
  | ([], e) => [.cells [.slice none 0 0] 0 true, .cells [.int .i64 e] 0 true, .cells [.slice none 0 0] 0 true]
  | (y :: ys, e) => [.cells [.slice none 0 0] 0 true, .cells [.int .i64 e] 0 true, .cells [.slice (some ⟨3, 0, none⟩) (ys.length + 1) (ys.length + 1)] 0 true, ownB (y :: ys)]
def B18r (K : Nat) (a0 : ByteArray) : ByteArray → List TEvent × Int → Option (Nat × (List TEvent × Int))
  | l0, ([], e) =>
    (Fstrings_CutSuffix K l0 (ByteArray.mk #[10])).bind fun u1 =>
    (Ftrace_Event K u1.fst).bind fun u2 =>
    bif !u1.snd then
      some (1, ([], 13))
    else
      bif (bif false then true else u2.snd != 0) then
        some (1, ([], 13))
      else
        bif room (([] : List TEvent).length + ([u2.fst] : List TEvent).length) 32 then
          some (0, ([u2.fst], e))
        else none
  | l0, (y :: ys, e) =>
    (Fstrings_CutSuffix K l0 (ByteArray.mk #[10])).bind fun u5 =>
    (Ftrace_Event K u5.fst).bind fun u6 =>
    bif !u5.snd then
      some (1, (y :: ys, 13))
    else
      bif (bif false then true else u6.snd != 0) then
        some (1, (y :: ys, 13))
      else
        bif room ((y :: ys).length + ([u6.fst] : List TEvent).length) 32 then
          some (0, (y :: ys ++ [u6.fst], e))
        else none
def C18r (K : Nat) (a0 : ByteArray) : Nat → List TEvent × Int → Option (List TEvent × Int)
  | 0, ([], e) =>
    some ((([] : List TEvent), 0))
  | 0, (y :: ys, e) =>
    some ((y :: ys, 0))
  | 1, ([], e) =>
    some ((([] : List TEvent), e))
  | 1, (y :: ys, e) =>
    some ((([] : List TEvent), e))
  | _, _ => none
def Ftrace_Events (K : Nat) (a0 : ByteArray) : Option (List TEvent × Int) :=
  bif Nat.ble a0.size 1000000 then
    (foldB (B18r K a0) (linesOf a0) ([], 0)).bind fun r => C18r K a0 r.1 r.2
  else none
theorem ctrace_Events (K : Nat) (a0 : ByteArray) : ∀ r, Ftrace_Events K a0 = some r → Con Tryz.prog 18 [.string a0] (Etrace_Events r) := by
  refine Con.liftR Tryz.func18 (by kernel_rfl) rfl (fun _ => rfl) ?_
  unfold Ftrace_Events
  exact
    L.callM mixed [] (lines_con a0) (by kernel_rfl) (by kernel_rfl) rfl <|
    L.dec (Nat.ble a0.size 1000000) (fun hg =>
    L.range (bodyF := B18r K a0) (T' := C18r K a0) (fun l0 : ByteArray => [.string l0]) M18r mixed 2 [0, 2, 3, 4] 20 3 ([], 0) (lines_C a0 (Nat.le_of_ble_eq_true hg) 3) (by kernel_rfl) (by kernel_rfl) (by kernel_rfl) (by kernel_rfl) (by kernel_rfl) (by kernel_rfl) (by kernel_rfl) (by kernel_rfl) (by kernel_rfl) ⟨bbnd_ok (by kernel_rfl), bbnd_ok (by kernel_rfl), bbnd_ok (by kernel_rfl), trivial⟩
      (fun l0 st => match st with
      | ([], e) => by kernel_rfl
      | (y :: ys, e) => by kernel_rfl)
      (fun l0 st => match st with
      | ([], e) =>
          L.callO mixed (fun u1 : ByteArray × Bool => .tuple ⟨[.string u1.1, .bool u1.2]⟩) (cstrings_CutSuffix K l0 (ByteArray.mk #[10])) (by kernel_rfl) (fun u1 hu1 =>
          L.callO mixed (fun u2 : TEvent × Int => .tuple ⟨[.agg ⟨[.int .i64 u2.1.Who, .int .i64 u2.1.Kind, .int .i64 u2.1.A, .int .i64 u2.1.B]⟩, .int .i64 u2.2]⟩) (ctrace_Event K u1.fst) (by kernel_rfl) (fun u2 hu2 =>
          L.gu mixed 13 _ (by kernel_rfl)
            (fun h3 =>
            L.rendG mixed 10 [.own 0, .own 1, .own 2] [] 1 (by kernel_rfl) (by kernel_rfl) trivial (by kernel_rfl) (by kernel_rfl) (by kernel_rfl) rfl (by show _ = _; kernel_rfl))
            (fun h3 =>
            L.br mixed 4 _ (by kernel_rfl)
              (fun h4 =>
              L.rendG mixed 5 [.own 0, .own 1, .own 2] [] 1 (by kernel_rfl) (by kernel_rfl) trivial (by kernel_rfl) (by kernel_rfl) (by kernel_rfl) rfl (by show _ = _; kernel_rfl))
              (fun h4 =>
              L.push0 mixed 5 32 4 0 [(Value.int IntKind.i64 u2.fst.Who), (Value.int IntKind.i64 u2.fst.Kind), (Value.int IntKind.i64 u2.fst.A), (Value.int IntKind.i64 u2.fst.B)] ([u2.fst] : List TEvent) (by kernel_rfl) (Nat.le_of_ble_eq_true (by kernel_rfl)) (Nat.le_of_ble_eq_true (by kernel_rfl)) (by kernel_rfl) <|
              L.rendG mixed 3 [.own 0, .own 1, .own 2, .ownp 5] [rows [u2.fst]] 0 (by kernel_rfl) (by kernel_rfl) ⟨rows_pure _, trivial⟩ (by kernel_rfl) (by kernel_rfl) (by kernel_rfl) rfl (by show _ = _; kernel_rfl)))))
        | (y :: ys, e) =>
          L.callO mixed (fun u5 : ByteArray × Bool => .tuple ⟨[.string u5.1, .bool u5.2]⟩) (cstrings_CutSuffix K l0 (ByteArray.mk #[10])) (by kernel_rfl) (fun u5 hu5 =>
          L.callO mixed (fun u6 : TEvent × Int => .tuple ⟨[.agg ⟨[.int .i64 u6.1.Who, .int .i64 u6.1.Kind, .int .i64 u6.1.A, .int .i64 u6.1.B]⟩, .int .i64 u6.2]⟩) (ctrace_Event K u5.fst) (by kernel_rfl) (fun u6 hu6 =>
          L.gu mixed 13 _ (by kernel_rfl)
            (fun h7 =>
            L.rendG mixed 10 [.own 0, .own 1, .own 2, .ownp 3] [rows (y :: ys)] 1 (by kernel_rfl) (by kernel_rfl) ⟨rows_pure _, trivial⟩ (by kernel_rfl) (by kernel_rfl) (by kernel_rfl) rfl (by show _ = _; kernel_rfl))
            (fun h7 =>
            L.br mixed 4 _ (by kernel_rfl)
              (fun h8 =>
              L.rendG mixed 5 [.own 0, .own 1, .own 2, .ownp 3] [rows (y :: ys)] 1 (by kernel_rfl) (by kernel_rfl) ⟨rows_pure _, trivial⟩ (by kernel_rfl) (by kernel_rfl) (by kernel_rfl) rfl (by show _ = _; kernel_rfl))
              (fun h8 =>
              L.app mixed 5 3 32 5 0 (ys.length + 1) [(Value.int IntKind.i64 u6.fst.Who), (Value.int IntKind.i64 u6.fst.Kind), (Value.int IntKind.i64 u6.fst.A), (Value.int IntKind.i64 u6.fst.B)] (y :: ys) ([u6.fst] : List TEvent) (by first | rfl | exact Eq.symm (by assumption) | (simp; done) | (simp [*]; done)) (by kernel_rfl) (by kernel_rfl) (Nat.le_of_ble_eq_true (by kernel_rfl)) (Nat.le_of_ble_eq_true (by kernel_rfl)) (by kernel_rfl) <|
              L.rendG mixed 3 [.own 0, .own 1, .own 2, .ownp 6] [rows (y :: ys ++ [u6.fst])] 0 (by kernel_rfl) (by kernel_rfl) ⟨rows_pure _, trivial⟩ (by kernel_rfl) (by kernel_rfl) (by kernel_rfl) rfl (by show _ = _; kernel_rfl))))))
      (fun c st => match c, st with
      | 0, ([], e) =>
          L.retN _ mixed Tryz.func18 (by kernel_rfl)
        | 0, (y :: ys, e) =>
          L.frzM mixed 7 0 3 (ys.length + 1) 0 [] [] (y :: ys) (by first | rfl | exact Eq.symm (by assumption) | (simp; done) | (simp [*]; done)) rfl (by kernel_rfl) (by kernel_rfl) (by kernel_rfl) <|
          L.ret _ mixed Tryz.func18 _ (by kernel_rfl) rfl
        | 1, ([], e) =>
          L.retN _ mixed Tryz.func18 (by kernel_rfl)
        | 1, (y :: ys, e) =>
          L.retN _ mixed Tryz.func18 (by kernel_rfl)
        | _ + 2, _ => L.no))

end

section
open Go Go.Dt Go.Proofs Go.Shelf Go.RowKit
set_option linter.unusedVariables false
set_option linter.unusedSimpArgs false

def nlS : ByteArray := ⟨#[10]⟩
/-- The text of events, if all may be told. -/
def tlT : List TEvent → List UInt8
  | [] => []
  | e :: l => (lineS e ++ nlS).data.toList ++ tlT l
instance (e : TEvent) : Decidable (may e) := by unfold may; infer_instance
def tlF : List TEvent → List UInt8 → ByteArray × Int
  | [], acc => (⟨acc.toArray⟩, 0)
  | e :: l, acc => if may e then tlF l (acc ++ (lineS e ++ nlS).data.toList) else (noS, 9)
def evV4 (e : TEvent) : Value := .agg #[.int .i64 e.Who, .int .i64 e.Kind, .int .i64 e.A, .int .i64 e.B]
theorem line_calls9 {e : TEvent} (ho : evOk e) (w : World) (hg : GloOk (froH w)) : Calls Tryz.prog 9 #[evV4 e] w fun q w' => (q = .returned (.tuple #[.string (if may e then lineS e else noS), .int .i64 (if may e then 0 else 9)])) ∧ Below w.heap.size w w' := by
  have key : ∃ r : ByteArray × Int, Ftrace_Line 400 e = some r ∧ r = (if may e then lineS e else noS, if may e then 0 else 9) := by
    obtain ⟨h1, h2⟩ := line_eq ho (K := 400) (Nat.le_refl _)
    by_cases h : may e
    · exact ⟨_, h1 h, by simp [h]⟩
    · exact ⟨_, h2 h, by simp [h]⟩
  obtain ⟨r, h1, rfl⟩ := key
  exact Con.calls (ctrace_Line 400 e _ h1) rfl #[evV4 e] w rfl (fun i => by
    rcases i with _ | i
    · exact RV.refl _ _ rfl
    · exact RV.any _) hg
theorem tlT_append (l : List TEvent) (e : TEvent) : tlT (l ++ [e]) = tlT l ++ (lineS e ++ nlS).data.toList := by
  induction l with
  | nil => simp [tlT]
  | cons x l ih => simp [tlT, ih, List.append_assoc]
theorem lineS_size (e : TEvent) : (lineS e).size ≤ 200 := by have := (lineOf_ev e).size; omega
theorem tlT_len : ∀ l : List TEvent, l.length ≤ 1000 → (tlT l).length ≤ 1000000 := by
  have key : ∀ l : List TEvent, (tlT l).length ≤ 201 * l.length := by
    intro l
    induction l with
    | nil => simp [tlT]
    | cons e l ih =>
      have h1 := lineS_size e
      have h2 : ((lineS e ++ nlS).data.toList).length = (lineS e).size + 1 := by rw [← Lib.size_eq, ByteArray.size_append]; rfl
      simp only [tlT, List.length_append, List.length_cons]
      omega
  intro l hl
  have := key l
  omega
theorem tlF_yes : ∀ {l : List TEvent} (acc : List UInt8), (∀ e ∈ l, may e) → tlF l acc = (⟨(acc ++ tlT l).toArray⟩, 0)
  | [], acc, _ => by simp [tlF, tlT]
  | e :: l, acc, h => by
    rw [tlF, if_pos (h e (by simp)), tlF_yes _ (fun x hx => h x (by simp [hx]))]
    simp [tlT, List.append_assoc]
theorem tlF_no : ∀ {l : List TEvent} {acc : List UInt8} {e : TEvent}, e ∈ l → ¬ may e → tlF l acc = (noS, 9)
  | x :: l, acc, e, h, hn => by
    rw [tlF]
    by_cases hx : may x
    · rw [if_pos hx]
      rcases List.mem_cons.1 h with rfl | h
      · exact absurd hx hn
      · exact tlF_no h hn
    · rw [if_neg hx]
theorem stringAny (B b : Nat) (l : List UInt8) (w : World) (h : Lib.IsBuilder 84 5 B b (Lib.byteCells l) w) (hB : B ≤ w.heap.size) :
    Calls Tryz.prog 38 #[.pointer (some ⟨b, 0, none⟩)] w fun e w' => e = .returned (.string ⟨l.toArray⟩) ∧ Below B w w' :=
  Any.Builder_String_any lays169 extra169 B b l w h hB
/-- A row of events in a world. -/
def EvAt (w : World) (a : Option Addr) (l : List TEvent) : Prop := ∀ i e, l[i]? = some e → ∃ r o, a = some ⟨r, o, none⟩ ∧ r < w.heap.size ∧ w.cell? ⟨r, o + i * 4, none⟩ = some (.int .i64 e.Who) ∧ w.cell? ⟨r, o + i * 4 + 1, none⟩ = some (.int .i64 e.Kind) ∧ w.cell? ⟨r, o + i * 4 + 2, none⟩ = some (.int .i64 e.A) ∧ w.cell? ⟨r, o + i * 4 + 3, none⟩ = some (.int .i64 e.B)

set_option maxHeartbeats 8000000 in
set_option maxRecDepth 100000 in
theorem tlines_walk (l : List TEvent) (hl : l.length ≤ 1000) (ho : ∀ e ∈ l, evOk e) (w : World) (hg : GloOk (froH w)) (a : Option Addr) (cap : Nat) (hcap : l.length ≤ cap) (hc : EvAt w a l) :
    Calls Tryz.prog 20 #[.slice a l.length cap] w fun e w' => e = .returned (.tuple #[.string (tlF l []).1, .int .i64 (tlF l []).2]) ∧ Below w.heap.size w w' := by
  go_enter Tryz.func20, Tryz.ntmps20
  go_wp2
  have hI0 := fresh_at (W := w.alloc (.cells #[.pointer none, .slice none 0 0] 84)) (heap_alloc_new w (.cells #[.pointer none, .slice none 0 0] 84))
  have hB0 : Below w.heap.size w (w.alloc (.cells #[.pointer none, .slice none 0 0] 84)) := (Below.refl _ _).alloc (Nat.le_refl _) _
  generalize (w.alloc (.cells #[.pointer none, .slice none 0 0] 84)) = w1 at *
  generalize hb : w.heap.size = b at *
  go_loopw [11] (fun x wr => ∃ k : Nat, k ≤ l.length ∧ x = .int .i64 k ∧ (∀ e ∈ l.take k, may e) ∧ Lib.IsBuilder 84 5 b b (Lib.byteCells (tlT (l.take k))) wr ∧ Below b w wr) (fun x _ => l.length - (intOf x).toNat)
  case atStart => exact ⟨0, Nat.zero_le _, rfl, by simp, hI0, hB0⟩
  case round =>
    obtain ⟨k, hk, rfl, hm, hI, hB⟩ := hrel
    have hsz : b ≤ wr.heap.size := by have := hB.size; omega
    rcases Nat.lt_or_ge k l.length with hlt | hge
    · obtain ⟨e, hke⟩ : ∃ e, l[k]? = some e := ⟨l[k], by simp [hlt]⟩
      obtain ⟨r, o, rfl, hr, g0, g1, g2, g3⟩ := hc k e hke
      rw [hb] at hr
      have f0 := (hB.cell (show (⟨r, o + k * 4, none⟩ : Addr).block < b from hr)).trans g0
      have f1 := (hB.cell (show (⟨r, o + k * 4 + 1, none⟩ : Addr).block < b from hr)).trans g1
      have f2 := (hB.cell (show (⟨r, o + k * 4 + 2, none⟩ : Addr).block < b from hr)).trans g2
      have f3 := (hB.cell (show (⟨r, o + k * 4 + 3, none⟩ : Addr).block < b from hr)).trans g3
      have hoe := ho e (List.mem_of_getElem? hke)
      have hL := fun (W : World) (h : Below b w W) => line_calls9 hoe W (glo_below hg (by rw [hb]; exact h))
      have hBx := hB.alloc hsz (.cells #[.int .i64 e.Who, .int .i64 e.Kind, .int .i64 e.A, .int .i64 e.B] 23)
      have hIx := bld_below hI ((Below.refl _ wr).alloc (Nat.le_refl _) (.cells #[.int .i64 e.Who, .int .i64 e.Kind, .int .i64 e.A, .int .i64 e.B] 23))
      have hsx : b ≤ (wr.alloc (.cells #[.int .i64 e.Who, .int .i64 e.Kind, .int .i64 e.A, .int .i64 e.B] 23)).heap.size := by rw [World.size_alloc]; omega
      have hL := hL _ hBx
      have htk : l.take (k + 1) = l.take k ++ [e] := by rw [List.take_add_one, hke]; rfl
      have hlen : (tlT (l.take k)).length ≤ 1000000 := tlT_len _ (by rw [List.length_take]; omega)
      have hls := lineS_size e
      by_cases hme : may e
      · simp only [if_pos hme] at hL
        have hWs := fun (W : World) (h : Lib.IsBuilder 84 5 b b (Lib.byteCells (tlT (l.take k))) W) (hsW : b ≤ W.heap.size) => writeString b b _ (lineS e ++ nlS) W h (by rw [ByteArray.size_append]; show _ + (_ + 1) ≤ _; omega) hsW
        go_wp2_with (first
          | (go_at_call 9; refine hL.mono ?_; rintro q W1 ⟨rfl, hb1⟩; have hI1 := bld_below hIx hb1; have hs1 := Nat.le_trans hsx hb1.size)
          | (go_at_call 37; refine (hWs _ hI1 hs1).mono ?_; rintro q W2 ⟨rfl, hI2, hb2⟩))
        go_roundw
        case rel =>
          refine ⟨k + 1, hlt, rfl, ?_, ?_, (hBx.trans (hb1.mono hsx)).trans hb2⟩
          · intro e' he'
            rw [htk, List.mem_append, List.mem_singleton] at he'
            rcases he' with h | rfl
            · exact hm e' h
            · exact hme
          · rw [htk, tlT_append]
            exact hI2
        case measure => simp [intOf]; omega
      · simp only [if_neg hme] at hL
        go_wp2_with (go_at_call 9; refine hL.mono ?_; rintro q W1 ⟨rfl, hb1⟩)
        go_ret2
        rw [tlF_no (List.mem_of_getElem? hke) hme]
        exact ⟨rfl, by rw [hb]; exact hBx.trans (hb1.mono hsx)⟩
    · have hkl : k = l.length := by omega
      subst hkl
      rw [List.take_length] at hm hI
      have hS := stringAny b b _ wr hI hsz
      go_wp2_with (go_at_call 38; refine hS.mono ?_; rintro q W1 ⟨rfl, hb1⟩)
      go_ret2
      rw [tlF_yes _ hm]
      exact ⟨rfl, by rw [hb]; exact hB.trans hb1⟩

end

end Go.Proofs.YtdmcdijlpnbghaaGreatDoor.Lf
