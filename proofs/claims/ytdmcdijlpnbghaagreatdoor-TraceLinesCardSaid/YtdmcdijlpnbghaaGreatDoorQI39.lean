/- Several texts in one: EWg, EWh. -/
import Derived.Test.YtdmcdijlpnbghaaGreatDoorQI38
import Derived.Test.YtdmcdijlpnbghaaGreatDoorQI27
import Derived.Test.YtdmcdijlpnbghaaGreatDoorQI21
namespace Go.Proofs.YtdmcdijlpnbghaaGreatDoor.Lf

section
open Go Go.Dt Go.Proofs Go.RowKit
set_option linter.unusedVariables false
set_option linter.unusedSimpArgs false

theorem rows_ev (l : List TEvent) (i : Nat) (e : TEvent) (h : l[i]? = some e) (d : Nat) (hd : d < 4) : (rows l).getD (i * 4 + d) undef = ([.int .i64 e.Who, .int .i64 e.Kind, .int .i64 e.A, .int .i64 e.B] : List Value).getD d undef := by
  obtain ⟨hi, rfl⟩ := List.getElem?_eq_some_iff.1 h
  have := rows_cell l i d hi (show d < Flat.sz TEvent from hd)
  rw [show i * Flat.sz TEvent + d = i * 4 + d from rfl] at this
  rw [List.getD_eq_getElem?_getD, this, List.getD_eq_getElem?_getD]
  have hg : getR l i = l[i] := by simp [getR, hi]
  rw [hg]
  rfl
theorem ev_fit {l : List TEvent} {i d : Nat} (hi : i < l.length) (hd : d < 4) : i * 4 + d < (rows l).length := by
  rw [rows_length]
  show i * 4 + d < l.length * 4
  omega
/-- A slice of events that is known by what it holds, in a world. -/
theorem rv_ev {ι : Map} {w : World} (hf : ∀ r c, ι.fro r = some c → ∃ t fz, w.heap[r]? = some (.cells c t fz)) (l : List TEvent) (x : Value) (h : RV ι (lst l) x) : ∃ a cap, x = .slice a l.length cap ∧ l.length ≤ cap ∧ EvAt w a l := by
  have key : ∀ v, v = Go.Dt.frz l.length (rows l) → RV ι v x → ∃ a cap, x = .slice a l.length cap ∧ l.length ≤ cap ∧ EvAt w a l := fun v hv h1 => by
    cases h1 with
    | @frz n2 c2 r o cap cr hfr hn2 hp2 hfit hc =>
      obtain ⟨rfl, rfl⟩ : n2 = l.length ∧ c2 = rows l := by
        have := hv
        simp [Go.Dt.frz] at this
        exact ⟨by omega, this.2⟩
      refine ⟨some ⟨r, o, none⟩, cap, rfl, hn2, fun i e he => ⟨r, o, rfl, ?_, ?_⟩⟩
      · obtain ⟨t, fz, hh⟩ := hf r cr hfr
        exact (Array.getElem?_eq_some_iff.1 hh).1
      · obtain ⟨hi, _⟩ := List.getElem?_eq_some_iff.1 he
        have hcell : ∀ d, d < 4 → ∀ v, plain v = true → ([.int .i64 e.Who, .int .i64 e.Kind, .int .i64 e.A, .int .i64 e.B] : List Value).getD d undef = v → w.cell? ⟨r, o + (i * 4 + d), none⟩ = some v := fun d hd v hp hv => by
          have hlt := ev_fit hi hd
          have h1 := hc (i * 4 + d) hlt
          rw [rows_ev l i e he d hd, hv] at h1
          have h1 := RV.eq_of_plain h1 hp
          obtain ⟨t, fz, hh⟩ := hf r cr hfr
          have hlt2 : o + (i * 4 + d) < cr.size := by omega
          simp only [World.cell?, hh]
          rw [Array.getD_eq_getD_getElem?, Array.getElem?_eq_getElem hlt2] at h1
          simp only [Option.getD_some] at h1
          rw [Array.getElem?_eq_getElem hlt2, ← h1]
          rfl
        exact ⟨hcell 0 (by decide) _ rfl rfl, hcell 1 (by decide) _ rfl rfl, hcell 2 (by decide) _ rfl rfl, hcell 3 (by decide) _ rfl rfl⟩
    | frzN =>
      have hl : l.length = 0 := by
        have := hv
        simp [Go.Dt.frz] at this
        omega
      rw [hl]
      refine ⟨none, 0, rfl, Nat.le_refl _, fun i e he => ?_⟩
      have := (List.getElem?_eq_some_iff.1 he).1
      omega
    | frzE y cap =>
      have hl : l.length = 0 := by
        have := hv
        simp [Go.Dt.frz] at this
        omega
      rw [hl]
      refine ⟨some y, cap, rfl, Nat.zero_le _, fun i e he => ?_⟩
      have := (List.getElem?_eq_some_iff.1 he).1
      omega
    | iface _ ht => simp at hv; exact absurd hv.1 (Nat.ne_of_lt ht)
    | _ => simp [Go.Dt.frz, undef, anyB, emp, frp] at hv
  exact key _ rfl h
theorem lines_fn (l : List TEvent) (hl : l.length ≤ 1000) (ho : ∀ e ∈ l, evOk e) : FnEq Tryz.prog 20 [lst l] [] (.tuple ⟨[.string (tlF l []).1, .int .i64 (tlF l []).2]⟩) [] := fun ι args' w hsz hargs hsim hd => by
  have hx : args' = #[args'.getD 0 undef] := by
    have hsz1 : args'.size = 1 := hsz
    apply Array.ext (by simpa using hsz1)
    intro i h1 h2
    have : i = 0 := by simp at h2; omega
    subst this
    simp [h1]
  have ha := hargs 0
  generalize args'.getD 0 undef = x at ha hx
  subst hx
  obtain ⟨a, cap, rfl, hcap, hc⟩ := rv_ev hsim.fro l x ha
  exact (tlines_walk l hl ho w (sim_glo hsim) a cap hcap hc).mono fun e w' ⟨he, hb⟩ => ⟨_, ι, he, RV.refl ι _ rfl, sim_below hsim hb, hd, ext_below hb⟩
/-- Numbers of 64 bits. -/
def okI (n : Int) : Bool := decide (-9223372036854775808 ≤ n) && decide (n ≤ 9223372036854775807)
def okEv (e : TEvent) : Bool := okI e.Who && (okI e.A && okI e.B)
theorem okI_iff {n : Int} (h : okI n = true) : i64 n := by
  simp only [okI, Bool.and_eq_true, decide_eq_true_eq] at h
  exact h
/-- What trace.Lines tells. -/
def Ftrace_Lines (_ : Nat) (l : List TEvent) : Option (ByteArray × Int) := bif Nat.ble l.length 1000 && l.all okEv then some (tlF l []) else none
abbrev Etrace_Lines : ByteArray × Int → Value := fun r => .tuple ⟨[.string r.1, .int .i64 r.2]⟩
theorem ctrace_Lines (K : Nat) (a0 : List TEvent) : ∀ r, Ftrace_Lines K a0 = some r → Con Tryz.prog 20 [lst a0] (Etrace_Lines r) := fun r h => by
  unfold Ftrace_Lines at h
  cases hd : Nat.ble a0.length 1000 && a0.all okEv with
  | false => rw [hd] at h; cases h
  | true =>
    rw [hd] at h
    cases h
    rw [Bool.and_eq_true] at hd
    refine Con.of Tryz.func20 (by kernel_rfl) ?_ (lines_fn a0 (Nat.le_of_ble_eq_true hd.1) (fun e he => ?_))
    · show (pures [lst a0] && true) = true
      simp [pureV, pures]
      exact Or.inr (rows_pure a0)
    · have := List.all_eq_true.1 hd.2 e he
      simp only [okEv, Bool.and_eq_true] at this
      exact ⟨okI_iff this.1, okI_iff this.2.1, okI_iff this.2.2⟩

end

section
open Go Go.Dt Go.Proofs
set_option linter.unusedVariables false

/-! ### 19 -/
abbrev ER37_Split : List ByteArray × Bool → Value := fun r => .tuple ⟨[lst r.1, .bool r.2]⟩
def FR37_Split_4 (a0 : ByteArray) : Nat → (List ByteArray) → ByteArray → Int → Option (List ByteArray × Bool)
  | 0, _, _, _ => none
  | K + 1, p4, p5, p6 =>
    bif (decide (p6 < (↑a0.size : Int))) then
      bif inR p6 a0.size then
        bif (byteAt a0 p6 == 10) then
          bif room (p4.length + ([p5] : List ByteArray).length) 16 then
            FR37_Split_4 a0 K (p4 ++ [p5]) (ByteArray.mk #[]) (IntKind.i64.wrap (p6 + 1))
          else none
        else
          bif cutOk (ByteArray.size a0) ((some p6 : Option Int).getD 0) ((some (IntKind.i64.wrap (p6 + 1)) : Option Int).getD (ByteArray.size a0 : Int)) then
            bif catOk p5 (a0.extract ((some p6).getD 0).toNat ((some (IntKind.i64.wrap (p6 + 1))).getD (↑a0.size : Int)).toNat) then
              FR37_Split_4 a0 K p4 (p5 ++ a0.extract ((some p6).getD 0).toNat ((some (IntKind.i64.wrap (p6 + 1))).getD (↑a0.size : Int)).toNat) (IntKind.i64.wrap (p6 + 1))
            else none
          else none
      else none
    else
      some ((p4, p5.toList == (ByteArray.mk #[]).toList))
def FR37_Split (K : Nat) (a0 : ByteArray) : Option (List ByteArray × Bool) :=
  FR37_Split_4 a0 K [] (ByteArray.mk #[]) 0
def HR37_Split_44N (fn : Func) (a0 : ByteArray) (p5 : ByteArray) (p6 : Int) : VS := headS fn 4 [(0, (Value.string a0)), (4, .slice none 0 0), (5, .string p5), (6, .int .i64 p6)] []
def HR37_Split_44O (fn : Func) (a0 : ByteArray) (np4 : Nat) (p4 : List ByteArray) (p5 : ByteArray) (p6 : Int) : VS := headS fn 4 [(0, (Value.string a0)), (4, .slice (some ⟨0, 0, none⟩) np4 np4), (5, .string p5), (6, .int .i64 p6)] [ownB p4]
theorem lR37_Split (a0 : ByteArray) : ∀ K : Nat, (∀ (p5 : ByteArray) (p6 : Int), Lifts Tryz.prog 19 0 ER37_Split (HR37_Split_44N Tryz.f19 a0 p5 p6) (FR37_Split_4 a0 K [] p5 p6)) ∧ (∀ (np4 : Nat) (p4 : List ByteArray) (_ : np4 = p4.length) (p5 : ByteArray) (p6 : Int), Lifts Tryz.prog 19 0 ER37_Split (HR37_Split_44O Tryz.f19 a0 np4 p4 p5 p6) (FR37_Split_4 a0 K p4 p5 p6)) := by
  intro K
  induction K with
  | zero =>
    exact ⟨fun p5 p6 => (by rw [FR37_Split_4]; exact L.no), fun np4 p4 ep4 p5 p6 => (by rw [FR37_Split_4]; exact L.no)⟩
  | succ K ih =>
    obtain ⟨IH44N, IH44O⟩ := ih
    refine ⟨fun p5 p6 => ?_, fun np4 p4 ep4 p5 p6 => ?_⟩
    · rw [FR37_Split_4]
      exact
        L.br mixed 8 _ (by kernel_rfl)
          (fun h1 =>
          L.strIdx mixed 8 9 _ IntKind.i64 _ (by kernel_rfl) (by kernel_rfl) (fun h2a h2b =>
          L.br mixed 2 _ (by kernel_rfl)
            (fun h3 =>
            L.push0 mixed 5 16 0 0 [(Value.string p5)] ([p5] : List ByteArray) (by kernel_rfl) (Nat.le_of_ble_eq_true (by kernel_rfl)) (Nat.le_of_ble_eq_true (by kernel_rfl)) (by kernel_rfl) <|
            L.jumpG mixed 13 [0, 4, 5, 6] [.ownp 1] [rows [p5]] (by kernel_rfl) (by kernel_rfl) (by kernel_rfl) ⟨rows_pure _, trivial⟩ (by kernel_rfl) (by kernel_rfl) (IH44O [p5].length [p5] (by first | rfl | exact Eq.symm (by assumption) | (simp; done) | (simp [*]; done)) (ByteArray.mk #[]) (IntKind.i64.wrap (p6 + 1))))
            (fun h3 =>
            L.ssl mixed 7 a0 (some p6 : Option Int) (some (IntKind.i64.wrap (p6 + 1)) : Option Int) (by kernel_rfl) <|
            L.cat mixed 0 p5 (a0.extract ((some p6).getD 0).toNat ((some (IntKind.i64.wrap (p6 + 1))).getD (↑a0.size : Int)).toNat) (by kernel_rfl) <|
            L.jump mixed 9 [0, 4, 5, 6] (by kernel_rfl) (IH44N (p5 ++ a0.extract ((some p6).getD 0).toNat ((some (IntKind.i64.wrap (p6 + 1))).getD (↑a0.size : Int)).toNat) (IntKind.i64.wrap (p6 + 1))))))
          (fun h1 =>
          L.frzNil mixed 9 2 (by kernel_rfl) <|
          L.ret _ mixed Tryz.func19 _ (by kernel_rfl) rfl)
    · subst ep4; rw [FR37_Split_4]
      exact
        L.br mixed 8 _ (by kernel_rfl)
          (fun h4 =>
          L.strIdx mixed 8 9 _ IntKind.i64 _ (by kernel_rfl) (by kernel_rfl) (fun h5a h5b =>
          L.br mixed 2 _ (by kernel_rfl)
            (fun h6 =>
            L.app mixed 5 0 16 1 0 p4.length [(Value.string p5)] p4 ([p5] : List ByteArray) (by first | rfl | exact Eq.symm (by assumption) | (simp; done) | (simp [*]; done)) (by kernel_rfl) (by kernel_rfl) (Nat.le_of_ble_eq_true (by kernel_rfl)) (Nat.le_of_ble_eq_true (by kernel_rfl)) (by kernel_rfl) <|
            L.jumpG mixed 13 [0, 4, 5, 6] [.ownp 2] [rows (p4 ++ [p5])] (by kernel_rfl) (by kernel_rfl) (by kernel_rfl) ⟨rows_pure _, trivial⟩ (by kernel_rfl) (by kernel_rfl) (IH44O ((p4 ++ [p5]).length) (p4 ++ [p5]) (by first | rfl | exact Eq.symm (by assumption) | (simp; done) | (simp [*]; done)) (ByteArray.mk #[]) (IntKind.i64.wrap (p6 + 1))))
            (fun h6 =>
            L.ssl mixed 7 a0 (some p6 : Option Int) (some (IntKind.i64.wrap (p6 + 1)) : Option Int) (by kernel_rfl) <|
            L.cat mixed 0 p5 (a0.extract ((some p6).getD 0).toNat ((some (IntKind.i64.wrap (p6 + 1))).getD (↑a0.size : Int)).toNat) (by kernel_rfl) <|
            L.jump mixed 9 [0, 4, 5, 6] (by kernel_rfl) (IH44O p4.length p4 (by first | rfl | exact Eq.symm (by assumption) | (simp; done) | (simp [*]; done)) (p5 ++ a0.extract ((some p6).getD 0).toNat ((some (IntKind.i64.wrap (p6 + 1))).getD (↑a0.size : Int)).toNat) (IntKind.i64.wrap (p6 + 1))))))
          (fun h4 =>
          L.frzO mixed 9 2 0 p4.length p4 (by first | rfl | exact Eq.symm (by assumption) | (simp; done) | (simp [*]; done)) (by kernel_rfl) (by kernel_rfl) (by kernel_rfl) <|
          L.ret _ mixed Tryz.func19 _ (by kernel_rfl) rfl)
theorem cR37_Split (K : Nat) (a0 : ByteArray) : ∀ r, FR37_Split K a0 = some r → Con Tryz.prog 19 [.string a0] (ER37_Split r) := by
  obtain ⟨IH44N, IH44O⟩ := lR37_Split a0 K
  refine Con.lift Tryz.func19 (by kernel_rfl) rfl (fun _ => rfl) ?_
  unfold FR37_Split
  exact
    L.jump mixed 20 [0, 4, 5, 6] (by kernel_rfl) (IH44N (ByteArray.mk #[]) 0)

end

end Go.Proofs.YtdmcdijlpnbghaaGreatDoor.Lf
