/- Several texts in one: EVw, EVx. -/
import Derived.Test.YtdmcdijlpnbghaaGreatDoorQH33
import Derived.Test.YtdmcdijlpnbghaaGreatDoorQH26
namespace Go.Proofs.YtdmcdijlpnbghaaGreatDoor.Lf

section
open Go Go.Dt Go.Proofs
set_option linter.unusedVariables false

/-! ### 3 -/
abbrev EL37_TraceEvents : Bool → Value := fun r => .bool r
def FL37_TraceEvents (K : Nat) (a0 : TEvent) (a1 : ByteArray) : Option Bool :=
  bif (decide ((↑a1.size : Int) > 200)) then
    some Fawake
  else
    (Ftrace_Event K a1).bind fun u2 =>
    (FR37_Event K a1).bind fun u3 =>
    bif (bif true then !(u2.fst.Who == u3.fst.Who && (u2.fst.Kind == u3.fst.Kind && (u2.fst.A == u3.fst.A && (u2.fst.B == u3.fst.B && true)))) else u2.fst.Who == u3.fst.Who && (u2.fst.Kind == u3.fst.Kind && (u2.fst.A == u3.fst.A && (u2.fst.B == u3.fst.B && true)))) then
      some false
    else
      bif u3.snd then
        bif (bif false then true else bif true then u2.snd != 0 else false) then
          some false
        else
          bif !u3.snd then
            bif (bif false then true else bif true then u2.snd != 13 else false) then
              some false
            else
              (Ftrace_Line K a0).bind fun u9 =>
              (FR37_May K a0).bind fun u10 =>
              bif !u10 then
                bif (u9.fst.toList == (ByteArray.mk #[]).toList) then
                  bif (bif true then u9.snd == 9 else false) then
                    some (bif true then Fawake else false)
                  else
                    some false
                else
                  some false
              else
                (Ftrace_Event K u9.fst).bind fun u14 =>
                bif (u9.snd == 0) then
                  (FR37_Line K a0).bind fun u16 =>
                  bif (bif true then u9.fst.toList == u16.toList else false) then
                    bif (bif true then u14.snd == 0 else false) then
                      bif (bif true then bif false then !(u14.fst.Who == a0.Who && (u14.fst.Kind == a0.Kind && (u14.fst.A == a0.A && (u14.fst.B == a0.B && true)))) else u14.fst.Who == a0.Who && (u14.fst.Kind == a0.Kind && (u14.fst.A == a0.A && (u14.fst.B == a0.B && true))) else false) then
                        some (bif true then Fawake else false)
                      else
                        some false
                    else
                      some false
                  else
                    some false
                else
                  some false
          else
            (Ftrace_Line K a0).bind fun u20 =>
            (FR37_May K a0).bind fun u21 =>
            bif !u21 then
              bif (u20.fst.toList == (ByteArray.mk #[]).toList) then
                bif (bif true then u20.snd == 9 else false) then
                  some (bif true then Fawake else false)
                else
                  some false
              else
                some false
            else
              (Ftrace_Event K u20.fst).bind fun u25 =>
              bif (u20.snd == 0) then
                (FR37_Line K a0).bind fun u27 =>
                bif (bif true then u20.fst.toList == u27.toList else false) then
                  bif (bif true then u25.snd == 0 else false) then
                    bif (bif true then bif false then !(u25.fst.Who == a0.Who && (u25.fst.Kind == a0.Kind && (u25.fst.A == a0.A && (u25.fst.B == a0.B && true)))) else u25.fst.Who == a0.Who && (u25.fst.Kind == a0.Kind && (u25.fst.A == a0.A && (u25.fst.B == a0.B && true))) else false) then
                      some (bif true then Fawake else false)
                    else
                      some false
                  else
                    some false
                else
                  some false
              else
                some false
      else
        bif !u3.snd then
          bif (bif bif false then true else false then true else bif true then u2.snd != 13 else false) then
            some false
          else
            (Ftrace_Line K a0).bind fun u33 =>
            (FR37_May K a0).bind fun u34 =>
            bif !u34 then
              bif (u33.fst.toList == (ByteArray.mk #[]).toList) then
                bif (bif true then u33.snd == 9 else false) then
                  some (bif true then Fawake else false)
                else
                  some false
              else
                some false
            else
              (Ftrace_Event K u33.fst).bind fun u38 =>
              bif (u33.snd == 0) then
                (FR37_Line K a0).bind fun u40 =>
                bif (bif true then u33.fst.toList == u40.toList else false) then
                  bif (bif true then u38.snd == 0 else false) then
                    bif (bif true then bif false then !(u38.fst.Who == a0.Who && (u38.fst.Kind == a0.Kind && (u38.fst.A == a0.A && (u38.fst.B == a0.B && true)))) else u38.fst.Who == a0.Who && (u38.fst.Kind == a0.Kind && (u38.fst.A == a0.A && (u38.fst.B == a0.B && true))) else false) then
                      some (bif true then Fawake else false)
                    else
                      some false
                  else
                    some false
                else
                  some false
              else
                some false
        else
          (Ftrace_Line K a0).bind fun u44 =>
          (FR37_May K a0).bind fun u45 =>
          bif !u45 then
            bif (u44.fst.toList == (ByteArray.mk #[]).toList) then
              bif (bif true then u44.snd == 9 else false) then
                some (bif true then Fawake else false)
              else
                some false
            else
              some false
          else
            (Ftrace_Event K u44.fst).bind fun u49 =>
            bif (u44.snd == 0) then
              (FR37_Line K a0).bind fun u51 =>
              bif (bif true then u44.fst.toList == u51.toList else false) then
                bif (bif true then u49.snd == 0 else false) then
                  bif (bif true then bif false then !(u49.fst.Who == a0.Who && (u49.fst.Kind == a0.Kind && (u49.fst.A == a0.A && (u49.fst.B == a0.B && true)))) else u49.fst.Who == a0.Who && (u49.fst.Kind == a0.Kind && (u49.fst.A == a0.A && (u49.fst.B == a0.B && true))) else false) then
                    some (bif true then Fawake else false)
                  else
                    some false
                else
                  some false
              else
                some false
            else
              some false
theorem cL37_TraceEvents (K : Nat) (a0 : TEvent) (a1 : ByteArray) : ∀ r, FL37_TraceEvents K a0 a1 = some r → Con Tryz.prog 3 [.agg ⟨[.int .i64 a0.Who, .int .i64 a0.Kind, .int .i64 a0.A, .int .i64 a0.B]⟩, .string a1] (EL37_TraceEvents r) := by
  refine Con.lift Tryz.func3 (by kernel_rfl) rfl (fun _ => rfl) ?_
  unfold FL37_TraceEvents
  exact
    L.br mixed 12 _ (by kernel_rfl)
      (fun h1 =>
      L.call mixed (awake_con) (by kernel_rfl) <|
      L.ret _ mixed Tryz.func3 _ (by kernel_rfl) rfl)
      (fun h1 =>
      L.callO mixed (fun u2 : TEvent × Int => .tuple ⟨[.agg ⟨[.int .i64 u2.1.Who, .int .i64 u2.1.Kind, .int .i64 u2.1.A, .int .i64 u2.1.B]⟩, .int .i64 u2.2]⟩) (ctrace_Event K a1) (by kernel_rfl) (fun u2 hu2 =>
      L.callO mixed (fun u3 : TEvent × Bool => .tuple ⟨[.agg ⟨[.int .i64 u3.1.Who, .int .i64 u3.1.Kind, .int .i64 u3.1.A, .int .i64 u3.1.B]⟩, .bool u3.2]⟩) (cR37_Event K a1) (by kernel_rfl) (fun u3 hu3 =>
      L.gu mixed 14 _ (by kernel_rfl)
        (fun h4 =>
        L.ret _ mixed Tryz.func3 _ (by kernel_rfl) rfl)
        (fun h4 =>
        L.gu mixed 2 _ (by kernel_rfl)
          (fun h5 =>
          L.gu mixed 5 _ (by kernel_rfl)
            (fun h6 =>
            L.ret _ mixed Tryz.func3 _ (by kernel_rfl) rfl)
            (fun h6 =>
            L.gu mixed 3 _ (by kernel_rfl)
              (fun h7 =>
              L.br mixed 5 _ (by kernel_rfl)
                (fun h8 =>
                L.ret _ mixed Tryz.func3 _ (by kernel_rfl) rfl)
                (fun h8 =>
                L.callO mixed (fun u9 : ByteArray × Int => .tuple ⟨[.string u9.1, .int .i64 u9.2]⟩) (ctrace_Line K a0) (by kernel_rfl) (fun u9 hu9 =>
                L.callO mixed (fun u10 : Bool => .bool u10) (cR37_May K a0) (by kernel_rfl) (fun u10 hu10 =>
                L.br mixed 2 _ (by kernel_rfl)
                  (fun h11 =>
                  L.gu mixed 5 _ (by kernel_rfl)
                    (fun h12 =>
                    L.gu mixed 4 _ (by kernel_rfl)
                      (fun h13 =>
                      L.call mixed (awake_con) (by kernel_rfl) <|
                      L.ret _ mixed Tryz.func3 _ (by kernel_rfl) rfl)
                      (fun h13 =>
                      L.ret _ mixed Tryz.func3 _ (by kernel_rfl) rfl))
                    (fun h12 =>
                    L.ret _ mixed Tryz.func3 _ (by kernel_rfl) rfl))
                  (fun h11 =>
                  L.callO mixed (fun u14 : TEvent × Int => .tuple ⟨[.agg ⟨[.int .i64 u14.1.Who, .int .i64 u14.1.Kind, .int .i64 u14.1.A, .int .i64 u14.1.B]⟩, .int .i64 u14.2]⟩) (ctrace_Event K u9.fst) (by kernel_rfl) (fun u14 hu14 =>
                  L.gu mixed 12 _ (by kernel_rfl)
                    (fun h15 =>
                    L.callO mixed (fun u16 : ByteArray => .string u16) (cR37_Line K a0) (by kernel_rfl) (fun u16 hu16 =>
                    L.gu mixed 3 _ (by kernel_rfl)
                      (fun h17 =>
                      L.gu mixed 4 _ (by kernel_rfl)
                        (fun h18 =>
                        L.gu mixed 5 _ (by kernel_rfl)
                          (fun h19 =>
                          L.call mixed (awake_con) (by kernel_rfl) <|
                          L.ret _ mixed Tryz.func3 _ (by kernel_rfl) rfl)
                          (fun h19 =>
                          L.ret _ mixed Tryz.func3 _ (by kernel_rfl) rfl))
                        (fun h18 =>
                        L.ret _ mixed Tryz.func3 _ (by kernel_rfl) rfl))
                      (fun h17 =>
                      L.ret _ mixed Tryz.func3 _ (by kernel_rfl) rfl)))
                    (fun h15 =>
                    L.ret _ mixed Tryz.func3 _ (by kernel_rfl) rfl)))))))
              (fun h7 =>
              L.callO mixed (fun u20 : ByteArray × Int => .tuple ⟨[.string u20.1, .int .i64 u20.2]⟩) (ctrace_Line K a0) (by kernel_rfl) (fun u20 hu20 =>
              L.callO mixed (fun u21 : Bool => .bool u21) (cR37_May K a0) (by kernel_rfl) (fun u21 hu21 =>
              L.br mixed 2 _ (by kernel_rfl)
                (fun h22 =>
                L.gu mixed 5 _ (by kernel_rfl)
                  (fun h23 =>
                  L.gu mixed 4 _ (by kernel_rfl)
                    (fun h24 =>
                    L.call mixed (awake_con) (by kernel_rfl) <|
                    L.ret _ mixed Tryz.func3 _ (by kernel_rfl) rfl)
                    (fun h24 =>
                    L.ret _ mixed Tryz.func3 _ (by kernel_rfl) rfl))
                  (fun h23 =>
                  L.ret _ mixed Tryz.func3 _ (by kernel_rfl) rfl))
                (fun h22 =>
                L.callO mixed (fun u25 : TEvent × Int => .tuple ⟨[.agg ⟨[.int .i64 u25.1.Who, .int .i64 u25.1.Kind, .int .i64 u25.1.A, .int .i64 u25.1.B]⟩, .int .i64 u25.2]⟩) (ctrace_Event K u20.fst) (by kernel_rfl) (fun u25 hu25 =>
                L.gu mixed 12 _ (by kernel_rfl)
                  (fun h26 =>
                  L.callO mixed (fun u27 : ByteArray => .string u27) (cR37_Line K a0) (by kernel_rfl) (fun u27 hu27 =>
                  L.gu mixed 3 _ (by kernel_rfl)
                    (fun h28 =>
                    L.gu mixed 4 _ (by kernel_rfl)
                      (fun h29 =>
                      L.gu mixed 5 _ (by kernel_rfl)
                        (fun h30 =>
                        L.call mixed (awake_con) (by kernel_rfl) <|
                        L.ret _ mixed Tryz.func3 _ (by kernel_rfl) rfl)
                        (fun h30 =>
                        L.ret _ mixed Tryz.func3 _ (by kernel_rfl) rfl))
                      (fun h29 =>
                      L.ret _ mixed Tryz.func3 _ (by kernel_rfl) rfl))
                    (fun h28 =>
                    L.ret _ mixed Tryz.func3 _ (by kernel_rfl) rfl)))
                  (fun h26 =>
                  L.ret _ mixed Tryz.func3 _ (by kernel_rfl) rfl))))))))
          (fun h5 =>
          L.gu mixed 8 _ (by kernel_rfl)
            (fun h31 =>
            L.br mixed 5 _ (by kernel_rfl)
              (fun h32 =>
              L.ret _ mixed Tryz.func3 _ (by kernel_rfl) rfl)
              (fun h32 =>
              L.callO mixed (fun u33 : ByteArray × Int => .tuple ⟨[.string u33.1, .int .i64 u33.2]⟩) (ctrace_Line K a0) (by kernel_rfl) (fun u33 hu33 =>
              L.callO mixed (fun u34 : Bool => .bool u34) (cR37_May K a0) (by kernel_rfl) (fun u34 hu34 =>
              L.br mixed 2 _ (by kernel_rfl)
                (fun h35 =>
                L.gu mixed 5 _ (by kernel_rfl)
                  (fun h36 =>
                  L.gu mixed 4 _ (by kernel_rfl)
                    (fun h37 =>
                    L.call mixed (awake_con) (by kernel_rfl) <|
                    L.ret _ mixed Tryz.func3 _ (by kernel_rfl) rfl)
                    (fun h37 =>
                    L.ret _ mixed Tryz.func3 _ (by kernel_rfl) rfl))
                  (fun h36 =>
                  L.ret _ mixed Tryz.func3 _ (by kernel_rfl) rfl))
                (fun h35 =>
                L.callO mixed (fun u38 : TEvent × Int => .tuple ⟨[.agg ⟨[.int .i64 u38.1.Who, .int .i64 u38.1.Kind, .int .i64 u38.1.A, .int .i64 u38.1.B]⟩, .int .i64 u38.2]⟩) (ctrace_Event K u33.fst) (by kernel_rfl) (fun u38 hu38 =>
                L.gu mixed 12 _ (by kernel_rfl)
                  (fun h39 =>
                  L.callO mixed (fun u40 : ByteArray => .string u40) (cR37_Line K a0) (by kernel_rfl) (fun u40 hu40 =>
                  L.gu mixed 3 _ (by kernel_rfl)
                    (fun h41 =>
                    L.gu mixed 4 _ (by kernel_rfl)
                      (fun h42 =>
                      L.gu mixed 5 _ (by kernel_rfl)
                        (fun h43 =>
                        L.call mixed (awake_con) (by kernel_rfl) <|
                        L.ret _ mixed Tryz.func3 _ (by kernel_rfl) rfl)
                        (fun h43 =>
                        L.ret _ mixed Tryz.func3 _ (by kernel_rfl) rfl))
                      (fun h42 =>
                      L.ret _ mixed Tryz.func3 _ (by kernel_rfl) rfl))
                    (fun h41 =>
                    L.ret _ mixed Tryz.func3 _ (by kernel_rfl) rfl)))
                  (fun h39 =>
                  L.ret _ mixed Tryz.func3 _ (by kernel_rfl) rfl)))))))
            (fun h31 =>
            L.callO mixed (fun u44 : ByteArray × Int => .tuple ⟨[.string u44.1, .int .i64 u44.2]⟩) (ctrace_Line K a0) (by kernel_rfl) (fun u44 hu44 =>
            L.callO mixed (fun u45 : Bool => .bool u45) (cR37_May K a0) (by kernel_rfl) (fun u45 hu45 =>
            L.br mixed 2 _ (by kernel_rfl)
              (fun h46 =>
              L.gu mixed 5 _ (by kernel_rfl)
                (fun h47 =>
                L.gu mixed 4 _ (by kernel_rfl)
                  (fun h48 =>
                  L.call mixed (awake_con) (by kernel_rfl) <|
                  L.ret _ mixed Tryz.func3 _ (by kernel_rfl) rfl)
                  (fun h48 =>
                  L.ret _ mixed Tryz.func3 _ (by kernel_rfl) rfl))
                (fun h47 =>
                L.ret _ mixed Tryz.func3 _ (by kernel_rfl) rfl))
              (fun h46 =>
              L.callO mixed (fun u49 : TEvent × Int => .tuple ⟨[.agg ⟨[.int .i64 u49.1.Who, .int .i64 u49.1.Kind, .int .i64 u49.1.A, .int .i64 u49.1.B]⟩, .int .i64 u49.2]⟩) (ctrace_Event K u44.fst) (by kernel_rfl) (fun u49 hu49 =>
              L.gu mixed 12 _ (by kernel_rfl)
                (fun h50 =>
                L.callO mixed (fun u51 : ByteArray => .string u51) (cR37_Line K a0) (by kernel_rfl) (fun u51 hu51 =>
                L.gu mixed 3 _ (by kernel_rfl)
                  (fun h52 =>
                  L.gu mixed 4 _ (by kernel_rfl)
                    (fun h53 =>
                    L.gu mixed 5 _ (by kernel_rfl)
                      (fun h54 =>
                      L.call mixed (awake_con) (by kernel_rfl) <|
                      L.ret _ mixed Tryz.func3 _ (by kernel_rfl) rfl)
                      (fun h54 =>
                      L.ret _ mixed Tryz.func3 _ (by kernel_rfl) rfl))
                    (fun h53 =>
                    L.ret _ mixed Tryz.func3 _ (by kernel_rfl) rfl))
                  (fun h52 =>
                  L.ret _ mixed Tryz.func3 _ (by kernel_rfl) rfl)))
                (fun h50 =>
                L.ret _ mixed Tryz.func3 _ (by kernel_rfl) rfl)))))))))))

end

section
open Go Go.Dt Go.Proofs
set_option linter.unusedVariables false
set_option linter.unusedSimpArgs false

theorem nn_le {n : Nat} (h : decide ((n : Int) > 200) = false) : n ≤ 200 := by
  have := of_decide_eq_false h
  omega
theorem traceEvents_true {e : TEvent} (ho : evOk e) (s : ByteArray) {K : Nat} (hK : 300000 ≤ K) : FL37_TraceEvents K e s = some true := by
  unfold FL37_TraceEvents
  cases hs : decide ((s.size : Int) > 200) with
  | true => rfl
  | false =>
    have hs := nn_le hs
    simp only [cond_false]
    obtain ⟨r2, h2, c2⟩ := event_eq (s := s) (by omega) (K := K) (by omega)
    obtain ⟨r3, h3, c3⟩ := refEvent_eq (s := s) (by omega) (K := K) hK
    obtain ⟨l1, l2⟩ := line_eq ho (K := K) (by omega)
    obtain ⟨b, hb, hbm⟩ := may_eq K e
    have both : (r2 = (noE, 13) ∧ r3 = (noE, false)) ∨ ∃ x, r2 = (x, 0) ∧ r3 = (x, true) := by
      rcases c2 with rfl | ⟨x, hm, hx, hl, rfl⟩
      · rcases c3 with rfl | ⟨y, hm, hx, hl, rfl⟩
        · exact .inl ⟨rfl, rfl⟩
        · rw [hl, event_back hm hx (by omega)] at h2
          cases h2
      · rw [hl, refEvent_back hm hx hK] at h3
        cases h3
        exact .inr ⟨x, rfl, rfl⟩
    rw [h2, h3, hb]
    simp only [Option.bind_some, cond_true, cond_false]
    cases b with
    | false =>
      have hnm : ¬ may e := fun h => by have := hbm.2 h; cases this
      rw [l2 hnm]
      rcases both with ⟨rfl, rfl⟩ | ⟨x, rfl, rfl⟩ <;> simp [noS]
    | true =>
      have hm := hbm.1 rfl
      have hback := event_back hm ho (K := K) (by omega)
      rw [l1 hm]
      simp only [Option.bind_some]
      rw [hback, refLine_eq hm ho (K := K) (by omega)]
      rcases both with ⟨rfl, rfl⟩ | ⟨x, rfl, rfl⟩ <;> simp
theorem i64_of {n : Int} (h : (Lit.int .i64 n).wf = true) : i64 n := by
  simp only [Lit.wf, Bool.and_eq_true, decide_eq_true_eq] at h
  exact h
theorem law_con (e : TEvent) (he : Ope.ok e) (s : ByteArray) {p : Prop} (_ : p) : Con Tryz.prog 3 [.agg ⟨Flat.cells e⟩, .string s] (.bool true) :=
  cL37_TraceEvents 300000 e s true (traceEvents_true ⟨i64_of he.1, i64_of he.2.2.1, i64_of he.2.2.2⟩ s (Nat.le_refl _))

end

end Go.Proofs.YtdmcdijlpnbghaaGreatDoor.Lf
