/- Several texts in one: LNu, LNv. -/
import Derived.Test.YtnkahfikkpmcbaaDoorQB25
import Derived.Lib.Walk
import Derived.WalkKit
import Derived.BigCall
import Derived.BigGuard
namespace Go.Proofs.YtnkahfikkpmcbaaDoor.Lf

section
open Go Go.Dt Go.Proofs Go.Shelf Go.RowKit
set_option linter.unusedVariables false
set_option linter.unusedSimpArgs false

/-- What the two variables of strconv hold: interfaces. -/
def Errs (w : World) : Prop := (∃ ev, w.cell? ⟨0, 0, none⟩ = some ev ∧ (ev = .nilIface ∨ ∃ te pe, ev = .iface te pe)) ∧ (∃ ev, w.cell? ⟨1, 0, none⟩ = some ev ∧ (ev = .nilIface ∨ ∃ te pe, ev = .iface te pe))
theorem Errs.mono {w w' : World} (h : Errs w) (hb : Below w.heap.size w w') : Errs w' := by
  obtain ⟨⟨a, h1, h2⟩, b, h3, h4⟩ := h
  exact ⟨⟨a, (hb.cell (show (⟨0, 0, none⟩ : Addr).block < w.heap.size from Lib.lt_of_cell h1)).trans h1, h2⟩, b, (hb.cell (show (⟨1, 0, none⟩ : Addr).block < w.heap.size from Lib.lt_of_cell h3)).trans h3, h4⟩

theorem pi_ok {s : ByteArray} {v : Int} (hs : s.size ≤ 1000) (hp : Lib.parseIntB 64 s.data.toList = .ok v) (w : World) :
    Calls Tryd.prog 15 #[.string s, .int .i64 10, .int .i64 64] w fun e w' => e = .returned (.tuple #[.int .i64 v, .nilIface]) ∧ Below w.heap.size w w' :=
  (Any.strconv_ParseInt_10_at64_ok laysPI s (by omega) v hp w).mono fun e w' ⟨he, hw⟩ => ⟨he, by
    rcases hw with rfl | ⟨t, rfl⟩
    · exact Below.refl _ _
    · exact Lib.bytesWorld_below _ _ _⟩
theorem pi_err {s : ByteArray} (hs : s.size ≤ 1000) (hp : ∀ v, Lib.parseIntB 64 s.data.toList ≠ .ok v) (w : World) (he : Errs w) :
    Calls Tryd.prog 15 #[.string s, .int .i64 10, .int .i64 64] w fun e w' => ∃ x N, e = .returned (.tuple #[.int .i64 x, .iface 61 (.pointer (some ⟨N, 0, none⟩))]) ∧ Below w.heap.size w w' := by
  obtain ⟨⟨a, h1, h2⟩, b, h3, h4⟩ := he
  cases h : Lib.parseIntB 64 s.data.toList with
  | ok v => exact absurd h (hp v)
  | range => exact (Any.strconv_ParseInt_10_at64_range laysPI s (by omega) h b w h3 h4).mono fun e w' ⟨N, he, _, _, hb⟩ => ⟨_, N, he, hb⟩
  | _ => exact (Any.strconv_ParseInt_10_at64_syntax laysPI s (by omega) h a w h1 h2).mono fun e w' ⟨N, he, _, _, hb⟩ => ⟨_, N, he, hb⟩
theorem dec_calls {v : Int} (h1 : -9223372036854775808 ≤ v) (h2 : v ≤ 9223372036854775807) (w : World) :
    Calls Tryd.prog 7 #[.int .i64 v] w fun e w' => e = .returned (.string (sD v)) ∧ Below w.heap.size w w' :=
  Con.calls (cnum_Dec 200 v _ (Dec_eq h1 h2 (Nat.le_refl _))) rfl #[.int .i64 v] w rfl (fun i => by
    rcases i with _ | i
    · exact RV.int _ _
    · exact RV.any _)

set_option maxHeartbeats 4000000 in
set_option maxRecDepth 100000 in
theorem undec_err {s : ByteArray} (hs : s.size ≤ 1000) (hp : ∀ v, Lib.parseIntB 64 s.data.toList ≠ .ok v) (w : World) (he : Errs w) :
    Calls Tryd.prog 6 #[.string s] w fun e w' => e = .returned (.tuple #[.int .i64 0, .int .i64 6]) ∧ Below w.heap.size w w' := by
  have hI := pi_err hs hp w he
  go_enter Tryd.func6, Tryd.ntmps6
  go_wp2_with (go_at_call 15; refine hI.mono ?_; rintro e W1 ⟨x, N, rfl, hb⟩)
  go_ret2
  exact ⟨rfl, hb⟩
set_option maxHeartbeats 4000000 in
set_option maxRecDepth 100000 in
theorem undec_same {s : ByteArray} {v : Int} (hs : s.size ≤ 1000) (hp : Lib.parseIntB 64 s.data.toList = .ok v) (hq : ((sD v).toList == s.toList) = true) (w : World) :
    Calls Tryd.prog 6 #[.string s] w fun e w' => e = .returned (.tuple #[.int .i64 v, .int .i64 0]) ∧ Below w.heap.size w w' := by
  have hI := pi_ok hs hp w
  have hv := Lib.parseIntB_bounds hp
  have hD := fun W => dec_calls (v := v) (by omega) (by omega) W
  go_enter Tryd.func6, Tryd.ntmps6
  go_wp2_with (first
    | (go_at_call 15; refine hI.mono ?_; rintro e W1 ⟨rfl, hb⟩)
    | (go_at_call 7; refine (hD _).mono ?_; rintro e W2 ⟨rfl, hb2⟩))
  all_goals first
    | (exfalso; simp_all; done)
    | (go_ret2; exact ⟨rfl, hb.trans (hb2.mono hb.size)⟩)
set_option maxHeartbeats 4000000 in
set_option maxRecDepth 100000 in
theorem undec_other {s : ByteArray} {v : Int} (hs : s.size ≤ 1000) (hp : Lib.parseIntB 64 s.data.toList = .ok v) (hq : ((sD v).toList == s.toList) = false) (w : World) :
    Calls Tryd.prog 6 #[.string s] w fun e w' => e = .returned (.tuple #[.int .i64 0, .int .i64 6]) ∧ Below w.heap.size w w' := by
  have hI := pi_ok hs hp w
  have hv := Lib.parseIntB_bounds hp
  have hD := fun W => dec_calls (v := v) (by omega) (by omega) W
  go_enter Tryd.func6, Tryd.ntmps6
  go_wp2_with (first
    | (go_at_call 15; refine hI.mono ?_; rintro e W1 ⟨rfl, hb⟩)
    | (go_at_call 7; refine (hD _).mono ?_; rintro e W2 ⟨rfl, hb2⟩))
  all_goals first
    | (exfalso; simp_all; done)
    | (go_ret2; exact ⟨rfl, hb.trans (hb2.mono hb.size)⟩)
theorem undec_calls {s : ByteArray} (hs : s.size ≤ 1000) (w : World) (he : Errs w) :
    Calls Tryd.prog 6 #[.string s] w fun e w' => e = .returned (.tuple #[.int .i64 (U s).1, .int .i64 (U s).2]) ∧ Below w.heap.size w w' := by
  unfold U
  cases h : Lib.parseIntB 64 s.data.toList with
  | ok v =>
    rcases Decidable.em (sD v = s) with g | g
    · simp only [if_pos g]
      exact undec_same hs h (by rw [g]; exact beq_self_eq_true _) w
    · simp only [if_neg g]
      refine undec_other hs h (by
        rw [beq_eq_false_iff_ne]
        intro e
        rw [ByteArray.toList_eq, ByteArray.toList_eq] at e
        exact g (ByteArray.ext (Array.toList_inj.1 e))) w
  | range => exact undec_err hs (fun v e => by rw [h] at e; cases e) w he
  | _ => exact undec_err hs (fun v e => by rw [h] at e; cases e) w he

end

section
open Go Go.Dt Go.Proofs Go.Shelf Go.RowKit
set_option linter.unusedVariables false
set_option linter.unusedSimpArgs false

theorem from_ {P : Program} {f : FuncId} {a : Array Value} {r : Value} {w : World} (h : ∀ W, Calls P f a W fun e W' => e = .returned r ∧ Below W.heap.size W W') :
    ∀ W, Below w.heap.size w W → Calls P f a W fun e W' => e = .returned r ∧ Below w.heap.size w W' :=
  fun W hb => (h W).mono fun e W' ⟨he, hb2⟩ => ⟨he, hb.trans (hb2.mono hb.size)⟩
theorem con_none {P : Program} {f : FuncId} {r : Value} (h : Con P f [] r) (hr : plain r = true) : ∀ W, Calls P f #[] W fun e W' => e = .returned r ∧ Below W.heap.size W W' :=
  fun W => Con.calls h hr #[] W rfl (fun i => RV.any _)
theorem con_int {P : Program} {f : FuncId} {n : Int} {r : Value} (h : Con P f [.int .i64 n] r) (hr : plain r = true) : ∀ W, Calls P f #[.int .i64 n] W fun e W' => e = .returned r ∧ Below W.heap.size W W' :=
  fun W => Con.calls h hr #[.int .i64 n] W rfl (fun i => by
    rcases i with _ | i
    · exact RV.int _ _
    · exact RV.any _)
theorem con_str {P : Program} {f : FuncId} {s : ByteArray} {r : Value} (h : Con P f [.string s] r) (hr : plain r = true) : ∀ W, Calls P f #[.string s] W fun e W' => e = .returned r ∧ Below W.heap.size W W' :=
  fun W => Con.calls h hr #[.string s] W rfl (fun i => by
    rcases i with _ | i
    · exact RV.string _
    · exact RV.any _)
theorem sD_size (v : Int) : (sD v).size ≤ 21 := by rw [sD_cs, strU_size]; exact cs_len v

set_option maxHeartbeats 4000000 in
set_option maxRecDepth 100000 in
theorem decs_long {n : Int} {s : ByteArray} (w : World) (hs : s.size > 100) : Calls Tryd.prog 3 #[.int .i64 n, .string s] w fun e w' => e = .returned (.bool true) ∧ Below w.heap.size w w' := by
  have b0 := Below.refl w.heap.size w
  have hA := from_ (w := w) (con_none (cL03_awake 200 _ (awake03_ok 200 (by omega))) rfl)
  have hs' : (s.size : Int) > 100 := by omega
  go_enter Tryd.func3, Tryd.ntmps3
  go_wp2_with (go_at_call 5; refine (hA _ (by assumption)).mono ?_; rintro e W1 ⟨rfl, hb⟩)
  all_goals first
    | (exfalso; simp_all; done)
    | (go_ret; exact ⟨rfl, by assumption⟩)

section
variable {n : Int} {s : ByteArray} (n1 : -9223372036854775808 ≤ n) (n2 : n ≤ 9223372036854775807) (w : World) (he : Errs w)
include n1 n2 he

set_option maxHeartbeats 4000000 in
set_option maxRecDepth 100000 in
theorem decs_short (hs : s.size ≤ 100) {y : Int} {is : Bool} (hy : FR03_Undec 200 s = some (y, is)) {x f : Int} (hU : U s = (x, f)) (hx : is = true → x = y ∧ f = 0) (hf : is = false → x = 0 ∧ f = 6) :
    Calls Tryd.prog 3 #[.int .i64 n, .string s] w fun e w' => e = .returned (.bool true) ∧ Below w.heap.size w w' := by
  have b0 := Below.refl w.heap.size w
  have hA := from_ (w := w) (con_none (cL03_awake 200 _ (awake03_ok 200 (by omega))) rfl)
  have hD := from_ (w := w) (dec_calls n1 n2)
  have hR := from_ (w := w) (con_int (cR03_Dec 200 n _ (R03_Dec_eq n1 n2 (by omega))) rfl)
  have hR2 := from_ (w := w) (con_str (cR03_Undec 200 s _ hy) rfl)
  have hu : ∀ t : ByteArray, t.size ≤ 100 → ∀ W, Below w.heap.size w W → Calls Tryd.prog 6 #[.string t] W fun e W' => e = .returned (.tuple #[.int .i64 (U t).1, .int .i64 (U t).2]) ∧ Below w.heap.size w W' := fun t ht W hb =>
    (undec_calls (by omega) W (he.mono hb)).mono fun e W' ⟨he, hb2⟩ => ⟨he, hb.trans (hb2.mono hb.size)⟩
  have hs' : ¬ (s.size : Int) > 100 := by omega
  have hn := sD_size n
  have h1 : (U (sD n)).1 = n := by rw [U_sD n1 n2]
  have h2 : (U (sD n)).2 = 0 := by rw [U_sD n1 n2]
  have h3 : (U s).1 = x := by rw [hU]
  have h4 : (U s).2 = f := by rw [hU]
  have hq : ((sD n).toList == (sD n).toList) = true := beq_self_eq_true _
  cases is with
  | true =>
    obtain ⟨rfl, rfl⟩ := hx rfl
    clear hx hf hU hy
    go_enter Tryd.func3, Tryd.ntmps3
    go_wp2_with (first
      | (go_at_call 5; refine (hA _ (by assumption)).mono ?_; rintro e W1 ⟨rfl, hb⟩)
      | (go_at_call 7; refine (hD _ (by assumption)).mono ?_; rintro e W2 ⟨rfl, hb2⟩)
      | (go_at_call 8; refine (hR2 _ (by assumption)).mono ?_; rintro e W3 ⟨rfl, hb3⟩)
      | (go_at_call 9; refine (hR _ (by assumption)).mono ?_; rintro e W4 ⟨rfl, hb4⟩)
      | (go_at_call 6; refine (hu _ (by omega) _ (by assumption)).mono ?_; rintro e W5 ⟨rfl, hb5⟩; simp only [h1, h2, h3, h4]))
    all_goals first
      | (exfalso; simp_all; done)
      | (go_ret; exact ⟨rfl, by assumption⟩)
  | false =>
    obtain ⟨rfl, rfl⟩ := hf rfl
    clear hx hf hU hy
    go_enter Tryd.func3, Tryd.ntmps3
    go_wp2_with (first
      | (go_at_call 5; refine (hA _ (by assumption)).mono ?_; rintro e W1 ⟨rfl, hb⟩)
      | (go_at_call 7; refine (hD _ (by assumption)).mono ?_; rintro e W2 ⟨rfl, hb2⟩)
      | (go_at_call 8; refine (hR2 _ (by assumption)).mono ?_; rintro e W3 ⟨rfl, hb3⟩)
      | (go_at_call 9; refine (hR _ (by assumption)).mono ?_; rintro e W4 ⟨rfl, hb4⟩)
      | (go_at_call 6; refine (hu _ (by omega) _ (by assumption)).mono ?_; rintro e W5 ⟨rfl, hb5⟩; simp only [h1, h2, h3, h4]))
    all_goals first
      | (exfalso; simp_all; done)
      | (go_ret; exact ⟨rfl, by assumption⟩)
theorem numDecs_calls : Calls Tryd.prog 3 #[.int .i64 n, .string s] w fun e w' => e = .returned (.bool true) ∧ Below w.heap.size w w' := by
  rcases Decidable.em (s.size > 100) with hs | hs
  · exact decs_long w hs
  · obtain ⟨⟨y, is⟩, hy, hU⟩ := Undec_U (s := s) (by omega) (Nat.le_refl 200)
    refine decs_short n1 n2 w he (by omega) hy (x := (hexR (y, is)).1) (f := (hexR (y, is)).2) hU (fun h => ?_) (fun h => ?_)
    · subst h; exact ⟨rfl, rfl⟩
    · subst h; exact ⟨rfl, rfl⟩
end

end

end Go.Proofs.YtnkahfikkpmcbaaDoor.Lf
