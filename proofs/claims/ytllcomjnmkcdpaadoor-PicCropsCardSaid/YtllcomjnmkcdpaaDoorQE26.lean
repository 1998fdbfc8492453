/- Several texts in one: Pe, Pf, Pg. -/
import Derived.Test.YtllcomjnmkcdpaaDoorQE25
import Derived.Test.YtllcomjnmkcdpaaDoorQE21
import Derived.Deep.RegionWith
namespace Go.Proofs.YtllcomjnmkcdpaaDoor.Lf

section
open Go Go.Dt Go.Proofs Go.Shelf Go.RowKit
set_option linter.unusedVariables false
set_option linter.unusedSimpArgs false

def dS (n : Int) : ByteArray := if n = 0 then ⟨#[48]⟩ else if n = 1 then ⟨#[49]⟩ else ⟨#[50]⟩
theorem dec_calls (n : Int) (hn : n = 0 ∨ n = 1 ∨ n = 2) (W : World) : Calls Tryd.prog 27 #[.int .i64 n] W fun e W' => e = .returned (.string (dS n)) ∧ Below W.heap.size W W' := by
  have arg : ∀ i, RV (fm W) (([.int .i64 n] : List Value).getD i undef) ((#[.int .i64 n] : Array Value).getD i undef) := fun i => by
    rcases i with _ | i
    · exact RV.int _ _
    · exact RV.any _
  rcases hn with rfl | rfl | rfl
  · exact Con.calls dec0 rfl #[.int .i64 0] W rfl arg
  · exact Con.calls dec1 rfl #[.int .i64 1] W rfl arg
  · exact Con.calls dec2 rfl #[.int .i64 2] W rfl arg
theorem right_nil (W : World) : Calls Tryd.prog 11 #[.agg #[.int .i64 0, .int .i64 1, .slice none 0 0]] W fun e W' => e = .returned (.bool true) ∧ Below W.heap.size W W' :=
  Con.calls (cpic_Right 100 ⟨0, 1, []⟩ true (by kernel_rfl)) rfl #[.agg #[.int .i64 0, .int .i64 1, .slice none 0 0]] W rfl (fun i => by
    rcases i with _ | i
    · refine RV.agg rfl (fun i => ?_)
      rcases i with _ | _ | _ | i
      · exact RV.int _ _
      · exact RV.int _ _
      · exact RV.frzN
      · exact RV.any _
    · exact RV.any _)

theorem cell_at {W : World} {b i : Nat} {cs : Array Value} {t : TypeId} {fz : Nat × Nat} {v : Value} (h : W.heap[b]? = some (.cells cs t fz)) (hi : cs[i]? = some v) : W.cell? ⟨b, i, none⟩ = some v := by
  simp only [World.cell?, h]
  exact hi
theorem fresh_at {W : World} {b : Nat} (h : W.heap[b]? = some (.cells #[.pointer none, .slice none 0 0] 65 (0, 0))) : Lib.IsBuilder 65 5 b b (Lib.byteCells []) W :=
  Or.inl ⟨Nat.le_refl _, .slice none 0 0, h, World.ownsRow_nil _ _ _ _, by simp [Value.ownBlock]⟩
def T0 : Nat → List UInt8
  | 0 => [48, 32, 49, 10]
  | _ => [48, 32, 49, 10, 10]
/-- What a later world is known to hold: the image's box, a fresh builder. -/
structure Hd (p b : Nat) (vw vh vl : Value) (W : World) : Prop where
  c0 : W.cell? ⟨p, 0, none⟩ = some vw
  c1 : W.cell? ⟨p, 1, none⟩ = some vh
  c2 : W.cell? ⟨p, 2, none⟩ = some vl
  hb : W.heap[b]? = some (.cells #[.pointer none, .slice none 0 0] 65 (0, 0))
  hpb : p < b
theorem Hd.below {p b : Nat} {vw vh vl : Value} {W W' : World} (h : Hd p b vw vh vl W) (k : Below W.heap.size W W') : Hd p b vw vh vl W' := by
  have hlt : b < W.heap.size := (Array.getElem?_eq_some_iff.1 h.hb).1
  have hpb := h.hpb
  exact ⟨(k.cell (show (⟨p, 0, none⟩ : Addr).block < _ by show p < _; omega)).trans h.c0, (k.cell (show (⟨p, 1, none⟩ : Addr).block < _ by show p < _; omega)).trans h.c1,
    (k.cell (show (⟨p, 2, none⟩ : Addr).block < _ by show p < _; omega)).trans h.c2, (k.block b hlt).trans h.hb, hpb⟩
theorem Hd.drew {p b : Nat} {vw vh vl : Value} {W : World} (h : Hd p b vw vh vl W) : Hd p b vw vh vl W.drew := ⟨h.c0, h.c1, h.c2, h.hb, h.hpb⟩
theorem dec_from {p b : Nat} {vw vh vl : Value} {W0 : World} (n : Int) (hn : n = 0 ∨ n = 1 ∨ n = 2) (W : World) (h : Hd p b vw vh vl W) (k : Below b W0 W) :
    Calls Tryd.prog 27 #[.int .i64 n] W fun e W' => e = .returned (.string (dS n)) ∧ Hd p b vw vh vl W' ∧ Below b W0 W' :=
  (dec_calls n hn W).mono fun e W' ⟨he, hb⟩ => ⟨he, h.below hb, k.trans (hb.mono (Nat.le_of_lt (Array.getElem?_eq_some_iff.1 h.hb).1))⟩

set_option maxHeartbeats 8000000 in
set_option maxRecDepth 100000 in
theorem text_nil (w : World) : Calls Tryd.prog 10 #[.agg #[.int .i64 0, .int .i64 1, .slice none 0 0]] w fun e w' => e = .returned (.tuple #[.string ⟨#[48, 32, 49, 10, 10]⟩, .int .i64 0]) ∧ Below w.heap.size w w' := by
  have hR := right_nil
  go_enter Tryd.func10, Tryd.ntmps10
  go_wp2_with (go_at_call 11; refine (hR _).mono ?_; rintro e W1 ⟨rfl, hb⟩)
  have hsz : w.heap.size < W1.heap.size := by
    have := hb.size
    rw [World.size_alloc] at this
    omega
  have hd : Hd w.heap.size W1.heap.size (.int .i64 0) (.int .i64 1) (.slice none 0 0) (W1.alloc (.cells #[.pointer none, .slice none 0 0] 65)) := by
    have hp : ∀ i, (⟨w.heap.size, i, none⟩ : Addr).block < (w.alloc (.cells #[.int .i64 0, .int .i64 1, .slice none 0 0] 24)).heap.size := fun i => by rw [World.size_alloc]; exact Nat.lt_succ_self _
    have hp1 : ∀ i, (⟨w.heap.size, i, none⟩ : Addr).block < W1.heap.size := fun i => hsz
    have hq := (Below.refl W1.heap.size W1).alloc (Nat.le_refl _) (.cells #[.pointer none, .slice none 0 0] 65)
    have hn := heap_alloc_new w (.cells #[.int .i64 0, .int .i64 1, .slice none 0 0] 24)
    refine ⟨(hq.cell (hp1 0)).trans ((hb.cell (hp 0)).trans ?_), (hq.cell (hp1 1)).trans ((hb.cell (hp 1)).trans ?_), (hq.cell (hp1 2)).trans ((hb.cell (hp 2)).trans ?_), heap_alloc_new _ _, hsz⟩ <;> exact cell_at hn rfl
  have hB : Below W1.heap.size W1 (W1.alloc (.cells #[.pointer none, .slice none 0 0] 65)) := (Below.refl _ _).alloc (Nat.le_refl _) _
  have hw1 : Below w.heap.size w W1 := ((Below.refl _ _).alloc (Nat.le_refl _) _).trans (hb.mono (by rw [World.size_alloc]; omega))
  generalize hWW : W1.alloc (.cells #[.pointer none, .slice none 0 0] 65) = W2 at hd hB ⊢
  generalize hbb : W1.heap.size = b at hd hB hsz ⊢
  generalize hpp : w.heap.size = p at hd ⊢
  have g0 := hd.c0
  have g1 := hd.c1
  have hDec := fun (n : Int) (hn : n = 0 ∨ n = 1 ∨ n = 2) (W : World) (h : Hd p b (.int .i64 0) (.int .i64 1) (.slice none 0 0) W) (k : Below b W1 W) => dec_from n hn W h k
  have hWs := fun (s : ByteArray) (hs : s.size ≤ 1000) (W : World) (h : Hd p b (.int .i64 0) (.int .i64 1) (.slice none 0 0) W) => writeString b b [] s W (fresh_at h.hb) (by simp; omega) (Nat.le_of_lt (Array.getElem?_eq_some_iff.1 h.hb).1)
  go_region_with (first
    | (go_at_call 27; refine (hDec _ ?_ _ ?_ ?_).mono ?_; (first | exact Or.inl rfl | exact Or.inr (Or.inl rfl) | exact Or.inr (Or.inr rfl)); (first | assumption | (apply Hd.drew; assumption)); (first | assumption | (apply Below.drew; assumption)); rintro e W3 ⟨rfl, hd3, hB3⟩; have g3 := hd3.c0; have g4 := hd3.c1)
    | (go_at_call 26; refine (hWs _ ?_ _ ?_).mono ?_; decide; assumption; rintro e W5 ⟨rfl, hI, hB5⟩))
  all_goals clear hR hb hWW hpp hDec hWs
  all_goals
    have e0 : ([] : List UInt8) ++ (dS 0 ++ { data := #[32] } ++ dS 1 ++ { data := #[10] }).data.toList = T0 0 := by decide
    rw [e0] at hI
    have hpb := hd.hpb
    have k0 : W1.cell? ⟨p, 0, none⟩ = some (.int .i64 0) := (hB.cell (show (⟨p, 0, none⟩ : Addr).block < b from hpb)).symm.trans g0
    have k1 : W1.cell? ⟨p, 1, none⟩ = some (.int .i64 1) := (hB.cell (show (⟨p, 1, none⟩ : Addr).block < b from hpb)).symm.trans g1
    have hb5 : Below b W1 W5 := hB3.trans hB5
    have j1 := (hb5.cell (show (⟨p, 1, none⟩ : Addr).block < b from hpb)).trans k1
    clear hd g0 g1 hd3 g3 g4 hB3 hB5
    go_wp2
    go_loopw [24] (fun y wr => ∃ k : Nat, k ≤ 1 ∧ y = .int .i64 k ∧ Lib.IsBuilder 65 5 b b (Lib.byteCells (T0 k)) wr ∧ Below b W1 wr) (fun y _ => 1 - (intOf y).toNat)
    case atStart => exact ⟨0, by omega, rfl, hI, hb5⟩
    case round =>
      obtain ⟨k, hk, rfl, hI1, hb1⟩ := hrel
      have i0 := (hb1.cell (show (⟨p, 0, none⟩ : Addr).block < b from hpb)).trans k0
      rcases Nat.lt_or_ge k 1 with hk1 | hk1
      · obtain rfl : k = 0 := by omega
        go_wp2
        obtain ⟨wo, hwo⟩ : ∃ wo : World, wo = wr := ⟨_, rfl⟩
        go_loopw [29] (fun x wr => x = .int .i64 0 ∧ Lib.IsBuilder 65 5 b b (Lib.byteCells (T0 0)) wr ∧ Below b W1 wr) (fun _ _ => 0)
        case atStart => exact ⟨rfl, hI1, hb1⟩
        case round =>
          obtain ⟨rfl, hI2, hb2⟩ := hrel
          have hW := writeByte b b (T0 0) 10 (by decide) _ hI2 (by decide) (by
            have := hb2.size
            omega)
          go_wp2_with (go_at_call 28; refine hW.mono ?_; rintro e W6 ⟨rfl, hI3, hb3⟩)
          go_roundw
          case rel => exact ⟨1, by omega, rfl, hI3, hb2.trans hb3⟩
          case measure => simp [intOf]
      · obtain rfl : k = 1 := by omega
        have hS := string_ b b (T0 1) _ hI1 (by decide)
        go_wp2_with (go_at_call 30; refine hS.mono ?_; rintro e W6 ⟨rfl, hb6⟩)
        go_ret2
        exact ⟨rfl, hw1.trans ((hb1.trans hb6).mono (by omega))⟩

end

section
open Go Go.Dt Go.Proofs Go.Shelf Go.RowKit
set_option linter.unusedVariables false
set_option linter.unusedSimpArgs false

def hS (n : Int) : ByteArray := if n = 1 then ⟨#[48, 48, 48, 48, 48, 48, 48, 49]⟩ else ⟨#[48, 48, 48, 48, 48, 48, 102, 102]⟩
theorem hex_calls (n : Int) (hn : n = 1 ∨ n = 255) (W : World) : Calls Tryd.prog 29 #[.int .i64 n, .int .i64 8] W fun e W' => e = .returned (.tuple #[.string (hS n), .int .i64 0]) ∧ Below W.heap.size W W' := by
  have arg : ∀ i, RV (fm W) (([.int .i64 n, .int .i64 8] : List Value).getD i undef) ((#[.int .i64 n, .int .i64 8] : Array Value).getD i undef) := fun i => by
    rcases i with _ | _ | i
    · exact RV.int _ _
    · exact RV.int _ _
    · exact RV.any _
  rcases hn with rfl | rfl
  · exact Con.calls hex1 rfl #[.int .i64 1, .int .i64 8] W rfl arg
  · exact Con.calls hex255 rfl #[.int .i64 255, .int .i64 8] W rfl arg
theorem right_two (W : World) (r o cap : Nat) (cr : Array Value) (t : TypeId) (fz : Nat × Nat) (hr : W.heap[r]? = some (.cells cr t fz)) (h0 : cr[o]? = some (.int .i64 1)) (h1 : cr[o + 1]? = some (.int .i64 255)) (hcap : 2 ≤ cap) :
    Calls Tryd.prog 11 #[.agg #[.int .i64 2, .int .i64 1, .slice (some ⟨r, o, none⟩) 2 cap]] W fun e W' => e = .returned (.bool true) ∧ Below W.heap.size W W' :=
  Con.calls (cpic_Right 100 ⟨2, 1, [1, 255]⟩ true (by kernel_rfl)) rfl #[.agg #[.int .i64 2, .int .i64 1, .slice (some ⟨r, o, none⟩) 2 cap]] W rfl (fun i => by
    have hlt : o + 1 < cr.size := (Array.getElem?_eq_some_iff.1 h1).1
    rcases i with _ | i
    · refine RV.agg rfl (fun i => ?_)
      rcases i with _ | _ | _ | i
      · exact RV.int _ _
      · exact RV.int _ _
      · refine RV.frz (n := 2) (c := [.int .i64 1, .int .i64 255]) (cr := cr) ?_ hcap rfl (show o + 2 ≤ cr.size by omega) (fun i hi => ?_)
        · show froH W r = some cr
          unfold froH
          rw [hr]
        · rcases i with _ | _ | i
          · have e : cr.getD (o + 0) undef = .int .i64 1 := by rw [Array.getD_eq_getD_getElem?, Nat.add_zero, h0]; rfl
            rw [e]; exact RV.int _ _
          · have e : cr.getD (o + 1) undef = .int .i64 255 := by rw [Array.getD_eq_getD_getElem?, h1]; rfl
            rw [e]; exact RV.int _ _
          · exact absurd hi (by show ¬ i + 2 < 2; omega)
      · exact RV.any _
    · exact RV.any _)
theorem bld_below {B b : Nat} {bs : List Value} {W W' : World} (h : Lib.IsBuilder 65 5 B b bs W) (k : Below W.heap.size W W') : Lib.IsBuilder 65 5 B b bs W' := by
  have key : ∀ p, Lib.BuilderAt 65 5 B b p bs W → Lib.BuilderAt 65 5 B b p bs W' := fun p ⟨hB, v, hb, ⟨hl, hown⟩, hne⟩ =>
    ⟨hB, v, (k.block b (Array.getElem?_eq_some_iff.1 hb).1).trans hb, ⟨hl, hown.imp id (fun ⟨g, cap, cur, e1, e2, hg, rest⟩ => ⟨g, cap, cur, e1, e2, (k.block g (Array.getElem?_eq_some_iff.1 hg).1).trans hg, rest⟩)⟩, hne⟩
  exact h.imp (key _) (key _)
def T1 : Nat → List UInt8
  | 0 => [50, 32, 49, 10]
  | 1 => [50, 32, 49, 10, 48, 48, 48, 48, 48, 48, 48, 49]
  | 2 => [50, 32, 49, 10, 48, 48, 48, 48, 48, 48, 48, 49, 32, 48, 48, 48, 48, 48, 48, 102, 102]
  | _ => [50, 32, 49, 10, 48, 48, 48, 48, 48, 48, 48, 49, 32, 48, 48, 48, 48, 48, 48, 102, 102, 10]

set_option maxHeartbeats 8000000 in
set_option maxRecDepth 100000 in
theorem text_two (w : World) (r o cap : Nat) (cr : Array Value) (t : TypeId) (fz : Nat × Nat) (hr : w.heap[r]? = some (.cells cr t fz)) (h0 : cr[o]? = some (.int .i64 1)) (h1 : cr[o + 1]? = some (.int .i64 255)) (hcap : 2 ≤ cap) :
    Calls Tryd.prog 10 #[.agg #[.int .i64 2, .int .i64 1, .slice (some ⟨r, o, none⟩) 2 cap]] w fun e w' => e = .returned (.tuple #[.string ⟨(T1 3).toArray⟩, .int .i64 0]) ∧ Below w.heap.size w w' := by
  have hrlt : r < w.heap.size := (Array.getElem?_eq_some_iff.1 hr).1
  have hR := right_two (w.alloc (.cells #[.int .i64 2, .int .i64 1, .slice (some ⟨r, o, none⟩) 2 cap] 24)) r o cap cr t fz ((Below.heap_alloc w _ r hrlt).trans hr) h0 h1 hcap
  go_enter Tryd.func10, Tryd.ntmps10
  go_wp2_with (go_at_call 11; refine hR.mono ?_; rintro e W1 ⟨rfl, hb⟩)
  have hsz : w.heap.size < W1.heap.size := by
    have := hb.size
    rw [World.size_alloc] at this
    omega
  have hd : Hd w.heap.size W1.heap.size (.int .i64 2) (.int .i64 1) (.slice (some ⟨r, o, none⟩) 2 cap) (W1.alloc (.cells #[.pointer none, .slice none 0 0] 65)) := by
    have hp : ∀ i, (⟨w.heap.size, i, none⟩ : Addr).block < (w.alloc (.cells #[.int .i64 2, .int .i64 1, .slice (some ⟨r, o, none⟩) 2 cap] 24)).heap.size := fun i => by rw [World.size_alloc]; exact Nat.lt_succ_self _
    have hp1 : ∀ i, (⟨w.heap.size, i, none⟩ : Addr).block < W1.heap.size := fun i => hsz
    have hq := (Below.refl W1.heap.size W1).alloc (Nat.le_refl _) (.cells #[.pointer none, .slice none 0 0] 65)
    have hn := heap_alloc_new w (.cells #[.int .i64 2, .int .i64 1, .slice (some ⟨r, o, none⟩) 2 cap] 24)
    refine ⟨(hq.cell (hp1 0)).trans ((hb.cell (hp 0)).trans ?_), (hq.cell (hp1 1)).trans ((hb.cell (hp 1)).trans ?_), (hq.cell (hp1 2)).trans ((hb.cell (hp 2)).trans ?_), heap_alloc_new _ _, hsz⟩ <;> exact cell_at hn rfl
  have hB : Below W1.heap.size W1 (W1.alloc (.cells #[.pointer none, .slice none 0 0] 65)) := (Below.refl _ _).alloc (Nat.le_refl _) _
  have hw1 : Below w.heap.size w W1 := ((Below.refl _ _).alloc (Nat.le_refl _) _).trans (hb.mono (by rw [World.size_alloc]; omega))
  have m0 : W1.cell? ⟨r, o, none⟩ = some (.int .i64 1) := (hw1.cell (show (⟨r, o, none⟩ : Addr).block < _ from hrlt)).trans (cell_at hr h0)
  have m1 : W1.cell? ⟨r, o + 1, none⟩ = some (.int .i64 255) := (hw1.cell (show (⟨r, o + 1, none⟩ : Addr).block < _ from hrlt)).trans (cell_at hr h1)
  generalize hWW : W1.alloc (.cells #[.pointer none, .slice none 0 0] 65) = W2 at hd hB ⊢
  generalize hbb : W1.heap.size = b at hd hB hsz ⊢
  have hrb : r < b := by omega
  generalize hpp : w.heap.size = p at hd ⊢
  have g0 := hd.c0
  have g1 := hd.c1
  have hDec := fun (n : Int) (hn : n = 0 ∨ n = 1 ∨ n = 2) (W : World) (h : Hd p b (.int .i64 2) (.int .i64 1) (.slice (some ⟨r, o, none⟩) 2 cap) W) (k : Below b W1 W) => dec_from n hn W h k
  have hWs := fun (s : ByteArray) (hs : s.size ≤ 1000) (W : World) (h : Hd p b (.int .i64 2) (.int .i64 1) (.slice (some ⟨r, o, none⟩) 2 cap) W) => writeString b b [] s W (fresh_at h.hb) (by simp; omega) (Nat.le_of_lt (Array.getElem?_eq_some_iff.1 h.hb).1)
  go_region_with (first
    | (go_at_call 27; refine (hDec _ ?_ _ ?_ ?_).mono ?_; (first | exact Or.inl rfl | exact Or.inr (Or.inl rfl) | exact Or.inr (Or.inr rfl)); (first | assumption | (apply Hd.drew; assumption)); (first | assumption | (apply Below.drew; assumption)); rintro e W3 ⟨rfl, hd3, hB3⟩; have g3 := hd3.c0; have g4 := hd3.c1)
    | (go_at_call 26; refine (hWs _ ?_ _ ?_).mono ?_; decide; assumption; rintro e W5 ⟨rfl, hI, hB5⟩))
  all_goals clear hR hb hWW hpp hDec hWs
  all_goals
    have e0 : ([] : List UInt8) ++ (dS 2 ++ { data := #[32] } ++ dS 1 ++ { data := #[10] }).data.toList = T1 0 := by decide
    rw [e0] at hI
    have hpb := hd.hpb
    have k0 : W1.cell? ⟨p, 0, none⟩ = some (.int .i64 2) := (hB.cell (show (⟨p, 0, none⟩ : Addr).block < b from hpb)).symm.trans g0
    have k1 : W1.cell? ⟨p, 1, none⟩ = some (.int .i64 1) := (hB.cell (show (⟨p, 1, none⟩ : Addr).block < b from hpb)).symm.trans g1
    have k2 : W1.cell? ⟨p, 2, none⟩ = some (.slice (some ⟨r, o, none⟩) 2 cap) := (hB.cell (show (⟨p, 2, none⟩ : Addr).block < b from hpb)).symm.trans hd.c2
    have hb5 : Below b W1 W5 := hB3.trans hB5
    have j1 := (hb5.cell (show (⟨p, 1, none⟩ : Addr).block < b from hpb)).trans k1
    clear hd g0 g1 hd3 g3 g4 hB3 hB5
    go_wp2
    go_loopw [24] (fun y wr => ∃ k : Nat, k ≤ 1 ∧ y = .int .i64 k ∧ Lib.IsBuilder 65 5 b b (Lib.byteCells (T1 (3 * k))) wr ∧ Below b W1 wr) (fun y _ => 1 - (intOf y).toNat)
    case atStart => exact ⟨0, by omega, rfl, hI, hb5⟩
    case round =>
      obtain ⟨k, hk, rfl, hI1, hb1⟩ := hrel
      have i0 := (hb1.cell (show (⟨p, 0, none⟩ : Addr).block < b from hpb)).trans k0
      rcases Nat.lt_or_ge k 1 with hk1 | hk1
      · obtain rfl : k = 0 := by omega
        go_wp2
        obtain ⟨wo, hwo⟩ : ∃ wo : World, wo = wr := ⟨_, rfl⟩
        go_loopw [29] (fun x wr => ∃ k : Nat, k ≤ 2 ∧ x = .int .i64 k ∧ Lib.IsBuilder 65 5 b b (Lib.byteCells (T1 k)) wr ∧ Below b W1 wr) (fun x _ => 2 - (intOf x).toNat)
        case atStart => exact ⟨0, by omega, rfl, hI1, hb1⟩
        case round =>
          obtain ⟨k, hk, rfl, hI2, hb2⟩ := hrel
          have l0 := (hb2.cell (show (⟨p, 0, none⟩ : Addr).block < b from hpb)).trans k0
          have l2 := (hb2.cell (show (⟨p, 2, none⟩ : Addr).block < b from hpb)).trans k2
          have n0 := (hb2.cell (show (⟨r, o, none⟩ : Addr).block < b from hrb)).trans m0
          have n1 := (hb2.cell (show (⟨r, o + 1, none⟩ : Addr).block < b from hrb)).trans m1
          have hs2 : b ≤ wr.heap.size := by
            have := hb2.size
            rw [hbb] at this
            exact this
          rcases Nat.lt_or_ge k 2 with hk2 | hk2
          · rcases Nat.lt_or_ge k 1 with hk3 | hk3
            · obtain rfl : k = 0 := by omega
              go_wp2_with (first
                | (go_at_call 29; refine (hex_calls _ ?_ _).mono ?_; (first | exact Or.inl rfl | exact Or.inr rfl); rintro e W6 ⟨rfl, hb6⟩; have hI6 := bld_below hI2 hb6; have hs6 := Nat.le_trans hs2 hb6.size)
                | (go_at_call 26; refine (writeString b b (T1 0) _ _ (by assumption) (by decide) (by assumption)).mono ?_; rintro e W7 ⟨rfl, hI7, hb7⟩))
              have e7 : T1 0 ++ (hS 1).data.toList = T1 1 := by decide
              rw [e7] at hI7
              go_roundw
              case rel =>
                repeat apply Exists.intro
                exact ⟨⟨1, by omega, rfl, hI7, hb2.trans ((hb6.mono hs2).trans hb7)⟩, rfl⟩
              case measure => simp [intOf]
            · obtain rfl : k = 1 := by omega
              have hWB := writeByte b b (T1 1) 32 (by decide) _ hI2 (by decide) hs2
              go_wp2_with (first
                | (go_at_call 28; refine hWB.mono ?_; rintro e W8 ⟨rfl, hI8, hb8⟩; have l0 := (hb8.cell (show (⟨p, 0, none⟩ : Addr).block < b from hpb)).trans l0; have l2 := (hb8.cell (show (⟨p, 2, none⟩ : Addr).block < b from hpb)).trans l2; have n1 := (hb8.cell (show (⟨r, o + 1, none⟩ : Addr).block < b from hrb)).trans n1; have hs8 := Nat.le_trans hs2 hb8.size)
                | (go_at_call 29; refine (hex_calls _ ?_ _).mono ?_; (first | exact Or.inl rfl | exact Or.inr rfl); rintro e W6 ⟨rfl, hb6⟩; have hI6 := bld_below hI8 hb6; have hs6 := Nat.le_trans hs8 hb6.size)
                | (go_at_call 26; refine (writeString b b (T1 1 ++ [UInt8.ofNat 32]) _ _ (by assumption) (by decide) (by assumption)).mono ?_; rintro e W7 ⟨rfl, hI7, hb7⟩))
              have e7 : T1 1 ++ [UInt8.ofNat 32] ++ (hS 255).data.toList = T1 2 := by decide
              rw [e7] at hI7
              go_roundw
              case rel =>
                repeat apply Exists.intro
                exact ⟨⟨2, by omega, rfl, hI7, hb2.trans (hb8.trans ((hb6.mono hs8).trans hb7))⟩, rfl⟩
              case measure => simp [intOf]
          · obtain rfl : k = 2 := by omega
            have hW := writeByte b b (T1 2) 10 (by decide) _ hI2 (by decide) hs2
            go_wp2_with (go_at_call 28; refine hW.mono ?_; rintro e W6 ⟨rfl, hI3, hb3⟩)
            go_roundw
            case rel => exact ⟨1, by omega, rfl, hI3, hb2.trans hb3⟩
            case measure => simp [intOf]
      · obtain rfl : k = 1 := by omega
        have hS := string_ b b (T1 3) _ hI1 (by decide)
        go_wp2_with (go_at_call 30; refine hS.mono ?_; rintro e W6 ⟨rfl, hb6⟩)
        go_ret2
        exact ⟨rfl, hw1.trans ((hb1.trans hb6).mono (by omega))⟩

end

section
open Go Go.Dt Go.Proofs Go.Shelf Go.RowKit
set_option linter.unusedVariables false
set_option linter.unusedSimpArgs false

theorem sim_below {ι : Map} {C : Cont} {w w' : World} (h : Sim ι C w) (k : Below w.heap.size w w') : Sim ι C w' where
  blk := fun b => (h.blk b).keep (Le.refl _) fun hl L hL => by
    obtain ⟨L', hL', hlt⟩ := (h.blk b).loc hl
    rw [hL] at hL'; cases hL'
    exact k.block _ hlt
  sep := h.sep
  fro := fun r c hr => by
    obtain ⟨t, fz, hh⟩ := h.fro r c hr
    exact ⟨t, fz, (k.block r (Array.getElem?_eq_some_iff.1 hh).1).trans hh⟩
  apart := h.apart
theorem ext_below {ι : Map} {C : Cont} {w w' : World} (k : Below w.heap.size w w') : Ext ι C w ι C w' :=
  ⟨Le.refl _, k.size, k.os, k.tape, k.output, fun i hi _ => k.block i hi, fun _ h => .inl h, fun _ h => .inl h, fun _ _ h => .inl h⟩
/-- A contract for all worlds, of arguments that hang on none. -/
theorem FnEq.ofBelow {P : Program} {f : FuncId} {args : List Value} {v : Value} (hp : plains args = true) (hv : plain v = true)
    (h : ∀ w, Calls P f args.toArray w fun e w' => e = .returned v ∧ Below w.heap.size w w') : FnEq P f args [] v [] := fun ι args' w hsz hargs hs hd => by
  have e : args' = args.toArray := by
    apply Array.ext (by simpa using hsz)
    intro i h1 h2
    have hi : i < args.length := by simpa using h2
    have := RV.eq_of_plain (hargs i) (plains_get hp hi)
    simp [List.getD_eq_getElem?_getD, Array.getD_eq_getD_getElem?, hi, h1] at this
    simp [this]
  subst e
  exact (h w).mono fun e w' ⟨he, hb⟩ => ⟨v, ι, he, RV.refl ι v hv, sim_below hs hb, hd, ext_below hb⟩

def img2 : List Value := [.agg ⟨[.int .i64 2, .int .i64 1, .slice (some ⟨0, 0, none⟩) 2 2]⟩]
def mem2 : List Blk := [.cells [.int .i64 1, .int .i64 255] 1 true]
def out2 : Value := .tuple ⟨[.string ⟨(T1 3).toArray⟩, .int .i64 0]⟩
theorem text_two_fn : FnEq Tryd.prog 10 img2 mem2 out2 mem2 := fun ι args' w hsz hargs hs hd => by
  have ha := hargs 0
  have hx : args' = #[args'.getD 0 undef] := by
    have hsz1 : args'.size = 1 := hsz
    apply Array.ext (by simpa using hsz1)
    intro i h1 h2
    have : i = 0 := by simp at h2; omega
    subst this
    simp [h1]
  generalize args'.getD 0 undef = x at ha hx
  subst hx
  change RV ι (.agg ⟨[.int .i64 2, .int .i64 1, .slice (some ⟨0, 0, none⟩) 2 2]⟩) x at ha
  cases ha with
  | @agg _ cs' hcs h =>
    have e0 := RV.eq_of_plain (h 0) rfl
    have e1 := RV.eq_of_plain (h 1) rfl
    have h2 := h 2
    have hcs' : cs' = #[.int .i64 2, .int .i64 1, cs'.getD 2 undef] := by
      have hs3 : cs'.size = 3 := hcs.symm
      apply Array.ext (by simpa using hs3)
      intro i h1 h2
      have : i = 0 ∨ i = 1 ∨ i = 2 := by simp at h2; omega
      rcases this with rfl | rfl | rfl
      · have : cs'.getD 0 undef = .int .i64 2 := e0.symm
        simpa [h1] using this
      · have : cs'.getD 1 undef = .int .i64 1 := e1.symm
        simpa [h1] using this
      · simp [h1]
    generalize cs'.getD 2 undef = y at h2 hcs'
    subst hcs'
    change RV ι (.slice (some ⟨0, 0, none⟩) 2 2) y at h2
    cases h2 with
    | @slice _ _ _ _ cap L hL hc hr =>
      obtain ⟨L', cr, t, fz, hL', hh, hfit, _, _, hcells⟩ := hs.blk 0
      rw [hL] at hL'; cases hL'
      have c0 : cr[L.off + 0]? = some (.int .i64 1) := by
        have := RV.eq_of_plain (hcells 0 (by decide)) rfl
        have hlt : L.off + 0 < cr.size := by
          have : L.off + 2 ≤ cr.size := hfit
          omega
        rw [Array.getD_eq_getD_getElem?, Array.getElem?_eq_getElem hlt] at this
        rw [Array.getElem?_eq_getElem hlt]
        exact congrArg some this.symm
      have c1 : cr[L.off + 0 + 1]? = some (.int .i64 255) := by
        have := RV.eq_of_plain (hcells 1 (by decide)) rfl
        have hlt : L.off + 1 < cr.size := by
          have : L.off + 2 ≤ cr.size := hfit
          omega
        rw [Array.getD_eq_getD_getElem?, Array.getElem?_eq_getElem hlt] at this
        rw [Nat.add_zero, Array.getElem?_eq_getElem hlt]
        exact congrArg some this.symm
      exact (text_two w L.blk (L.off + 0) cap cr t fz hh c0 c1 hc).mono fun e w' ⟨he, hb⟩ => ⟨out2, ι, he, RV.refl ι out2 rfl, sim_below hs hb, hd, ext_below hb⟩

end

end Go.Proofs.YtllcomjnmkcdpaaDoor.Lf
