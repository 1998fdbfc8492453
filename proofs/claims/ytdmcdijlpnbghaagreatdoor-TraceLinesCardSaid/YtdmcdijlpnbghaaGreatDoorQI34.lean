/- Several texts in one: EVt, EVu, EVv. -/
import Derived.Test.YtdmcdijlpnbghaaGreatDoorQI30
import Derived.Test.YtdmcdijlpnbghaaGreatDoorQI33
import Derived.Deep.RegionWith
namespace Go.Proofs.YtdmcdijlpnbghaaGreatDoor.Lf

section
open Go Go.Dt Go.Proofs Go.Shelf Go.RowKit
set_option linter.unusedVariables false
set_option linter.unusedSimpArgs false

theorem none_ok : HkOk Tryz.prog (tabK []) := tabK_ok (fun k hk => by cases hk)
def h10 : ByteArray := ⟨#[48, 48, 48, 48, 48, 48, 48, 97]⟩
theorem hex10 : Con Tryz.prog 74 [.int .i64 10, .int .i64 8] (.tuple ⟨[.string h10, .int .i64 0]⟩) := Con.of Tryz.func74 (by kernel_rfl) rfl (FnEq.evalHk mixed (X := []) (fun f e h => by simp at h) none_ok 3000 Tryz.func74 (by kernel_rfl) rfl (by kernel_rfl))
theorem hex_calls (W : World) (hg : GloOk (froH W)) : Calls Tryz.prog 74 #[.int .i64 10, .int .i64 8] W fun e W' => e = .returned (.tuple #[.string h10, .int .i64 0]) ∧ Below W.heap.size W W' :=
  Con.calls hex10 rfl #[.int .i64 10, .int .i64 8] W rfl (fun i => by
    rcases i with _ | _ | i
    · exact RV.int _ _
    · exact RV.int _ _
    · exact RV.any _) hg
theorem cell_at {W : World} {b i : Nat} {cs : Array Value} {t : TypeId} {fz : Nat × Nat} {v : Value} (h : W.heap[b]? = some (.cells cs t fz)) (hi : cs[i]? = some v) : W.cell? ⟨b, i, none⟩ = some v := by
  simp only [World.cell?, h]
  exact hi
theorem fresh_at {W : World} {b : Nat} (h : W.heap[b]? = some (.cells #[.pointer none, .slice none 0 0] 84 (0, 0))) : Lib.IsBuilder 84 5 b b (Lib.byteCells []) W :=
  Or.inl ⟨Nat.le_refl _, .slice none 0 0, h, World.ownsRow_nil _ _ _ _, by simp [Value.ownBlock]⟩
/-- What a later world is known to hold: the image's box, a fresh builder. -/
structure Hd (p b : Nat) (vw vh vl : Value) (W : World) : Prop where
  c0 : W.cell? ⟨p, 0, none⟩ = some vw
  c1 : W.cell? ⟨p, 1, none⟩ = some vh
  c2 : W.cell? ⟨p, 2, none⟩ = some vl
  hb : W.heap[b]? = some (.cells #[.pointer none, .slice none 0 0] 84 (0, 0))
  hpb : p < b
theorem Hd.below {p b : Nat} {vw vh vl : Value} {W W' : World} (h : Hd p b vw vh vl W) (k : Below W.heap.size W W') : Hd p b vw vh vl W' := by
  have hlt : b < W.heap.size := (Array.getElem?_eq_some_iff.1 h.hb).1
  have hpb := h.hpb
  exact ⟨(k.cell (show (⟨p, 0, none⟩ : Addr).block < _ by show p < _; omega)).trans h.c0, (k.cell (show (⟨p, 1, none⟩ : Addr).block < _ by show p < _; omega)).trans h.c1,
    (k.cell (show (⟨p, 2, none⟩ : Addr).block < _ by show p < _; omega)).trans h.c2, (k.block b hlt).trans h.hb, hpb⟩
theorem Hd.drew {p b : Nat} {vw vh vl : Value} {W : World} (h : Hd p b vw vh vl W) : Hd p b vw vh vl W.drew := ⟨h.c0, h.c1, h.c2, h.hb, h.hpb⟩
theorem dec_from {p b : Nat} {vw vh vl : Value} {W0 : World} (hb0 : W0.heap.size = b) (hg : GloOk (froH W0)) (W : World) (h : Hd p b vw vh vl W) (k : Below b W0 W) :
    Calls Tryz.prog 47 #[.int .i64 1] W fun e W' => e = .returned (.string (sD 1)) ∧ Hd p b vw vh vl W' ∧ Below b W0 W' :=
  (dec_calls (v := 1) (by omega) (by omega) W (by subst hb0; exact glo_below hg k)).mono fun e W' ⟨he, hb⟩ => ⟨he, h.below hb, k.trans (hb.mono (Nat.le_of_lt (Array.getElem?_eq_some_iff.1 h.hb).1))⟩
theorem bld_below {B b : Nat} {bs : List Value} {W W' : World} (h : Lib.IsBuilder 84 5 B b bs W) (k : Below W.heap.size W W') : Lib.IsBuilder 84 5 B b bs W' := by
  have key : ∀ p, Lib.BuilderAt 84 5 B b p bs W → Lib.BuilderAt 84 5 B b p bs W' := fun p ⟨hB, v, hb, ⟨hl, hown⟩, hne⟩ =>
    ⟨hB, v, (k.block b (Array.getElem?_eq_some_iff.1 hb).1).trans hb, ⟨hl, hown.imp id (fun ⟨g, cap, cur, e1, e2, hg, rest⟩ => ⟨g, cap, cur, e1, e2, (k.block g (Array.getElem?_eq_some_iff.1 hg).1).trans hg, rest⟩)⟩, hne⟩
  exact h.imp (key _) (key _)
theorem right_one (W : World) (hg : GloOk (froH W)) (r o cap : Nat) (cr : Array Value) (t : TypeId) (fz : Nat × Nat) (hr : W.heap[r]? = some (.cells cr t fz)) (h0 : cr[o]? = some (.int .i64 10)) (hcap : 1 ≤ cap) :
    Calls Tryz.prog 53 #[.agg #[.int .i64 1, .int .i64 1, .slice (some ⟨r, o, none⟩) 1 cap]] W fun e W' => e = .returned (.bool true) ∧ Below W.heap.size W W' :=
  Con.calls (cpic_Right 100 ⟨1, 1, [10]⟩ true (by kernel_rfl)) rfl #[.agg #[.int .i64 1, .int .i64 1, .slice (some ⟨r, o, none⟩) 1 cap]] W rfl (fun i => by
    have hlt : o < cr.size := (Array.getElem?_eq_some_iff.1 h0).1
    rcases i with _ | i
    · refine RV.agg rfl (fun i => ?_)
      rcases i with _ | _ | _ | i
      · exact RV.int _ _
      · exact RV.int _ _
      · refine RV.frz (n := 1) (c := [.int .i64 10]) (cr := cr) (froH_of hr) hcap rfl (show o + 1 ≤ cr.size by omega) (fun i hi => ?_)
        rcases i with _ | i
        · have e : cr.getD (o + 0) undef = .int .i64 10 := by rw [Array.getD_eq_getD_getElem?, Nat.add_zero, h0]; rfl
          rw [e]; exact RV.int _ _
        · exact absurd hi (by show ¬ i + 1 < 1; omega)
      · exact RV.any _
    · exact RV.any _) hg
def T1 : Nat → List UInt8
  | 0 => [49, 32, 49, 10]
  | 1 => [49, 32, 49, 10, 48, 48, 48, 48, 48, 48, 48, 97]
  | _ => [49, 32, 49, 10, 48, 48, 48, 48, 48, 48, 48, 97, 10]

set_option maxHeartbeats 8000000 in
set_option maxRecDepth 100000 in
theorem text_one (w : World) (hg : GloOk (froH w)) (r o cap : Nat) (cr : Array Value) (t : TypeId) (fz : Nat × Nat) (hr : w.heap[r]? = some (.cells cr t fz)) (h0 : cr[o]? = some (.int .i64 10)) (hcap : 1 ≤ cap) :
    Calls Tryz.prog 54 #[.agg #[.int .i64 1, .int .i64 1, .slice (some ⟨r, o, none⟩) 1 cap]] w fun e w' => e = .returned (.tuple #[.string ⟨(T1 2).toArray⟩, .int .i64 0]) ∧ Below w.heap.size w w' := by
  have hrlt : r < w.heap.size := (Array.getElem?_eq_some_iff.1 hr).1
  have hR := right_one (w.alloc (.cells #[.int .i64 1, .int .i64 1, .slice (some ⟨r, o, none⟩) 1 cap] 44)) (glo_below hg ((Below.refl _ _).alloc (Nat.le_refl _) _)) r o cap cr t fz ((Below.heap_alloc w _ r hrlt).trans hr) h0 hcap
  go_enter Tryz.func54, Tryz.ntmps54
  go_wp2_with (go_at_call 53; refine hR.mono ?_; rintro e W1 ⟨rfl, hb⟩)
  have hsz : w.heap.size < W1.heap.size := by
    have := hb.size
    rw [World.size_alloc] at this
    omega
  have hd : Hd w.heap.size W1.heap.size (.int .i64 1) (.int .i64 1) (.slice (some ⟨r, o, none⟩) 1 cap) (W1.alloc (.cells #[.pointer none, .slice none 0 0] 84)) := by
    have hp : ∀ i, (⟨w.heap.size, i, none⟩ : Addr).block < (w.alloc (.cells #[.int .i64 1, .int .i64 1, .slice (some ⟨r, o, none⟩) 1 cap] 44)).heap.size := fun i => by rw [World.size_alloc]; exact Nat.lt_succ_self _
    have hp1 : ∀ i, (⟨w.heap.size, i, none⟩ : Addr).block < W1.heap.size := fun i => hsz
    have hq := (Below.refl W1.heap.size W1).alloc (Nat.le_refl _) (.cells #[.pointer none, .slice none 0 0] 84)
    have hn := heap_alloc_new w (.cells #[.int .i64 1, .int .i64 1, .slice (some ⟨r, o, none⟩) 1 cap] 44)
    refine ⟨(hq.cell (hp1 0)).trans ((hb.cell (hp 0)).trans ?_), (hq.cell (hp1 1)).trans ((hb.cell (hp 1)).trans ?_), (hq.cell (hp1 2)).trans ((hb.cell (hp 2)).trans ?_), heap_alloc_new _ _, hsz⟩ <;> exact cell_at hn rfl
  have hB : Below W1.heap.size W1 (W1.alloc (.cells #[.pointer none, .slice none 0 0] 84)) := (Below.refl _ _).alloc (Nat.le_refl _) _
  have hw1 : Below w.heap.size w W1 := ((Below.refl _ _).alloc (Nat.le_refl _) _).trans (hb.mono (by rw [World.size_alloc]; omega))
  have hg1 : GloOk (froH W1) := glo_below hg hw1
  have m0 : W1.cell? ⟨r, o, none⟩ = some (.int .i64 10) := (hw1.cell (show (⟨r, o, none⟩ : Addr).block < _ from hrlt)).trans (cell_at hr h0)
  generalize hWW : W1.alloc (.cells #[.pointer none, .slice none 0 0] 84) = W2 at hd hB ⊢
  generalize hbb : W1.heap.size = b at hd hB hsz ⊢
  have hrb : r < b := by omega
  generalize hpp : w.heap.size = p at hd ⊢
  have g0 := hd.c0
  have g1 := hd.c1
  have hDec := fun (W : World) (h : Hd p b (.int .i64 1) (.int .i64 1) (.slice (some ⟨r, o, none⟩) 1 cap) W) (k : Below b W1 W) => dec_from hbb hg1 W h k
  have hWs := fun (s : ByteArray) (hs : s.size ≤ 1000) (W : World) (h : Hd p b (.int .i64 1) (.int .i64 1) (.slice (some ⟨r, o, none⟩) 1 cap) W) => writeString b b [] s W (fresh_at h.hb) (by simp; omega) (Nat.le_of_lt (Array.getElem?_eq_some_iff.1 h.hb).1)
  go_region_with (first
    | (go_at_call 47; refine (hDec _ ?_ ?_).mono ?_; (first | assumption | (apply Hd.drew; assumption)); (first | assumption | (apply Below.drew; assumption)); rintro e W3 ⟨rfl, hd3, hB3⟩; have g3 := hd3.c0; have g4 := hd3.c1)
    | (go_at_call 37; refine (hWs _ ?_ _ ?_).mono ?_; decide; assumption; rintro e W5 ⟨rfl, hI, hB5⟩))
  all_goals clear hR hb hWW hpp hDec hWs
  all_goals
    have e0 : ([] : List UInt8) ++ (sD 1 ++ { data := #[32] } ++ sD 1 ++ { data := #[10] }).data.toList = T1 0 := by decide
    rw [e0] at hI
    have hpb := hd.hpb
    have k0 : W1.cell? ⟨p, 0, none⟩ = some (.int .i64 1) := (hB.cell (show (⟨p, 0, none⟩ : Addr).block < b from hpb)).symm.trans g0
    have k1 : W1.cell? ⟨p, 1, none⟩ = some (.int .i64 1) := (hB.cell (show (⟨p, 1, none⟩ : Addr).block < b from hpb)).symm.trans g1
    have k2 : W1.cell? ⟨p, 2, none⟩ = some (.slice (some ⟨r, o, none⟩) 1 cap) := (hB.cell (show (⟨p, 2, none⟩ : Addr).block < b from hpb)).symm.trans hd.c2
    have hb5 : Below b W1 W5 := hB3.trans hB5
    have j1 := (hb5.cell (show (⟨p, 1, none⟩ : Addr).block < b from hpb)).trans k1
    clear hd g0 g1 hd3 g3 g4 hB3 hB5
    go_wp2
    go_loopw [24] (fun y wr => ∃ k : Nat, k ≤ 1 ∧ y = .int .i64 k ∧ Lib.IsBuilder 84 5 b b (Lib.byteCells (T1 (2 * k))) wr ∧ Below b W1 wr) (fun y _ => 1 - (intOf y).toNat)
    case atStart => exact ⟨0, by omega, rfl, hI, hb5⟩
    case round =>
      obtain ⟨k, hk, rfl, hI1, hb1⟩ := hrel
      have i0 := (hb1.cell (show (⟨p, 0, none⟩ : Addr).block < b from hpb)).trans k0
      rcases Nat.lt_or_ge k 1 with hk1 | hk1
      · obtain rfl : k = 0 := by omega
        go_wp2
        obtain ⟨wo, hwo⟩ : ∃ wo : World, wo = wr := ⟨_, rfl⟩
        go_loopw [29] (fun x wr => ∃ k : Nat, k ≤ 1 ∧ x = .int .i64 k ∧ Lib.IsBuilder 84 5 b b (Lib.byteCells (T1 k)) wr ∧ Below b W1 wr) (fun x _ => 1 - (intOf x).toNat)
        case atStart => exact ⟨0, by omega, rfl, hI1, hb1⟩
        case round =>
          obtain ⟨k, hk, rfl, hI2, hb2⟩ := hrel
          have l0 := (hb2.cell (show (⟨p, 0, none⟩ : Addr).block < b from hpb)).trans k0
          have l2 := (hb2.cell (show (⟨p, 2, none⟩ : Addr).block < b from hpb)).trans k2
          have n0 := (hb2.cell (show (⟨r, o, none⟩ : Addr).block < b from hrb)).trans m0
          have hs2 : b ≤ wr.heap.size := by
            have := hb2.size
            rw [hbb] at this
            exact this
          have hgr : GloOk (froH wr) := glo_below hg1 (by rw [hbb]; exact hb2)
          rcases Nat.lt_or_ge k 1 with hk2 | hk2
          · obtain rfl : k = 0 := by omega
            have hH := hex_calls wr hgr
            go_wp2_with (first
              | (go_at_call 74; refine hH.mono ?_; rintro e W6 ⟨rfl, hb6⟩; have hI6 := bld_below hI2 hb6; have hs6 := Nat.le_trans hs2 hb6.size)
              | (go_at_call 37; refine (writeString b b (T1 0) _ _ (by assumption) (by decide) (by assumption)).mono ?_; rintro e W7 ⟨rfl, hI7, hb7⟩))
            have e7 : T1 0 ++ h10.data.toList = T1 1 := by decide
            rw [e7] at hI7
            go_roundw
            case rel =>
              repeat apply Exists.intro
              exact ⟨⟨1, by omega, rfl, hI7, hb2.trans ((hb6.mono hs2).trans hb7)⟩, rfl⟩
            case measure => simp [intOf]
          · obtain rfl : k = 1 := by omega
            have hW := writeByte b b (T1 1) 10 (by decide) _ hI2 (by decide) hs2
            go_wp2_with (go_at_call 73; refine hW.mono ?_; rintro e W6 ⟨rfl, hI3, hb3⟩)
            go_roundw
            case rel => exact ⟨1, by omega, rfl, hI3, hb2.trans hb3⟩
            case measure => simp [intOf]
      · obtain rfl : k = 1 := by omega
        have hS := string_ b b (T1 2) _ hI1 (by decide)
        go_wp2_with (go_at_call 38; refine hS.mono ?_; rintro e W6 ⟨rfl, hb6⟩)
        go_ret2
        exact ⟨rfl, hw1.trans ((hb1.trans hb6).mono (by omega))⟩

end

section
open Go Go.Dt Go.Proofs Go.Shelf Go.RowKit
set_option linter.unusedVariables false
set_option linter.unusedSimpArgs false

def img1 : List Value := [.agg ⟨[.int .i64 1, .int .i64 1, .slice (some ⟨0, 0, none⟩) 1 1]⟩]
def mem1 : List Blk := [.cells [.int .i64 10] 1 true]
def out1 : Value := .tuple ⟨[.string ⟨(T1 2).toArray⟩, .int .i64 0]⟩
theorem text_one_fn : FnEq Tryz.prog 54 img1 mem1 out1 mem1 := fun ι args' w hsz hargs hs hd => by
  have ha := hargs 0
  have hx : args' = #[args'.getD 0 undef] := by
    have hsz1 : args'.size = 1 := hsz
    apply Array.ext (by simpa using hsz1)
    intro i h1 h2
    have : i = 0 := by simp at h2; omega
    subst this
    simp [h1]
  generalize args'.getD 0 undef = x at ha hx
  subst hx
  change RV ι (.agg ⟨[.int .i64 1, .int .i64 1, .slice (some ⟨0, 0, none⟩) 1 1]⟩) x at ha
  cases ha with
  | @agg _ cs' hcs h =>
    have e0 := RV.eq_of_plain (h 0) rfl
    have e1 := RV.eq_of_plain (h 1) rfl
    have h2 := h 2
    have hcs' : cs' = #[.int .i64 1, .int .i64 1, cs'.getD 2 undef] := by
      have hs3 : cs'.size = 3 := hcs.symm
      apply Array.ext (by simpa using hs3)
      intro i h1 h2
      have : i = 0 ∨ i = 1 ∨ i = 2 := by simp at h2; omega
      rcases this with rfl | rfl | rfl
      · have : cs'.getD 0 undef = .int .i64 1 := e0.symm
        simpa [h1] using this
      · have : cs'.getD 1 undef = .int .i64 1 := e1.symm
        simpa [h1] using this
      · simp [h1]
    generalize cs'.getD 2 undef = y at h2 hcs'
    subst hcs'
    change RV ι (.slice (some ⟨0, 0, none⟩) 1 1) y at h2
    cases h2 with
    | @slice _ _ _ _ cap L hL hc hr =>
      obtain ⟨L', cr, t, fz, hL', hh, hfit, _, _, hcells⟩ := hs.blk 0
      rw [hL] at hL'; cases hL'
      have c0 : cr[L.off + 0]? = some (.int .i64 10) := by
        have := RV.eq_of_plain (hcells 0 (by decide)) rfl
        have hlt : L.off + 0 < cr.size := by
          have : L.off + 1 ≤ cr.size := hfit
          omega
        rw [Array.getD_eq_getD_getElem?, Array.getElem?_eq_getElem hlt] at this
        rw [Array.getElem?_eq_getElem hlt]
        exact congrArg some this.symm
      exact (text_one w (sim_glo hs) L.blk (L.off + 0) cap cr t fz hh c0 hc).mono fun e w' ⟨he, hb⟩ => ⟨out1, ι, he, RV.refl ι out1 rfl, sim_below hs hb, hd, ext_below hb⟩
/-- strconv.ParseInt at digits. -/
theorem parse_digits {v : Int} (h1 : -9223372036854775808 ≤ v) (h2 : v ≤ 9223372036854775807) : FnEq Tryz.prog 46 [.string (sD v), .int .i64 10, .int .i64 64] [] (.tuple ⟨[.int .i64 v, .nilIface]⟩) [] :=
  FnEq.ofBelowG rfl rfl fun w _ => pi_ok (by have := (sD_len v).2; omega) (parse_sD h1 h2) w
theorem line_fn (s : ByteArray) (hs : s.size ≤ 100000) (hp : Plain s) : FnEq Tryz.prog 43 [.string s] [] (.bool true) [] :=
  FnEq.ofBelowG rfl rfl fun w hg => by
    have := line_calls s hs w (tabs_of hg)
    rw [lineB_plain hp] at this
    exact this
def X : Exts := [(96, Go.Extern.BytealgIndexByte.indexByte), (100, Go.Extern.BytealgCount.count)]
theorem X_ok : ExtOk Tryz.prog X := fun f e h => by
  simp only [X, List.mem_cons, Prod.mk.injEq, List.not_mem_nil, or_false] at h
  rcases h with ⟨rfl, rfl⟩ | ⟨rfl, rfl⟩ <;> kernel_rfl
def a1 : ByteArray := ⟨#[101, 110, 100, 32, 52]⟩
def a2 : ByteArray := ⟨#[101, 114, 114, 32, 49, 32, 55]⟩
def a3 : ByteArray := ⟨#[105, 109, 97, 103, 101, 32, 50]⟩
def a4 : ByteArray := ⟨#[49, 32, 49]⟩
def a5 : ByteArray := ⟨#[48, 48, 48, 48, 48, 48, 48, 97]⟩
def pK (d : UInt8) (v : Int) : Known := ⟨46, [.string ⟨#[d]⟩, .int .i64 10, .int .i64 64], [], .tuple ⟨[.int .i64 v, .nilIface]⟩, []⟩
def lK (s : ByteArray) : Known := ⟨43, [.string s], [], .bool true, []⟩
def e1 : TEvent := ⟨1, 2, 0, 3⟩
def e2 : TEvent := ⟨4, 5, 0, 0⟩
def evV (e : TEvent) : Value := .agg ⟨[.int .i64 e.Who, .int .i64 e.Kind, .int .i64 e.A, .int .i64 e.B]⟩
def s1 : ByteArray := ⟨#[100, 114, 97, 119, 32, 49, 32, 48, 32, 51]⟩
def tab : List Known := [⟨9, [evV e1], [], .tuple ⟨[.string s1, .int .i64 0]⟩, []⟩, ⟨7, [.string a1], [], .tuple ⟨[evV e2, .int .i64 0]⟩, []⟩, lK a1, lK a2, lK a3, lK a4, lK a5, pK 49 1, pK 50 2, pK 52 4, pK 55 7, ⟨54, img1, mem1, out1, mem1⟩]
theorem plain_of {s : ByteArray} (h : (s.data.toList.all fun b => Nat.ble 32 b.toNat && Nat.blt b.toNat 127) = true) : Plain s := plain_list fun b hb => by
  have := List.all_eq_true.1 h b hb
  rw [Bool.and_eq_true] at this
  exact ⟨Nat.le_of_ble_eq_true this.1, Nat.le_of_ble_eq_true this.2⟩
theorem pK_ok (d : UInt8) (v : Int) (h : sD v = ⟨#[d]⟩) (h1 : -9223372036854775808 ≤ v) (h2 : v ≤ 9223372036854775807) : FnEq Tryz.prog (pK d v).g (pK d v).vs (pK d v).mf (pK d v).v (pK d v).m1 := by
  have := parse_digits h1 h2
  rw [h] at this
  exact this
theorem lK_ok (s : ByteArray) (hs : s.size ≤ 100000) (hp : Plain s) : FnEq Tryz.prog (lK s).g (lK s).vs (lK s).mf (lK s).v (lK s).m1 := line_fn s hs hp
theorem line1 : FnEq Tryz.prog 9 [evV e1] [] (.tuple ⟨[.string s1, .int .i64 0]⟩) [] := by
  have h := (line_eq (e := e1) (K := 400) ⟨⟨by decide, by decide⟩, ⟨by decide, by decide⟩, by decide, by decide⟩ (Nat.le_refl _)).1 (.inr (.inl rfl))
  have e : lineS e1 = s1 := by decide
  rw [e] at h
  exact (ctrace_Line 400 e1 _ h).eq
theorem event2 : FnEq Tryz.prog 7 [.string a1] [] (.tuple ⟨[evV e2, .int .i64 0]⟩) [] := by
  have h := event_back (e := e2) (K := 400) (.inr (.inr (.inr (.inr ⟨rfl, rfl, rfl⟩)))) ⟨⟨by decide, by decide⟩, ⟨by decide, by decide⟩, by decide, by decide⟩ (by omega)
  have e : lineS e2 = a1 := by decide
  rw [e] at h
  exact (ctrace_Event 400 a1 _ h).eq
theorem tab_ok : HkOk Tryz.prog (tabK tab) := tabK_ok fun k hk => by
  simp only [tab, List.mem_cons, List.not_mem_nil, or_false] at hk
  rcases hk with rfl | rfl | rfl | rfl | rfl | rfl | rfl | rfl | rfl | rfl | rfl | rfl
  · exact line1
  · exact event2
  · exact lK_ok a1 (by decide) (plain_of (by decide))
  · exact lK_ok a2 (by decide) (plain_of (by decide))
  · exact lK_ok a3 (by decide) (plain_of (by decide))
  · exact lK_ok a4 (by decide) (plain_of (by decide))
  · exact lK_ok a5 (by decide) (plain_of (by decide))
  · exact pK_ok 49 1 (by decide) (by omega) (by omega)
  · exact pK_ok 50 2 (by decide) (by omega) (by omega)
  · exact pK_ok 52 4 (by decide) (by omega) (by omega)
  · exact pK_ok 55 7 (by decide) (by omega) (by omega)
  · exact text_one_fn

end

section
open Go Go.Dt Go.Proofs Go.Shelf Go.RowKit
set_option linter.unusedVariables false

theorem awake_eq : FnEq Tryz.prog 6 [] [] (.bool true) [] := FnEq.evalHk mixed X_ok tab_ok 6000 Tryz.func6 (by kernel_rfl) rfl (by kernel_rfl)
abbrev Fawake : Bool := true
theorem awake_con : Con Tryz.prog 6 [] (.bool Fawake) := ⟨awake_eq, ⟨_, Tryz.func6, by kernel_rfl⟩, by kernel_rfl⟩

end

end Go.Proofs.YtdmcdijlpnbghaaGreatDoor.Lf
