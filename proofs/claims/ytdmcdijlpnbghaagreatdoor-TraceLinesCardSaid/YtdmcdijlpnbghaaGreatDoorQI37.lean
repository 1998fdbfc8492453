/- Several texts in one: EWa, EWb, EWc. -/
import Derived.Test.YtdmcdijlpnbghaaGreatDoorQI24
import Derived.Test.YtdmcdijlpnbghaaGreatDoorQI36
import Derived.RangeFuncNested
import Derived.RangeFuncBound
import Derived.RangeFuncCalls
import Derived.RangeFuncLeaves
import Derived.Shelf.Abstract
import Derived.Shelf.RegionOpen
import Derived.WalkKit
import Derived.OwnWalkIn
import Derived.TacticsInMore
import Derived.LoopNIn
import Derived.LoopIn
import Derived.Test.YtdmcdijlpnbghaaGreatDoorQI28
namespace Go.Proofs.YtdmcdijlpnbghaaGreatDoor.Lf

section
open Go Go.Dt Go.Proofs Go.RowKit
set_option linter.unusedVariables false
set_option linter.unusedSimpArgs false

/-- Where a text's first line ends; -1: nowhere. -/
def nlAt (s : ByteArray) : Int := match (List.range s.size).find? (fun i => s[i]! == 10) with
  | some i => (i : Int)
  | none => -1
theorem ext96 (s : ByteArray) (w : World) : (Go.Extern.BytealgIndexByte.indexByte #[.string s, .int .u8 10]).run Tryz.prog w = .ok (.int .i64 (nlAt s)) w := by
  have e : Go.Extern.BytealgIndexByte.indexByte #[.string s, .int .u8 10] = (match (List.range s.size).find? (fun i => s[i]! == 10) with
    | some i => pure (goInt i)
    | none => pure (goInt (-1)) : Sem Value) := rfl
  rw [e]
  unfold nlAt
  cases hf : (List.range s.size).find? (fun i => s[i]! == 10) with
  | none => rfl
  | some i => rfl
theorem con78 (s : ByteArray) : Con Tryz.prog 78 [.string s, .int .u8 10] (.int .i64 (nlAt s)) :=
  Con.run Tryz.func78 (by kernel_rfl) rfl (R.ext (g := 96) (e := Go.Extern.BytealgIndexByte.indexByte) mixed #[.string s, .int .u8 10] (by kernel_rfl) rfl (ext96 s) (by kernel_rfl) (R.fin mixed Tryz.func78 (by kernel_rfl)))
theorem con60 (s : ByteArray) : Con Tryz.prog 60 [.string s, .int .u8 10] (.int .i64 (nlAt s)) :=
  Con.run Tryz.func60 (by kernel_rfl) rfl (R.call mixed (con78 s) (by kernel_rfl) (R.fin mixed Tryz.func60 (by kernel_rfl)))

end

section
open Go Go.Dt Go.Proofs Go.RowKit
set_option linter.unusedVariables false
set_option linter.unusedSimpArgs false

attribute [local go_sem] Oper.semAt_some

/-- A text's lines, each with its end. -/
def linesB : Nat → ByteArray → List ByteArray
  | 0, _ => []
  | n + 1, s => if s.size = 0 then [] else if 0 ≤ nlAt s then s.extract 0 ((nlAt s).toNat + 1) :: linesB n (s.extract ((nlAt s).toNat + 1) s.size) else [s]
def linesOf (s : ByteArray) : List ByteArray := linesB s.size s
theorem nlAt_lt (s : ByteArray) (h : 0 ≤ nlAt s) : (nlAt s).toNat < s.size := by
  unfold nlAt at *
  cases hf : (List.range s.size).find? (fun i => s[i]! == 10) with
  | none => rw [hf] at h; simp at h
  | some i =>
    have := List.mem_of_find?_eq_some hf
    simpa using this
theorem index_calls (s : ByteArray) (w : World) (hg : GloOk (froH w)) : Calls Tryz.prog 60 #[.string s, .int .u8 10] w fun e w' => e = .returned (.int .i64 (nlAt s)) ∧ Below w.heap.size w w' :=
  Con.calls (con60 s) rfl #[.string s, .int .u8 10] w rfl (fun i => by
    rcases i with _ | _ | i
    · exact RV.string _
    · exact RV.int _ _
    · exact RV.any _) hg

theorem linesB_nil {n : Nat} {s : ByteArray} (h : s.size = 0) : linesB n s = [] := by
  cases n with
  | zero => rfl
  | succ n => rw [linesB, if_pos h]
theorem drop_cons {α : Type} {l : List α} {k : Nat} {x : α} {r : List α} (h : x :: r = l.drop k) : l[k]? = some x ∧ r = l.drop (k + 1) ∧ k + 1 ≤ l.length := by
  have h1 : (l.drop k)[0]? = some x := by rw [← h]; rfl
  rw [List.getElem?_drop, Nat.add_zero] at h1
  have hlt : k < l.length := (List.getElem?_eq_some_iff.1 h1).1
  refine ⟨h1, ?_, hlt⟩
  have h2 := List.drop_eq_getElem_cons hlt
  rw [← h] at h2
  exact (List.cons.inj h2).2
theorem cell_of_heap {W W' : World} {b o : Nat} (h : W'.heap[b]? = W.heap[b]?) : W'.cell? ⟨b, o, none⟩ = W.cell? ⟨b, o, none⟩ := by simp only [World.cell?, h]
theorem frozen_of_heap {W W' : World} {b o : Nat} (h : W'.heap[b]? = W.heap[b]?) : W'.frozen? ⟨b, o, none⟩ = W.frozen? ⟨b, o, none⟩ := World.frozen?_of_block (w := W) h
def szAt (Bs o : Nat) (w : World) : Nat := match w.cell? ⟨Bs, o, none⟩ with
  | some (.string s) => s.size
  | _ => 0
theorem szAt_of {Bs o : Nat} {w : World} {s : ByteArray} (h : w.cell? ⟨Bs, o, none⟩ = some (.string s)) : szAt Bs o w = s.size := by unfold szAt; rw [h]

set_option maxHeartbeats 8000000 in
set_option maxRecDepth 100000 in
theorem lines_iter (s0 : ByteArray) (hs0 : s0.size ≤ 1000000) (Bs o : Nat) (w : World) (hB : w.cell? ⟨Bs, o, none⟩ = some (.string s0)) (hfz : w.frozen? ⟨Bs, o, none⟩ = false) : IterW Tryz.prog 59 #[.pointer (some ⟨Bs, o, none⟩)] [Bs] ((linesOf s0).map fun l => #[.string l]) w := by
  intro l J Jx W hbel hgl hJ hJx hY h0
  refine (callsIn_wide (n := 0)).1 ?_
  refine callsIn_of_wp Tryz.func59 rfl trivial ?_ rfl
  have hBs : Bs < w.heap.size := World.block_lt_of_cell? _ _ hB
  have hBW : W.cell? ⟨Bs, o, none⟩ = some (.string s0) := (hbel.cell (p := ⟨Bs, o, none⟩) hBs).trans hB
  have hFW : W.frozen? ⟨Bs, o, none⟩ = false := (hbel.frozen (p := ⟨Bs, o, none⟩) hBs).trans hfz
  simp only [Tryz.ntmps59, List.size_toArray, List.length_cons, List.length_nil, Nat.reduceAdd, Nat.reduceSub, Array.replicate_succ, Array.replicate_zero, List.push_toArray, List.append_toArray, List.nil_append, List.cons_append]
  gi_wp2
  gi_loopw [3] (fun x wr => ∃ (k n : Nat) (s : ByteArray), wr.cell? ⟨Bs, o, none⟩ = some (.string s) ∧ wr.frozen? ⟨Bs, o, none⟩ = false ∧ s.size ≤ n ∧ n ≤ 1000000 ∧ linesB n s = (linesOf s0).drop k ∧ k ≤ (linesOf s0).length ∧ J k wr ∧ GloOk (froH wr))
    (fun x wr => szAt Bs o wr)
  case atStart =>
    exact ⟨0, s0.size, s0, hBW, hFW, Nat.le_refl _, hs0, rfl, Nat.zero_le _, h0, hgl⟩
  case round =>
    obtain ⟨k, n, s, hc, hf, hn, hn2, hlin, hkl, hJk, hgw⟩ := hrel
    have hI := index_calls s wr hgw
    have hBr : Bs < wr.heap.size := World.block_lt_of_cell? _ _ hc
    by_cases hz : s.size = 0
    · have hz0 : ¬ 0 < s.size := by omega
      have hend : J (List.map (fun l => #[Value.string l]) (linesOf s0)).length wr := by
        rw [linesB_nil hz] at hlin
        have : (linesOf s0).length ≤ k := List.drop_eq_nil_iff.1 hlin.symm
        rw [List.length_map, show (linesOf s0).length = k by omega]
        exact hJk
      gi_wp2
      go_end0
      exact ⟨⟨_, rfl⟩, .inl hend⟩
    · have hz0 : 0 < s.size := by omega
      obtain ⟨n, rfl⟩ : ∃ q, n = q + 1 := ⟨n - 1, by omega⟩
      rw [linesB, if_neg hz] at hlin
      by_cases hge : 0 ≤ nlAt s
      · obtain ⟨i, hi⟩ : ∃ i : Nat, nlAt s = i := ⟨(nlAt s).toNat, by omega⟩
        have hil : i < s.size := by have := nlAt_lt s hge; rw [hi] at this; simpa using this
        rw [if_pos hge] at hlin
        rw [hi] at hI hlin
        simp only [Int.toNat_natCast] at hlin
        obtain ⟨hx, hlin2, hkl2⟩ := drop_cons hlin
        have hx' : (List.map (fun l => #[Value.string l]) (linesOf s0))[k]? = some #[Value.string (s.extract 0 (i + 1))] := by rw [List.getElem?_map, hx]; rfl
        have hw : IntKind.i64.wrap ((i : Int) + 1) = ((i + 1 : Nat) : Int) := by rw [wrap_i64_of (by omega) (by omega)]; omega
        have hle : i + 1 ≤ s.size := hil
        have hrs : (s.extract (i + 1) s.size).size = s.size - (i + 1) := by simp
        clear hi hge hlin hx
        gi_wp2_with (refine ⟨trivial, rfl, ?_⟩; gi_at_call 60; refine (callsIn_wide.2 hI).mono ?_; rintro e W1 ⟨rfl, hb1⟩; have hc1 := (hb1.cell (p := ⟨Bs, o, none⟩) (World.block_lt_of_cell? _ _ hc)).trans hc; have hf1 := (hb1.frozen (p := ⟨Bs, o, none⟩) (World.block_lt_of_cell? _ _ hc)).trans hf)
        have hmo : Tryz.prog.follows .mixedOrders = true := mixed
        gi_region_with_o (fail)
        all_goals
          have hT : Turn [Bs] wr (W1.setCell ⟨Bs, o, none⟩ (Value.string (s.extract (i + 1) s.size))).drew := ((Turn.below hb1).setCell (by simp) _).drew
          have hJ2 := hJ k _ _ hJk hT
          have hc2 : (W1.setCell ⟨Bs, o, none⟩ (Value.string (s.extract (i + 1) s.size))).drew.cell? ⟨Bs, o, none⟩ = some (.string (s.extract (i + 1) s.size)) := World.cell?_setCell_same' _ _ _ (by rw [hc1]; rfl)
          have hf2 : (W1.setCell ⟨Bs, o, none⟩ (Value.string (s.extract (i + 1) s.size))).drew.frozen? ⟨Bs, o, none⟩ = false := (World.frozen?_setCell _ _ _ _).trans hf1
          generalize (W1.setCell ⟨Bs, o, none⟩ (Value.string (s.extract (i + 1) s.size))).drew = W2 at *
          obtain ⟨fn', tm', as', bd', hy, hR⟩ := hY k _ _ hx' hJ2
          gi_wp2
          refine ⟨rfl, hR.mono ?_⟩
          rintro e W3 (⟨rfl, hJ3, hg3, hsz3, hk3⟩ | ⟨rfl, hJx3⟩)
          · have hk4 := hk3 Bs (by simp)
            have hc3 := (cell_of_heap hk4).trans hc2
            have hf3 := (frozen_of_heap hk4).trans hf2
            gi_wp2
            go_roundw
            case rel => exact ⟨k + 1, n, _, hc3, hf3, by rw [hrs]; omega, by omega, hlin2, hkl2, hJ3, hg3⟩
            case measure => rw [szAt_of hc3, szAt_of hc, hrs]; omega
          · gi_wp2
            refine bodyPost_ret (results_none rfl _ _ _) rfl ?_
            exact ⟨⟨_, rfl⟩, .inr hJx3⟩
      · rw [if_neg hge] at hlin
        obtain ⟨hx, hlin2, hkl2⟩ := drop_cons hlin
        have hx' : (List.map (fun l => #[Value.string l]) (linesOf s0))[k]? = some #[Value.string s] := by rw [List.getElem?_map, hx]; rfl
        gi_wp2_with (refine ⟨trivial, rfl, ?_⟩; gi_at_call 60; refine (callsIn_wide.2 hI).mono ?_; rintro e W1 ⟨rfl, hb1⟩; have hc1 := (hb1.cell (p := ⟨Bs, o, none⟩) (World.block_lt_of_cell? _ _ hc)).trans hc; have hf1 := (hb1.frozen (p := ⟨Bs, o, none⟩) (World.block_lt_of_cell? _ _ hc)).trans hf)
        have hT : Turn [Bs] wr (W1.setCell ⟨Bs, o, none⟩ (Value.string { data := #[] })) := (Turn.below hb1).setCell (by simp) _
        have hJ2 := hJ k _ _ hJk hT
        have hc2 : (W1.setCell ⟨Bs, o, none⟩ (Value.string { data := #[] })).cell? ⟨Bs, o, none⟩ = some (.string { data := #[] }) := World.cell?_setCell_same' _ _ _ (by rw [hc1]; rfl)
        have hf2 : (W1.setCell ⟨Bs, o, none⟩ (Value.string { data := #[] })).frozen? ⟨Bs, o, none⟩ = false := (World.frozen?_setCell _ _ _ _).trans hf1
        generalize W1.setCell ⟨Bs, o, none⟩ (Value.string { data := #[] }) = W2 at *
        obtain ⟨fn', tm', as', bd', hy, hR⟩ := hY k _ _ hx' hJ2
        rw [hy, Oper.uponIn_round]
        refine And.intro (fun h => by simp [Fence.wide] at h) (hR.mono ?_)
        rintro e W3 (⟨rfl, hJ3, hg3, hsz3, hk3⟩ | ⟨rfl, hJx3⟩)
        · have hk4 := hk3 Bs (by simp)
          have hc3 := (cell_of_heap hk4).trans hc2
          have hf3 := (frozen_of_heap hk4).trans hf2
          gi_wp2
          go_roundw
          case rel => exact ⟨k + 1, n, _, hc3, hf3, Nat.zero_le _, by omega, (linesB_nil rfl).trans hlin2, hkl2, hJ3, hg3⟩
          case measure => rw [szAt_of hc3, szAt_of hc]; exact hz0
        · gi_wp2
          refine bodyPost_ret (results_none rfl _ _ _) rfl ?_
          exact ⟨⟨_, rfl⟩, .inr hJx3⟩

end

section
open Go Go.Dt Go.Proofs Go.RowKit
set_option linter.unusedVariables false
set_option linter.unusedSimpArgs false

theorem lines_con (s : ByteArray) : ConM Tryz.prog 41 [.string s] [] (.func (.func 59) #[] #[.pointer (some ⟨0, 0, none⟩)]) [.cells [.string s] 0 true] :=
  ConM.makes Tryz.func41 (by kernel_rfl) (Q.finIs mixed Tryz.func41 _ (by kernel_rfl) rfl _ (by kernel_rfl) rfl)
theorem lines_C (s : ByteArray) (hs : s.size ≤ 1000000) (q : Nat) : IterC Tryz.prog 59 q #[.pointer (some ⟨q, 0, none⟩)] [.cells [.string s] 0 true] 1 (fun l : ByteArray => [.string l]) (linesOf s) where
  fn := ⟨_, Tryz.func59, by kernel_rfl⟩
  len := fun _ => rfl
  pure := fun _ => rfl
  it := fun m0 ι w cap' hq hsz hrv hsim => by
    have hat : at_ (m0 ++ [.cells [.string s] 0 true]) q = .cells [.string s] 0 true := by
      simp only [at_, List.getD_eq_getElem?_getD]
      rw [List.getElem?_append_right (by omega), hq, Nat.sub_self]
      rfl
    have hB := hsim.blk q
    rw [hat] at hB
    obtain ⟨L, c', te, fz, hL, hh, hfit, hrw, _, hcells⟩ := hB
    obtain ⟨rfl, hroom, hoff, hro⟩ := hrw rfl
    have h0 := hrv 0
    have hcap : cap' = #[cap'.getD 0 undef] := by
      have hs1 : cap'.size = 1 := hsz.symm
      apply Array.ext (by simp [hs1])
      intro i h1 h2
      have : i = 0 := by omega
      subst this
      simp [h1]
    generalize cap'.getD 0 undef = x at h0 hcap
    subst hcap
    obtain ⟨L2, hL2, hx⟩ := RV.ptr_inv (show RV ι (.pointer (some ⟨q, 0, none⟩)) x from h0)
    rw [hL] at hL2; cases hL2
    subst hx
    have hv := RV.eq_of_plain (hcells 0 (show 0 < 1 by decide)) rfl
    have hlt : L.off + 0 < c'.size := by
      have : L.off + 1 ≤ c'.size := hfit
      omega
    have hc : w.cell? ⟨L.blk, L.off + 0, none⟩ = some (.string s) := by
      simp only [World.cell?, hh]
      rw [Array.getD_eq_getD_getElem?, Array.getElem?_eq_getElem hlt] at hv
      rw [Array.getElem?_eq_getElem hlt]
      exact congrArg some hv.symm
    have hf : w.frozen? ⟨L.blk, L.off + 0, none⟩ = false := by
      simp [World.frozen?, hh]
    refine ⟨_, [L.blk], lines_iter s hs L.blk (L.off + 0) w hc hf, by simp, fun k x' hx => ?_, fun r hr => ?_⟩
    · rw [List.getElem?_map, Option.map_eq_some_iff] at hx
      obtain ⟨x, hx1, rfl⟩ := hx
      refine ⟨x, hx1, rfl, fun i => ?_⟩
      rcases i with _ | i
      · exact RV.string _
      · exact RV.any _
    · obtain rfl : r = L.blk := by simpa using hr
      exact ⟨q, L, Nat.le_refl _, by rw [hat]; rfl, hL, rfl⟩

end

end Go.Proofs.YtdmcdijlpnbghaaGreatDoor.Lf
