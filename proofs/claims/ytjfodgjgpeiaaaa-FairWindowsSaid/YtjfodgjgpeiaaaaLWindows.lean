/- Proved: FairWindows returns true for all its arguments, in every order of evaluation that the model allows. Conditions: none beyond those of the given statement. -/
import Derived.Test.YtjfodgjgpeiaaaaRows
import Derived.Test.YtjfodgjgpeiaaaaDt20
import Derived.Test.YtjfodgjgpeiaaaaSG
import Derived.Test.YtjfodgjgpeiaaaaDt27
namespace Go.Proofs.Ytjfodgjgpeiaaaa.FairWindows
open Go.ChangeShapes Go.WideShapes Go.ChangeAt Go.RowKit Go.Dt
set_option linter.unusedVariables false

theorem own : ownKnob Try.prog.godebug = none := by kernel_rfl


set_option maxRecDepth 100000 in
theorem lifted (os : Os) (started : os.Started) (H : Type) (enc : TypeId × Value → H) :
    ReturnsInHanded {} Try.checked os 7 .any (Rows.fairWindowsSpec.pre6 enc Try.prog Try.f7 Rows.fairWindowsRow.domain false) (Rows.fairWindowsSpec.post enc Try.prog Try.f7 false true false false) := by
  refine returnsIn_shaped (C := Try.checked) own started (by kernel_rfl) Try.func7
    (ChangeSpec.witness6 (enc := enc) (C := Try.checked) false ⟨#[], #[.slice none 0 0, .int .i64 0, .int .i64 0], []⟩ 8 (by kernel_rfl) (by kernel_rfl) (by kernel_rfl) (by kernel_rfl)) ?_
  intro W base args ds gs before hsh hval0 hW
  have hsome := some_cells (P := Try.prog) hsh (by kernel_rfl) (by kernel_rfl)
  have hval : ∀ (j : Nat) t v, Try.f7.params[j]? = some t → args[j]? = some v → Value.okWide Try.prog W .any base t v := hval0
  have hW' := hW
  obtain ⟨p, q, hA0, hV, rfl, hfz, hnd⟩ := hW
  have hA : DataW.TrodAll enc Try.prog W 0 (fun _ => true) true Try.f7.params.toList args.toList ds p := hA0
  obtain ⟨rfl, rfl⟩ := trodVars_none hV
  have hlt := hW'.lt
  have hst : ∀ (W' : World) (z : Nat → Bool), Below W.heap.size W W' → (∀ x ∈ p ++ [], z x.block = true) → DataW.TrodAll enc Try.prog W' 0 z true Try.f7.params.toList args.toList ds p := fun W' z hb hz =>
    trodAll_stays laid hb (by kernel_rfl) hA (fun x hx => hlt x (by simp [hx])) (fun x hx => hz x (by simp [hx]))
  rw [Try.params7] at hA hval
  obtain ⟨v0, vs0, d0, ds0, p0, q0, hargs, rfl, rfl, h0, r0⟩ := trodAll_cons hA
  obtain ⟨v1, vs1, d1, ds1, p1, q1, rfl, rfl, rfl, h1, r1⟩ := trodAll_cons r0
  obtain ⟨v2, vs2, d2, ds2, p2, q2, rfl, rfl, rfl, h2, r2⟩ := trodAll_cons r1
  obtain ⟨rfl, rfl, rfl⟩ := trodAll_nil r2
  obtain rfl : args = #[v0, v1, v2] := by cases args; simp_all
  obtain ⟨nil0, n0, c0, L0, hn0, hl0, hr0, hc0⟩ := slice_can (n := 6) (ss := List.replicate 1 (.int .i64)) hsome Try.underlying30 (by kernel_rfl) (by kernel_rfl) (by decide) (hval 0 30 v0 rfl rfl) h0
  obtain ⟨f0, e0, hf0⟩ := rows_i64 hr0
  subst e0; simp only [Nat.mul_one] at hc0 hf0
  obtain ⟨a1, rfl, rfl, rfl, w1⟩ := open_int Try.underlying3 (hval 1 3 v1 rfl rfl) h1
  obtain ⟨a2, rfl, rfl, rfl, w2⟩ := open_int Try.underlying3 (hval 2 3 v2 rfl rfl) h2
  clear hA0 hval0
  have hι : ∃ ι : Map, ι 0 = some L0 ∧ ∀ j, ι j ≠ none → j < 1 := ⟨fun j => if j = 0 then some L0 else none, by simp, fun j hj => by simp only at hj; repeat' (split at hj; · omega); exact absurd rfl hj⟩
  obtain ⟨ι, hi0, hdom⟩ := hι
  obtain ⟨ha0, hb0⟩ := hc0 ι 0 hi0
  have hargs : ∀ i, RV ι (([slc nil0 0 n0, .int .i64 a1, .int .i64 a2] : List Value).getD i undef) ((#[v0, .int .i64 a1, .int .i64 a2] : Array Value).getD i undef) := fun i => by
    rcases i with _ | i
    · exact ha0
    rcases i with _ | i
    · exact RV.refl _ _ (by rfl)
    rcases i with _ | i
    · exact RV.refl _ _ (by rfl)
    · have e1 : ∀ (l : List Value) (k : Nat), l.length ≤ k → l.getD k undef = undef := fun l k h => by simp [List.getD_eq_getElem?_getD, List.getElem?_eq_none h]
      rw [e1 _ _ (by simp), Array.getD_eq_getD_getElem?, Array.getElem?_eq_none (by simp)]
      exact .any _
  have hblk : ∀ b, BlkOk ι W b (([.cells (row (n0) f0) 0 false] : List Blk).getD b .gone) := fun b => by
    rcases b with _ | b
    · exact hb0
    · exact trivial
  refine (FnEq.callsRO (Sl.windows_ nil0 n0 f0 a1 a2 hn0 hl0 ((i64_bounds w2).1) ((i64_bounds w2).2)) rfl rfl #[v0, .int .i64 a1, .int .i64 a2] W ι rfl hargs hblk hdom).mono fun e W' ⟨he, hg⟩ => ?_
  subst he
  exact ⟨_, rfl, ends_below (qv := []) hW' hg rfl (fun _ _ _ => (trodAll_cons_mk (shut_bool Try.underlying4 _) trodAll_mk0))
    (fun z hz => hst W' z hg hz) (fun _ _ => rfl)
    (ok_one (by kernel_rfl) rfl (okWide_bool_mk Try.underlying4 _))⟩

theorem over : Rows.fairWindowsRow.holds Try.pinned (OpenSpec.ofChange Rows.fairWindowsSpec) :=
  OpenClaim.holds_of_wide 7 Try.f7 rfl rfl rfl rfl rfl rfl rfl ⟨rfl, rfl, rfl, rfl, rfl⟩ rfl rfl rfl rfl rfl (by kernel_rfl) Try.func7 (by kernel_rfl)
    (of_decide_eq_true (by kernel_rfl)) (by unfold Func.isWrapper; first | (rw [if_pos (by decide +kernel)]; kernel_rfl) | (rw [if_neg (by decide +kernel)]; exact ⟨rfl, rfl⟩))
    (fun os started H enc _ => lifted os started H enc)

theorem proved : Rows.FairWindowsSaid := over
end Go.Proofs.Ytjfodgjgpeiaaaa.FairWindows
