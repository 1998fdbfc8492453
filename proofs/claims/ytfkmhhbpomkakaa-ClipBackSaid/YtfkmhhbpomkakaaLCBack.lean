/- Proved: ClipBack returns true for all its arguments, in every order of evaluation that the model allows. Conditions: none beyond those of the given statement. -/
import Derived.Test.YtfkmhhbpomkakaaRows
import Derived.Test.YtfkmhhbpomkakaaDt20
import Derived.Test.YtfkmhhbpomkakaaPK
import Derived.Test.YtfkmhhbpomkakaaDt27
namespace Go.Proofs.Ytfkmhhbpomkakaa.ClipBack
open Go.ChangeShapes Go.WideShapes Go.ChangeAt Go.RowKit Go.Dt
set_option linter.unusedVariables false

theorem own : ownKnob Try.prog.godebug = none := by kernel_rfl


set_option maxRecDepth 100000 in
theorem lifted (os : Os) (started : os.Started) (H : Type) (enc : TypeId × Value → H) :
    ReturnsInHanded {} Try.checked os 5 .any (Rows.clipBackSpec.pre6 enc Try.prog Try.f5 Rows.clipBackRow.domain false) (Rows.clipBackSpec.post enc Try.prog Try.f5 false true false false) := by
  refine returnsIn_shaped (C := Try.checked) own started (by kernel_rfl) Try.func5
    (ChangeSpec.witness6 (enc := enc) (C := Try.checked) false ⟨#[], #[.int .i64 0, .slice none 0 0], []⟩ 8 (by kernel_rfl) (by kernel_rfl) (by kernel_rfl) (by kernel_rfl)) ?_
  intro W base args ds gs before hsh hval0 hW
  have hsome := some_cells (P := Try.prog) hsh (by kernel_rfl) (by kernel_rfl)
  have hval : ∀ (j : Nat) t v, Try.f5.params[j]? = some t → args[j]? = some v → Value.okWide Try.prog W .any base t v := hval0
  have hW' := hW
  obtain ⟨p, q, hA0, hV, rfl, hfz, hnd⟩ := hW
  have hA : DataW.TrodAll enc Try.prog W 0 (fun _ => true) true Try.f5.params.toList args.toList ds p := hA0
  obtain ⟨rfl, rfl⟩ := trodVars_none hV
  have hlt := hW'.lt
  have hst : ∀ (W' : World) (z : Nat → Bool), Below W.heap.size W W' → (∀ x ∈ p ++ [], z x.block = true) → DataW.TrodAll enc Try.prog W' 0 z true Try.f5.params.toList args.toList ds p := fun W' z hb hz =>
    trodAll_stays laid hb (by kernel_rfl) hA (fun x hx => hlt x (by simp [hx])) (fun x hx => hz x (by simp [hx]))
  rw [Try.params5] at hA hval
  obtain ⟨v0, vs0, d0, ds0, p0, q0, hargs, rfl, rfl, h0, r0⟩ := trodAll_cons hA
  obtain ⟨v1, vs1, d1, ds1, p1, q1, rfl, rfl, rfl, h1, r1⟩ := trodAll_cons r0
  obtain ⟨rfl, rfl, rfl⟩ := trodAll_nil r1
  obtain rfl : args = #[v0, v1] := by cases args; simp_all
  obtain ⟨a0, rfl, rfl, rfl, w0⟩ := open_int Try.underlying3 (hval 0 3 v0 rfl rfl) h0
  obtain ⟨nil1, n1, c1, L1, hn1, hl1, hr1, hc1⟩ := slice_can (n := 6) (ss := List.replicate 10 (.int .i64)) hsome Try.underlying37 (by kernel_rfl) (by kernel_rfl) (by decide) (hval 1 37 v1 rfl rfl) h1
  obtain ⟨f1, e1, hf1⟩ := rows_i64 hr1
  subst e1
  clear hA0 hval0
  have hι : ∃ ι : Map, ι 0 = some L1 ∧ ∀ j, ι j ≠ none → j < 1 := ⟨fun j => if j = 0 then some L1 else none, by simp, fun j hj => by simp only at hj; repeat' (split at hj; · omega); exact absurd rfl hj⟩
  obtain ⟨ι, hi0, hdom⟩ := hι
  obtain ⟨ha1, hb1⟩ := hc1 ι 0 hi0
  have hargs : ∀ i, RV ι (([.int .i64 a0, slc nil1 0 n1] : List Value).getD i undef) ((#[.int .i64 a0, v1] : Array Value).getD i undef) := fun i => by
    rcases i with _ | i
    · exact RV.refl _ _ (by rfl)
    rcases i with _ | i
    · exact ha1
    · have e1 : ∀ (l : List Value) (k : Nat), l.length ≤ k → l.getD k undef = undef := fun l k h => by simp [List.getD_eq_getElem?_getD, List.getElem?_eq_none h]
      rw [e1 _ _ (by simp), Array.getD_eq_getD_getElem?, Array.getElem?_eq_none (by simp)]
      exact .any _
  have hblk : ∀ b, BlkOk ι W b (([.cells (row (n1 * 10) f1) 0 false] : List Blk).getD b .gone) := fun b => by
    rcases b with _ | b
    · exact hb1
    · exact trivial
  refine (FnEq.callsRO (Pol.back_ a0 nil1 n1 f1 hn1 hl1 ) rfl rfl #[.int .i64 a0, v1] W ι rfl hargs hblk hdom).mono fun e W' ⟨he, hg⟩ => ?_
  subst he
  exact ⟨_, rfl, ends_below (qv := []) hW' hg rfl (fun _ _ _ => (trodAll_cons_mk (shut_bool Try.underlying4 _) trodAll_mk0))
    (fun z hz => hst W' z hg hz) (fun _ _ => rfl)
    (ok_one (by kernel_rfl) rfl (okWide_bool_mk Try.underlying4 _))⟩

theorem over : Rows.clipBackRow.holds Try.pinned (OpenSpec.ofChange Rows.clipBackSpec) :=
  OpenClaim.holds_of_wide 5 Try.f5 rfl rfl rfl rfl rfl rfl rfl ⟨rfl, rfl, rfl, rfl, rfl⟩ rfl rfl rfl rfl rfl (by kernel_rfl) Try.func5 (by kernel_rfl)
    (of_decide_eq_true (by kernel_rfl)) (by unfold Func.isWrapper; first | (rw [if_pos (by decide +kernel)]; kernel_rfl) | (rw [if_neg (by decide +kernel)]; exact ⟨rfl, rfl⟩))
    (fun os started H enc _ => lifted os started H enc)

theorem proved : Rows.ClipBackSaid := over
end Go.Proofs.Ytfkmhhbpomkakaa.ClipBack
