/- Proved: PlainNone returns true for all its arguments, in every order of evaluation that the model allows. Conditions: none beyond those of the given statement. -/
import Derived.Test.YtefiememffgohaaRows
import Derived.Test.YtefiememffgohaaQP10
import Derived.Test.YtefiememffgohaaQP23
namespace Go.Proofs.Ytefiememffgohaa.PlainNone
open Go.ChangeShapes Go.WideShapes Go.ChangeAt Go.RowKit Go.Dt Go.Proofs.Ytefiememffgohaa.Lf
set_option linter.unusedVariables false

theorem own : ownKnob Try.prog.godebug = none := by kernel_rfl

set_option maxRecDepth 100000 in
theorem lifted (os : Os) (started : os.Started) (H : Type) (enc : TypeId × Value → H) :
    ReturnsInHanded {} Try.checked os 3 .any (Rows.plainNoneSpec.pre6 enc Try.prog Try.f3 Rows.plainNoneRow.domain false) (Rows.plainNoneSpec.post enc Try.prog Try.f3 false true false false) := by
  refine returnsIn_shaped (C := Try.checked) own started (by kernel_rfl) Try.func3
    (ChangeSpec.witness6 (enc := enc) (C := Try.checked) false ⟨#[], #[.int .i64 0, .agg #[.int .i64 0, .int .i64 0, .int .i64 0, .int .i64 0]], []⟩ 8 (by kernel_rfl) (by kernel_rfl) (by kernel_rfl) (by kernel_rfl)) ?_
  intro W base args ds gs before hsh hval0 hW
  have hval : ∀ (j : Nat) t v, Try.f3.params[j]? = some t → args[j]? = some v → Value.okWide Try.prog W .any base t v := hval0
  have hW' := hW
  obtain ⟨p, q, hA0, hV, rfl, hfz, hnd⟩ := hW
  have hA : DataW.TrodAll enc Try.prog W 0 (fun _ => true) true Try.f3.params.toList args.toList ds p := hA0
  obtain ⟨rfl, rfl⟩ := trodVars_none hV
  have hlt := hW'.lt
  have hst : ∀ (W' : World) (z : Nat → Bool), Below W.heap.size W W' → (∀ x ∈ p ++ [], z x.block = true) → DataW.TrodAll enc Try.prog W' 0 z true Try.f3.params.toList args.toList ds p := fun W' z hb hz =>
    trodAll_stays laid hb (by kernel_rfl) hA (fun x hx => hlt x (by simp [hx])) (fun x hx => hz x (by simp [hx]))
  rw [Try.params3] at hA hval
  obtain ⟨v0, vs0, d0, ds0, p0, q0, hargs, rfl, rfl, h0, r0⟩ := trodAll_cons hA
  obtain ⟨v1, vs1, d1, ds1, p1, q1, rfl, rfl, rfl, h1, r1⟩ := trodAll_cons r0
  obtain ⟨rfl, rfl, rfl⟩ := trodAll_nil r1
  obtain rfl : args = #[v0, v1] := by cases args; simp_all
  obtain ⟨a0, rfl, rfl, rfl, w0⟩ := open_int Try.underlying3 (hval 0 3 v0 rfl rfl) h0
  obtain ⟨a1, ha1, w1⟩ := arg_agg (α := TRect) (n := 64) (by kernel_rfl) (by kernel_rfl) (hval 1 23 v1 rfl rfl) h1
  clear hA0 hval0
  have hargs : ∀ i, i < ([.int .i64 a0, .agg ⟨Flat.cells a1⟩] : List Value).length → RV (fm W) (([.int .i64 a0, .agg ⟨Flat.cells a1⟩] : List Value).getD i undef) ((#[.int .i64 a0, v1] : Array Value).getD i undef) := fun i hi => by
    rcases i with _ | i
    · exact RV.refl _ _ (by rfl)
    rcases i with _ | i
    · exact ha1
    · exact absurd hi (by show ¬ i + 2 < 2; omega)
  refine (Con.calls (Lf.plainNone_walk a0 a1) rfl #[.int .i64 a0, v1] W rfl (list_rv hargs)).mono fun e W' ⟨he, hg⟩ => ?_
  subst he
  exact ⟨_, rfl, ends_below (qv := []) hW' hg rfl (fun _ _ _ => (trodAll_cons_mk (shut_bool Try.underlying4 _) trodAll_mk0))
    (fun z hz => hst W' z hg hz) (fun _ _ => rfl)
    (ok_one (by kernel_rfl) rfl (okWide_bool_mk Try.underlying4 _))⟩

theorem over : Rows.plainNoneRow.holds Try.pinned (OpenSpec.ofChange Rows.plainNoneSpec) :=
  OpenClaim.holds_of_wide 3 Try.f3 rfl rfl rfl rfl rfl rfl rfl ⟨rfl, rfl, rfl, rfl, rfl⟩ rfl rfl rfl rfl rfl (by kernel_rfl) Try.func3 (by kernel_rfl)
    (of_decide_eq_true (by kernel_rfl)) (by unfold Func.isWrapper; first | (rw [if_pos (by decide +kernel)]; kernel_rfl) | (rw [if_neg (by decide +kernel)]; exact ⟨rfl, rfl⟩))
    (fun os started H enc _ => lifted os started H enc)

theorem proved : Rows.PlainNoneSaid := over
end Go.Proofs.Ytefiememffgohaa.PlainNone
