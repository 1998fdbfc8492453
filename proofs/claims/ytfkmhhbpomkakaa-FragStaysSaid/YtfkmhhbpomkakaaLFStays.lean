/- Proved: FragStays returns true for all its arguments, in every order of evaluation that the model allows. Conditions: none beyond those of the given statement. -/
import Derived.Test.YtfkmhhbpomkakaaRows
import Derived.Test.YtfkmhhbpomkakaaDt20
import Derived.Test.YtfkmhhbpomkakaaFJ
namespace Go.Proofs.Ytfkmhhbpomkakaa.FragStays
open Go.ChangeShapes Go.WideShapes Go.ChangeAt Go.RowKit Go.Dt
set_option linter.unusedVariables false

theorem own : ownKnob Try.prog.godebug = none := by kernel_rfl

theorem walk (a0_0 : Int) (a0_1 : Int) (a0_2 : Int) (a0_3 : Int) (a0_4 : Int) (a0_5 : Int) (a1_0 : Int) (a1_1 : Int) (a1_2 : Int) (a1_3 : Int) (a1_4 : Int) (a2_0 : Int) (a2_1 : Int) (a2_2 : Int) (a2_3 : Int) (a2_4 : Int) (a2_5 : Int) (a2_6 : Int) (a2_7 : Int) (a2_8 : Int) (a2_9 : Int) (a2_10 : Int) (a2_11 : Int) (a2_12 : Int) (a2_13 : Int) (a2_14 : Int) (a2_15 : Int) (a2_16 : Int) (a2_17 : Int) (a2_18 : Int) (a2_19 : Int) (a2_20 : Int) (a2_21 : Int) (a2_22 : Int) (a2_23 : Int) (a2_24 : Int) (a2_25 : Bool) (a2_26 : Int) (a2_27 : Int) (a2_28 : Int) (a2_29 : Int) (a2_30 : Int) (a2_31 : Int) (a2_32 : Int) (a2_33 : Int) (a2_34 : Int) (a2_35 : Int) (a2_36 : Int) (a2_37 : Int) (a2_38 : Int) (a2_39 : Int) (a2_40 : Bool) (w0_0 : (Lit.int .i64 a0_0).wf = true) (w0_1 : (Lit.int .i64 a0_1).wf = true) (w0_2 : (Lit.int .i64 a0_2).wf = true) (w0_3 : (Lit.int .i64 a0_3).wf = true) (w0_4 : (Lit.int .i64 a0_4).wf = true) (w0_5 : (Lit.int .i64 a0_5).wf = true) (w1_0 : (Lit.int .i64 a1_0).wf = true) (w1_1 : (Lit.int .i64 a1_1).wf = true) (w1_2 : (Lit.int .i64 a1_2).wf = true) (w1_3 : (Lit.int .i64 a1_3).wf = true) (w1_4 : (Lit.int .i64 a1_4).wf = true) (w2_0 : (Lit.int .i64 a2_0).wf = true) (w2_1 : (Lit.int .i64 a2_1).wf = true) (w2_2 : (Lit.int .i64 a2_2).wf = true) (w2_3 : (Lit.int .i64 a2_3).wf = true) (w2_4 : (Lit.int .i64 a2_4).wf = true) (w2_5 : (Lit.int .i64 a2_5).wf = true) (w2_6 : (Lit.int .i64 a2_6).wf = true) (w2_7 : (Lit.int .i64 a2_7).wf = true) (w2_8 : (Lit.int .i64 a2_8).wf = true) (w2_9 : (Lit.int .i64 a2_9).wf = true) (w2_10 : (Lit.int .i64 a2_10).wf = true) (w2_11 : (Lit.int .i64 a2_11).wf = true) (w2_12 : (Lit.int .i64 a2_12).wf = true) (w2_13 : (Lit.int .i64 a2_13).wf = true) (w2_14 : (Lit.int .i64 a2_14).wf = true) (w2_15 : (Lit.int .i64 a2_15).wf = true) (w2_16 : (Lit.int .i64 a2_16).wf = true) (w2_17 : (Lit.int .i64 a2_17).wf = true) (w2_18 : (Lit.int .i64 a2_18).wf = true) (w2_19 : (Lit.int .i64 a2_19).wf = true) (w2_20 : (Lit.int .i64 a2_20).wf = true) (w2_21 : (Lit.int .i64 a2_21).wf = true) (w2_22 : (Lit.int .i64 a2_22).wf = true) (w2_23 : (Lit.int .i64 a2_23).wf = true) (w2_24 : (Lit.int .i64 a2_24).wf = true) (w2_26 : (Lit.int .i64 a2_26).wf = true) (w2_27 : (Lit.int .i64 a2_27).wf = true) (w2_28 : (Lit.int .i64 a2_28).wf = true) (w2_29 : (Lit.int .i64 a2_29).wf = true) (w2_30 : (Lit.int .i64 a2_30).wf = true) (w2_31 : (Lit.int .i64 a2_31).wf = true) (w2_32 : (Lit.int .i64 a2_32).wf = true) (w2_33 : (Lit.int .i64 a2_33).wf = true) (w2_34 : (Lit.int .i64 a2_34).wf = true) (w2_35 : (Lit.int .i64 a2_35).wf = true) (w2_36 : (Lit.int .i64 a2_36).wf = true) (w2_37 : (Lit.int .i64 a2_37).wf = true) (w2_38 : (Lit.int .i64 a2_38).wf = true) (w2_39 : (Lit.int .i64 a2_39).wf = true) (w : World) :
    Calls Try.prog 11 #[.agg #[.int .i64 a0_0, .int .i64 a0_1, .int .i64 a0_2, .int .i64 a0_3, .int .i64 a0_4, .int .i64 a0_5], .agg #[.int .i64 a1_0, .int .i64 a1_1, .int .i64 a1_2, .int .i64 a1_3, .int .i64 a1_4], .agg #[.int .i64 a2_0, .int .i64 a2_1, .int .i64 a2_2, .int .i64 a2_3, .int .i64 a2_4, .int .i64 a2_5, .int .i64 a2_6, .int .i64 a2_7, .int .i64 a2_8, .int .i64 a2_9, .int .i64 a2_10, .int .i64 a2_11, .int .i64 a2_12, .int .i64 a2_13, .int .i64 a2_14, .int .i64 a2_15, .int .i64 a2_16, .int .i64 a2_17, .int .i64 a2_18, .int .i64 a2_19, .int .i64 a2_20, .int .i64 a2_21, .int .i64 a2_22, .int .i64 a2_23, .int .i64 a2_24, .bool a2_25, .int .i64 a2_26, .int .i64 a2_27, .int .i64 a2_28, .int .i64 a2_29, .int .i64 a2_30, .int .i64 a2_31, .int .i64 a2_32, .int .i64 a2_33, .int .i64 a2_34, .int .i64 a2_35, .int .i64 a2_36, .int .i64 a2_37, .int .i64 a2_38, .int .i64 a2_39, .bool a2_40]] w fun e w' => e = .returned (.bool true) ∧ Below w.heap.size w w' :=
  (Frag.stays_ a0_0 a0_1 a0_2 a0_3 a0_4 a0_5 a1_0 a1_1 a1_2 a1_3 a1_4 a2_0 a2_1 a2_2 a2_3 a2_4 a2_5 a2_6 a2_7 a2_8 a2_9 a2_10 a2_11 a2_12 a2_13 a2_14 a2_15 a2_16 a2_17 a2_18 a2_19 a2_20 a2_21 a2_22 a2_23 a2_24 a2_25 a2_26 a2_27 a2_28 a2_29 a2_30 a2_31 a2_32 a2_33 a2_34 a2_35 a2_36 a2_37 a2_38 a2_39 a2_40 ).calls rfl rfl w

set_option maxRecDepth 100000 in
theorem lifted (os : Os) (started : os.Started) (H : Type) (enc : TypeId × Value → H) :
    ReturnsInHanded {} Try.checked os 11 .any (Rows.fragStaysSpec.pre6 enc Try.prog Try.f11 Rows.fragStaysRow.domain false) (Rows.fragStaysSpec.post enc Try.prog Try.f11 false true false false) := by
  refine returnsInHanded_of_change (C := Try.checked) own started (by kernel_rfl) Try.func11
    (ChangeSpec.witness6 (enc := enc) (C := Try.checked) false ⟨#[], #[.agg #[.int .i64 0, .int .i64 0, .int .i64 0, .int .i64 0, .int .i64 0, .int .i64 0], .agg #[.int .i64 0, .int .i64 0, .int .i64 0, .int .i64 0, .int .i64 0], .agg #[.int .i64 0, .int .i64 0, .int .i64 0, .int .i64 0, .int .i64 0, .int .i64 0, .int .i64 0, .int .i64 0, .int .i64 0, .int .i64 0, .int .i64 0, .int .i64 0, .int .i64 0, .int .i64 0, .int .i64 0, .int .i64 0, .int .i64 0, .int .i64 0, .int .i64 0, .int .i64 0, .int .i64 0, .int .i64 0, .int .i64 0, .int .i64 0, .int .i64 0, .bool false, .int .i64 0, .int .i64 0, .int .i64 0, .int .i64 0, .int .i64 0, .int .i64 0, .int .i64 0, .int .i64 0, .int .i64 0, .int .i64 0, .int .i64 0, .int .i64 0, .int .i64 0, .int .i64 0, .bool false]], []⟩ 8 (by kernel_rfl) (by kernel_rfl) (by kernel_rfl) (by kernel_rfl)) ?_
  intro W base args ds gs before hval0 hW hcnd _
  have hval : ∀ (j : Nat) t v, Try.f11.params[j]? = some t → args[j]? = some v → Value.okWide Try.prog W .any base t v := hval0
  have hW' := hW
  obtain ⟨p, q, hA0, hV, rfl, hfz, hnd⟩ := hW
  have hA : DataW.TrodAll enc Try.prog W 0 (fun _ => true) true Try.f11.params.toList args.toList ds p := hA0
  obtain ⟨rfl, rfl⟩ := trodVars_none hV
  have hlt := hW'.lt
  have hst : ∀ (W' : World) (z : Nat → Bool), Below W.heap.size W W' → (∀ x ∈ p ++ [], z x.block = true) → DataW.TrodAll enc Try.prog W' 0 z true Try.f11.params.toList args.toList ds p := fun W' z hb hz =>
    trodAll_stays laid hb (by kernel_rfl) hA (fun x hx => hlt x (by simp [hx])) (fun x hx => hz x (by simp [hx]))
  rw [Try.params11] at hA hval
  obtain ⟨v0, vs0, d0, ds0, p0, q0, hargs, rfl, rfl, h0, r0⟩ := trodAll_cons hA
  obtain ⟨v1, vs1, d1, ds1, p1, q1, rfl, rfl, rfl, h1, r1⟩ := trodAll_cons r0
  obtain ⟨v2, vs2, d2, ds2, p2, q2, rfl, rfl, rfl, h2, r2⟩ := trodAll_cons r1
  obtain ⟨rfl, rfl, rfl⟩ := trodAll_nil r2
  obtain rfl : args = #[v0, v1, v2] := by cases args; simp_all
  obtain ⟨cs0, rfl, hc0⟩ := flat_open (n := 6) (ss := [.int .i64, .int .i64, .int .i64, .int .i64, .int .i64, .int .i64]) (by kernel_rfl) (by kernel_rfl) (hval 0 75 v0 rfl rfl) h0
  obtain ⟨a0_0, _, rfl, w0_0, hc0⟩ := flat_int hc0
  obtain ⟨a0_1, _, rfl, w0_1, hc0⟩ := flat_int hc0
  obtain ⟨a0_2, _, rfl, w0_2, hc0⟩ := flat_int hc0
  obtain ⟨a0_3, _, rfl, w0_3, hc0⟩ := flat_int hc0
  obtain ⟨a0_4, _, rfl, w0_4, hc0⟩ := flat_int hc0
  obtain ⟨a0_5, _, rfl, w0_5, hc0⟩ := flat_int hc0
  obtain rfl := flat_nil hc0
  obtain ⟨cs1, rfl, hc1⟩ := flat_open (n := 6) (ss := [.int .i64, .int .i64, .int .i64, .int .i64, .int .i64]) (by kernel_rfl) (by kernel_rfl) (hval 1 77 v1 rfl rfl) h1
  obtain ⟨a1_0, _, rfl, w1_0, hc1⟩ := flat_int hc1
  obtain ⟨a1_1, _, rfl, w1_1, hc1⟩ := flat_int hc1
  obtain ⟨a1_2, _, rfl, w1_2, hc1⟩ := flat_int hc1
  obtain ⟨a1_3, _, rfl, w1_3, hc1⟩ := flat_int hc1
  obtain ⟨a1_4, _, rfl, w1_4, hc1⟩ := flat_int hc1
  obtain rfl := flat_nil hc1
  obtain ⟨cs2, rfl, hc2⟩ := flat_open (n := 6) (ss := ((Sc.int .i64) :: (Sc.int .i64) :: (Sc.int .i64) :: (Sc.int .i64) :: (Sc.int .i64) :: (Sc.int .i64) :: (Sc.int .i64) :: (Sc.int .i64) :: (Sc.int .i64) :: (Sc.int .i64) :: (Sc.int .i64) :: (Sc.int .i64) :: (Sc.int .i64) :: (Sc.int .i64) :: (Sc.int .i64) :: (Sc.int .i64) :: (Sc.int .i64) :: (Sc.int .i64) :: (Sc.int .i64) :: (Sc.int .i64) :: (Sc.int .i64) :: (Sc.int .i64) :: (Sc.int .i64) :: (Sc.int .i64) :: (Sc.int .i64) :: Sc.bool :: (Sc.int .i64) :: (Sc.int .i64) :: (Sc.int .i64) :: (Sc.int .i64) :: (Sc.int .i64) :: (Sc.int .i64) :: (Sc.int .i64) :: (Sc.int .i64) :: (Sc.int .i64) :: (Sc.int .i64) :: (Sc.int .i64) :: (Sc.int .i64) :: (Sc.int .i64) :: (Sc.int .i64) :: Sc.bool :: ([] : List Sc))) (by kernel_rfl) (by kernel_rfl) (hval 2 85 v2 rfl rfl) h2
  obtain ⟨a2_0, _, rfl, w2_0, hc2⟩ := flat_int hc2
  obtain ⟨a2_1, _, rfl, w2_1, hc2⟩ := flat_int hc2
  obtain ⟨a2_2, _, rfl, w2_2, hc2⟩ := flat_int hc2
  obtain ⟨a2_3, _, rfl, w2_3, hc2⟩ := flat_int hc2
  obtain ⟨a2_4, _, rfl, w2_4, hc2⟩ := flat_int hc2
  obtain ⟨a2_5, _, rfl, w2_5, hc2⟩ := flat_int hc2
  obtain ⟨a2_6, _, rfl, w2_6, hc2⟩ := flat_int hc2
  obtain ⟨a2_7, _, rfl, w2_7, hc2⟩ := flat_int hc2
  obtain ⟨a2_8, _, rfl, w2_8, hc2⟩ := flat_int hc2
  obtain ⟨a2_9, _, rfl, w2_9, hc2⟩ := flat_int hc2
  obtain ⟨a2_10, _, rfl, w2_10, hc2⟩ := flat_int hc2
  obtain ⟨a2_11, _, rfl, w2_11, hc2⟩ := flat_int hc2
  obtain ⟨a2_12, _, rfl, w2_12, hc2⟩ := flat_int hc2
  obtain ⟨a2_13, _, rfl, w2_13, hc2⟩ := flat_int hc2
  obtain ⟨a2_14, _, rfl, w2_14, hc2⟩ := flat_int hc2
  obtain ⟨a2_15, _, rfl, w2_15, hc2⟩ := flat_int hc2
  obtain ⟨a2_16, _, rfl, w2_16, hc2⟩ := flat_int hc2
  obtain ⟨a2_17, _, rfl, w2_17, hc2⟩ := flat_int hc2
  obtain ⟨a2_18, _, rfl, w2_18, hc2⟩ := flat_int hc2
  obtain ⟨a2_19, _, rfl, w2_19, hc2⟩ := flat_int hc2
  obtain ⟨a2_20, _, rfl, w2_20, hc2⟩ := flat_int hc2
  obtain ⟨a2_21, _, rfl, w2_21, hc2⟩ := flat_int hc2
  obtain ⟨a2_22, _, rfl, w2_22, hc2⟩ := flat_int hc2
  obtain ⟨a2_23, _, rfl, w2_23, hc2⟩ := flat_int hc2
  obtain ⟨a2_24, _, rfl, w2_24, hc2⟩ := flat_int hc2
  obtain ⟨a2_25, _, e2, hd2⟩ := flat_bool hc2
  clear hc2; subst e2; have hc2 := hd2; clear hd2
  obtain ⟨a2_26, _, rfl, w2_26, hc2⟩ := flat_int hc2
  obtain ⟨a2_27, _, rfl, w2_27, hc2⟩ := flat_int hc2
  obtain ⟨a2_28, _, rfl, w2_28, hc2⟩ := flat_int hc2
  obtain ⟨a2_29, _, rfl, w2_29, hc2⟩ := flat_int hc2
  obtain ⟨a2_30, _, rfl, w2_30, hc2⟩ := flat_int hc2
  obtain ⟨a2_31, _, rfl, w2_31, hc2⟩ := flat_int hc2
  obtain ⟨a2_32, _, rfl, w2_32, hc2⟩ := flat_int hc2
  obtain ⟨a2_33, _, rfl, w2_33, hc2⟩ := flat_int hc2
  obtain ⟨a2_34, _, rfl, w2_34, hc2⟩ := flat_int hc2
  obtain ⟨a2_35, _, rfl, w2_35, hc2⟩ := flat_int hc2
  obtain ⟨a2_36, _, rfl, w2_36, hc2⟩ := flat_int hc2
  obtain ⟨a2_37, _, rfl, w2_37, hc2⟩ := flat_int hc2
  obtain ⟨a2_38, _, rfl, w2_38, hc2⟩ := flat_int hc2
  obtain ⟨a2_39, _, rfl, w2_39, hc2⟩ := flat_int hc2
  obtain ⟨a2_40, _, e2, hd2⟩ := flat_bool hc2
  clear hc2; subst e2; have hc2 := hd2; clear hd2
  obtain rfl := flat_nil hc2
  clear hA0 hval0
  refine (walk a0_0 a0_1 a0_2 a0_3 a0_4 a0_5 a1_0 a1_1 a1_2 a1_3 a1_4 a2_0 a2_1 a2_2 a2_3 a2_4 a2_5 a2_6 a2_7 a2_8 a2_9 a2_10 a2_11 a2_12 a2_13 a2_14 a2_15 a2_16 a2_17 a2_18 a2_19 a2_20 a2_21 a2_22 a2_23 a2_24 a2_25 a2_26 a2_27 a2_28 a2_29 a2_30 a2_31 a2_32 a2_33 a2_34 a2_35 a2_36 a2_37 a2_38 a2_39 a2_40 w0_0 w0_1 w0_2 w0_3 w0_4 w0_5 w1_0 w1_1 w1_2 w1_3 w1_4 w2_0 w2_1 w2_2 w2_3 w2_4 w2_5 w2_6 w2_7 w2_8 w2_9 w2_10 w2_11 w2_12 w2_13 w2_14 w2_15 w2_16 w2_17 w2_18 w2_19 w2_20 w2_21 w2_22 w2_23 w2_24 w2_26 w2_27 w2_28 w2_29 w2_30 w2_31 w2_32 w2_33 w2_34 w2_35 w2_36 w2_37 w2_38 w2_39 W).mono fun e W' ⟨he, hg⟩ => ?_
  subst he
  exact ⟨_, rfl, ends_below (qv := []) hW' hg rfl (fun _ _ _ => (trodAll_cons_mk (shut_bool Try.underlying4 _) trodAll_mk0))
    (fun z hz => hst W' z hg hz) (fun _ _ => rfl)
    (ok_one (by kernel_rfl) rfl (okWide_bool_mk Try.underlying4 _))⟩

theorem over : Rows.fragStaysRow.holds Try.pinned (OpenSpec.ofChange Rows.fragStaysSpec) :=
  OpenClaim.holds_of_wide 11 Try.f11 rfl rfl rfl rfl rfl rfl rfl ⟨rfl, rfl, rfl, rfl, rfl⟩ rfl rfl rfl rfl rfl (by kernel_rfl) Try.func11 (by kernel_rfl)
    (of_decide_eq_true (by kernel_rfl)) (by unfold Func.isWrapper; first | (rw [if_pos (by decide +kernel)]; kernel_rfl) | (rw [if_neg (by decide +kernel)]; exact ⟨rfl, rfl⟩))
    (fun os started H enc _ => lifted os started H enc)

theorem proved : Rows.FragStaysSaid := over
end Go.Proofs.Ytfkmhhbpomkakaa.FragStays
