/- From a run that leaves the old blocks alone to a row's own ending. -/
import Derived.Test.YtjfodgjgpeiaaaaDt15
import Derived.ChangeSame
import Derived.Carry
import Derived.WalkKit
import Derived.ProofKit
import Derived.OpenShut
namespace Go.Dt
open Go.RowKit Go.WideShapes Go.ChangeShapes Go.ChangeAt

theorem i64_bounds {n : Int} (h : (Lit.int .i64 n).wf = true) : -9223372036854775808 ≤ n ∧ n ≤ 9223372036854775807 := by
  simp only [Lit.wf, Bool.and_eq_true, decide_eq_true_eq] at h
  exact h
theorem u64_bounds {n : Int} (h : (Lit.int .u64 n).wf = true) : 0 ≤ n ∧ n ≤ 18446744073709551615 := by
  simp only [Lit.wf, Bool.and_eq_true, decide_eq_true_eq] at h
  exact h

/-- The ending of a row whose call changed nothing that was there: the results, the arguments as they read behind the call, the variables. -/
theorem ends_below {H : Type} {enc : TypeId × Value → H} {P : Program} {fn : Func} {sp : ChangeSpec} {ap fr ho ag : Bool} {W W' : World} {xs : Array Value} {r : Value} {ds gs : List (DataW H)} {pl qa qv : List MemPlace}
    (hw : DataW.Whole enc P fn.params.toList sp.vars ap W xs.toList ds gs pl) (hbl : Below W.heap.size W W') (hpl : pl = qa ++ qv)
    (hr : ∀ (b : Nat) (z : Nat → Bool) (hd : Bool), DataW.TrodAll enc P W' b z hd fn.resultTypes.toList (r.resultList fn.resultTypes.size) (sp.fn H (ds ++ gs)).results [])
    (ha : ∀ z : Nat → Bool, (∀ p ∈ pl, z p.block = true) → DataW.TrodAll enc P W' 0 z true fn.params.toList xs.toList (sp.fn H (ds ++ gs)).args qa)
    (hv : ∀ z : Nat → Bool, (∀ p ∈ pl, z p.block = true) → DataW.TrodVars enc P W' z sp.vars (sp.fn H (ds ++ gs)).vars qv)
    (hok : ∀ (j : Nat) (t : TypeId) (u : Value), fn.resultTypes[j]? = some t → (r.resultList fn.resultTypes.size)[j]? = some u → Value.okWide P W' .any 0 t u) :
    sp.post enc P fn ap fr ho ag W xs r W' := by
  have inW : ∀ p ∈ pl, (decide (p.block < W.heap.size)) = true := fun p hp => decide_eq_true (hw.lt p hp)
  have kept := hbl.frame (· ∈ pl)
  have whole := hw
  obtain ⟨_, _, _, _, _, hz, hn⟩ := whole
  have mem : ∀ p, p ∈ ([] ++ qa) ++ qv → p ∈ pl := fun p hp => by rw [hpl]; simpa using hp
  refine ⟨ds, gs, pl, [], qa, qv, hw, hr _ _ _, ha _ inW, hv _ inW, World.keptBut_mono (fun p hp => ⟨hp, ?_⟩) kept, fun _ => ⟨hok, _, _, _, ⟨[] ++ qa, qv, trodAll_append (ha _ fun _ _ => rfl) (hr _ _ _), hv _ fun _ _ => rfl, rfl, ?_, ?_⟩, ?_⟩⟩
  · rw [hpl] at hp
    exact .inr (List.mem_append.1 hp)
  · intro b off hp
    have hlt : (⟨b, off, none⟩ : Addr).block < W.heap.size := hw.lt _ (mem _ hp)
    rw [hbl.frozen hlt]
    exact hz b off (mem _ hp)
  · intro h
    have := hn h
    rw [hpl] at this
    simpa using this
  · exact fun p hp _ => mem p hp

end Go.Dt
