/- Several texts in one: Dt51, Dt52, Dt53. -/
import Derived.Test.YtllcomjnmkcdpaaDoorQE19
import Derived.RangeFuncCalls
import Derived.RangeFuncLeaves
import Derived.RangeFuncRecord
import Derived.RangeFuncIn
import Derived.OrdersIn
namespace Go.Dt

section
set_option linter.unusedVariables false
set_option linter.unusedSimpArgs false

/-- The wide fence, of a frame of a round or of none. -/
abbrev Fw (r : Option Nat) : Fence := { Fence.wide with round := r }
def actD (ds : List Deferred) (t : Array Value) : Act := ⟨t, ds⟩

/-- A word on the world that no step on blocks of one's own breaks. -/
def Keeps (J : Map → World → Prop) : Prop := ∀ ι C w ι' C' w', Sim ι C w → Ext ι C w ι' C' w' → J ι w → J ι' w'

def Drawn (J : Map → World → Prop) : Prop := ∀ ι w n, J ι w → J ι { w with drawn := n }
/-- The same, and: of the first blocks, none has come that was not there. -/
def JN (J : Map → World → Prop) (ι0 : Map) (n : Nat) : Map → World → Prop := fun ι w => J ι w ∧ ∀ b, b < n → ι0 b = none → ι b = none
theorem JN.drawn {J : Map → World → Prop} (h : Drawn J) (ι0 : Map) (n : Nat) : Drawn (JN J ι0 n) := fun ι w k hj => ⟨h ι w k hj.1, hj.2⟩

structure OpOkJ (P : Program) (J : Map → World → Prop) (o : Oper) (a : List Value) (m : List Blk) (v : Value) (m' : List Blk) (fp : Fp) : Prop where
  len : m.length ≤ m'.length
  sub : ∀ b, b ∈ fp.wr → b ∈ fp.rd
  rdlt : ∀ b, b ∈ fp.rd → b < m.length
  same : ∀ b, b < m.length → b ∉ fp.wr → m'.getD b .gone = m.getD b .gone
  run : ∀ (ι : Map) (t : Array Value) (ds : List Deferred) (w : World), (∀ x, x ∈ slotsOf o → RV ι (a.getD x undef) (t.getD x undef)) →
    (∀ b, m.length ≤ b → b < m'.length → ι b = none) → Sim ι ((at_ m).only (isIn fp.rd)) w → J ι w →
    ∀ (r : Option Nat) (next : Act → World → Prop) (Q : Exit → Act → World → Prop),
      (∀ v' w1 ι', RV ι' v v' → Ext ι ((at_ m).only (isIn fp.rd)) w ι' ((at_ m').only (tch fp.rd m.length m'.length)) w1 →
        Sim ι' ((at_ m').only (tch fp.rd m.length m'.length)) w1 → (∀ b, ι b = none → ι' b ≠ none → m.length ≤ b ∧ b < m'.length) → J ι' w1 → next ((actD ds t).put o.dst v') w1) →
      o.wpIn (Fw r) 0 P (actD ds t) w next Q

theorem rowsIn_w {P : Program} {row : String} {args : Array Value} {w : World} {R : Value → World → Prop} (r : Option Nat) (h : _root_.Go.Rows P row args w R) : RowsIn (Fw r) 0 P row args w R :=
  fun c cs _ => let ⟨v, w', h1, h2⟩ := h c cs; ⟨v, w', h1, stepsIn_wide.2 h2⟩

theorem eval_actD (t : Array Value) (ds : List Deferred) : (actD ds t).eval = (act t).eval := by
  funext x; cases x <;> rfl

/-- What is so everywhere is so in a round, whatever calls have been put off. -/
theorem wpIn_of_wp {P : Program} {o : Oper} {t : Array Value} {ds : List Deferred} {w : World} {r : Option Nat} {next : Act → World → Prop} {Q : Exit → Act → World → Prop}
    (h : o.wp P (act t) w (fun a' w' => a'.defers = [] ∧ next ⟨a'.tmps, ds⟩ w') (fun _ _ _ => False)) : o.wpIn (Fw r) 0 P (actD ds t) w next Q := by
  refine ⟨fun _ _ => trivial, ?_⟩
  unfold Oper.wp at h
  rw [eval_actD]
  have hput : ∀ v : Value, (⟨((act t).put o.dst v).tmps, ds⟩ : Act) = (actD ds t).put o.dst v := fun v => by cases o.dst <;> rfl
  by_cases hd : ∃ c, o.op = .defer c
  · exfalso
    obtain ⟨c, hc⟩ := hd
    have hx : ∃ d : Sem Deferred, execOp (act t).eval o = (do let x ← d; pure (.defer x)) := by
      unfold execOp; rw [hc]; exact ⟨_, rfl⟩
    obtain ⟨d, hx⟩ := hx
    rw [hx, Sem.run_bind] at h
    cases hr : d.run P w with
    | ok x w' =>
      rw [hr] at h
      simp only [Result.andThen_ok, Sem.run_pure, Oper.upon] at h
      have := h.1
      cases hdst : o.dst <;> simp [Act.put, hdst] at this
    | halt x w' =>
      rw [hr] at h
      cases x <;> exact h
  · rw [Oper.semAt_eq _ _ _ (fun c hc => hd ⟨c, hc⟩)]
    generalize (execOp (act t).eval o).run P w = res at h
    cases res with
    | ok x w' =>
      cases x with
      | value v =>
        show next ((actD ds t).put o.dst v) w'
        rw [← hput]; exact h.2
      | skip =>
        show next ((actD ds t).put o.dst undef) w'
        rw [← hput]; exact h.2
      | defer d =>
        exfalso
        have := h.1
        cases hdst : o.dst <;> simp [Act.put, hdst] at this
      | enter f args =>
        refine And.intro (fun h => by simp [Fence.wide] at h) ?_
        refine (callsIn_wide (n := 0 - 1)).2 (Calls.mono h fun e w'' he => ?_)
        cases e with
        | returned v =>
          show next ((actD ds t).put o.dst v) w''
          rw [← hput]; exact he.2
        | panicked chain => exact he.elim
        | outgrown => obtain ⟨_, _, hq⟩ := he; exact hq.elim
      | row row args =>
        refine And.intro (fun h => by simp [Fence.wide] at h) ?_
        exact rowsIn_w r (_root_.Go.Rows.mono h fun v w'' hv => by
          show next ((actD ds t).put o.dst v) w''
          rw [← hput]; exact hv.2)
      | _ => exact h.elim
    | halt x w' => cases x <;> exact h.elim

section
variable {P : Program} {J : Map → World → Prop}
theorem OpOk.toJ {o : Oper} {a : List Value} {m m' : List Blk} {v : Value} {fp : Fp} (hK : Keeps J) (ι0 : Map) (n : Nat) (hn0 : n ≤ m.length) (h : OpOk P o a m v m' fp) : OpOkJ P (JN J ι0 n) o a m v m' fp where
  len := h.len
  sub := h.sub
  rdlt := h.rdlt
  same := h.same
  run := fun ι t ds w hs hdom hsim hj r next Q hn => wpIn_of_wp (h.run ι t w hs hdom hsim _ _ (fun v' w1 ι' h1 h2 h3 h4 => by
    have hput : (⟨((act t).put o.dst v').tmps, ds⟩ : Act) = (actD ds t).put o.dst v' := by cases o.dst <;> rfl
    refine ⟨by cases o.dst <;> rfl, ?_⟩
    rw [hput]
    refine hn v' w1 ι' h1 h2 h3 h4 ⟨hK _ _ _ _ _ _ hsim h2 hj.1, fun b hb h0 => ?_⟩
    cases hx : ι' b with
    | none => rfl
    | some L => have := h4 b (hj.2 b hb h0) (by rw [hx]; simp); omega))

/-- One step of a region: operation i. -/
inductive StepJ (P : Program) (J : Map → World → Prop) (ops : Array Oper) (i : Nat) (a : List Value) (m : List Blk) : List Value → List Blk → Fp → Prop
  | skip {o : Oper} (ho : ops[i]? = some o) (hw : wantedC ops o a = some false) : StepJ P J ops i a m (put a o.dst (.chan none)) m ⟨[], []⟩
  | op {o : Oper} {v : Value} {m' : List Blk} {fp : Fp} (ho : ops[i]? = some o) (hw : wantedC ops o a = some true) (h : OpOkJ P J o a m v m' fp) :
      StepJ P J ops i a m (put a o.dst v) m' fp
end

section
variable {P : Program} {ops : Array Oper} {A : Nat → List Value} {M : Nat → List Blk} {F : Nat → Fp} {J : Map → World → Prop} {r : Option Nat} {ds : List Deferred}

theorem step_factsJ {i : Nat} (h : StepJ P J ops i (A i) (M i) (A (i + 1)) (M (i + 1)) (F i)) :
    (M i).length ≤ (M (i + 1)).length ∧ (∀ b, b ∈ (F i).wr → b ∈ (F i).rd) ∧ (∀ b, b ∈ (F i).rd → b < (M i).length) ∧
    (∀ b, b < (M i).length → b ∉ (F i).wr → (M (i + 1)).getD b .gone = (M i).getD b .gone) ∧ (A (i + 1)).length = (A i).length ∧
    ∀ x, dstOf ops i ≠ some x → (A (i + 1)).getD x undef = (A i).getD x undef := by
  generalize hA : A (i + 1) = A' at *
  generalize hM : M (i + 1) = M' at *
  generalize hF : F i = F' at *
  cases h with
  | skip ho hw =>
    refine ⟨Nat.le_refl _, by simp, by simp, fun _ _ _ => rfl, length_put _ _ _, fun x hx => getD_put ?_⟩
    simpa [dstOf, ho] using hx
  | op ho hw h =>
    refine ⟨h.len, h.sub, h.rdlt, h.same, length_put _ _ _, fun x hx => getD_put ?_⟩
    simpa [dstOf, ho] using hx

theorem inv_stepJ {ι0 : Map} {w0 : World} {S : Nat → Bool} {ι : Map} {t : Array Value} {w : World} {i : Nat} (hall : ∀ k, k < ops.size → StepJ P J ops k (A k) (M k) (A (k + 1)) (M (k + 1)) (F k))
    (hi : i < ops.size) (hS : S i = false) (hf : Fits ops M F S i) (hK : Drawn J) (hj : J ι w) (hinv : Inv ops A M F ι0 w0 S ι t w) (next : Act → World → Prop) (Q : Exit → Act → World → Prop)
    (hn : ∀ t' w' ι', Inv ops A M F ι0 w0 (ins S i) ι' t' w' → J ι' w' → next (actD ds t') w') : wpOpIn (Fw r) 0 P ops Q i next (actD ds t) w := by
  have lenM : ∀ k, k ≤ ops.size → ∀ j, j ≤ k → (M j).length ≤ (M k).length := by
    intro k
    induction k with
    | zero => intro _ j hj; rw [Nat.le_zero.1 hj]; exact Nat.le_refl _
    | succ k ih =>
      intro hk j hj
      rcases Nat.eq_or_lt_of_le hj with e | hlt
      · rw [e]; exact Nat.le_refl _
      · exact Nat.le_trans (ih (by omega) j (by omega)) (step_factsJ (hall k (by omega))).1
  have lenA : ∀ k, k ≤ ops.size → (A k).length = (A 0).length := by
    intro k
    induction k with
    | zero => intro _; rfl
    | succ k ih => intro hk; rw [(step_factsJ (hall k (by omega))).2.2.2.2.1]; exact ih (by omega)
  have stS : ∀ x k, k < ops.size → wrS ops x k = false → (A (k + 1)).getD x undef = (A k).getD x undef := fun x k hk hw =>
    (step_factsJ (hall k hk)).2.2.2.2.2 x (by simpa [wrS] using hw)
  have stB : ∀ b k, k < ops.size → wrB M F b k = false → (M (k + 1)).getD b .gone = (M k).getD b .gone := fun b k hk hw => by
    simp only [wrB, Bool.or_eq_false_iff, Bool.and_eq_false_iff, decide_eq_false_iff_not] at hw
    obtain ⟨hw1, hw2⟩ := hw
    by_cases hb : b < (M k).length
    · exact (step_factsJ (hall k hk)).2.2.2.1 b hb (by simpa using hw1)
    · have h2 : ¬ b < (M (k + 1)).length := by omega
      simp [List.getD_eq_getElem?_getD, List.getElem?_eq_none (Nat.le_of_not_lt hb), List.getElem?_eq_none (Nat.le_of_not_lt h2)]
  have slotNow : ∀ x, (x ∈ rdS ops i ∨ dstOf ops i = some x) → slotAt ops A S x = (A i).getD x undef := fun x hx => by
    unfold slotAt
    rw [cur_read (Nat.le_of_lt hi) (hf.slot x hx).1 (fun k h1 h2 hw => by
      rcases Nat.eq_or_lt_of_le h1 with e | h1
      · rw [← e]; exact hS
      · exact (hf.slot x hx).2 k h1 h2 hw)]
    exact cur_state (X := fun k => (A k).getD x undef) i (fun k hk hw => stS x k (by omega) hw)
  have blockNow : ∀ b, (b ∈ (F i).rd ∨ ((M i).length ≤ b ∧ b < (M (i + 1)).length)) → contAt ops M F S b = (M i).getD b .gone := fun b hb => by
    unfold contAt
    rw [cur_read (Nat.le_of_lt hi) (hf.block b hb).1 (fun k h1 h2 hw => by
      rcases Nat.eq_or_lt_of_le h1 with e | h1
      · rw [← e]; exact hS
      · exact (hf.block b hb).2 k h1 h2 hw)]
    exact cur_state (X := fun k => (M k).getD b .gone) i (fun k hk hw => stB b k (by omega) hw)
  have slotThen : ∀ x, slotAt ops A (ins S i) x = if wrS ops x i then (A (i + 1)).getD x undef else slotAt ops A S x := fun x => by
    unfold slotAt
    cases hw : wrS ops x i with
    | true => simp only [if_true]; rw [cur_ins_self hi hw ((hf.slot x (.inr (by simpa [wrS] using hw))).2)]
    | false => simp only [Bool.false_eq_true, if_false]; rw [cur_ins_other hw]
  have facts := step_factsJ (hall i hi)
  have blockThen : ∀ b, contAt ops M F (ins S i) b = if wrB M F b i then (M (i + 1)).getD b .gone else contAt ops M F S b := fun b => by
    unfold contAt
    cases hw : wrB M F b i with
    | true =>
      simp only [if_true]
      rw [cur_ins_self hi hw ((hf.block b ?_).2)]
      simp only [wrB, Bool.or_eq_true, Bool.and_eq_true, decide_eq_true_eq, List.contains_eq_mem] at hw
      exact hw.imp (facts.2.1 b) id
    | false => simp only [Bool.false_eq_true, if_false]; rw [cur_ins_other hw]
  have lenAt : ∀ k, k ≤ ops.size → (A k).length ≤ t.size := fun k hk => by rw [lenA k hk]; exact hinv.size
  have domLt : ∀ b, ι b ≠ none → b < (M i).length ∨ (M (i + 1)).length ≤ b := fun b hb => by
    rcases hinv.dom b hb with h | ⟨k, hk, hSk, h1, h2⟩
    · exact .inl (Nat.lt_of_lt_of_le h (lenM i (by omega) 0 (by omega)))
    · have hne : k ≠ i := fun e => by rw [e, hS] at hSk; cases hSk
      rcases Nat.lt_or_gt_of_ne hne with h | h
      · exact .inl (Nat.lt_of_lt_of_le h2 (lenM i (by omega) (k + 1) (by omega)))
      · exact .inr (Nat.le_trans (lenM k (by omega) (i + 1) (by omega)) h1)
  -- what is left to show of the invariant behind the step
  have close : ∀ (t' : Array Value) (w' : World) (ι' : Map), t'.size = t.size → (∀ x, RV ι' (slotAt ops A (ins S i) x) (t'.getD x undef)) → Sim ι' (contAt ops M F (ins S i)) w' →
      (∀ b, ι b = none → ι' b ≠ none → (M i).length ≤ b ∧ b < (M (i + 1)).length) → Ext ι (contAt ops M F S) w ι' (contAt ops M F (ins S i)) w' → J ι' w' → next (actD ds t') w' := fun t' w' ι' h1 h2 h3 h4 h5 h6 => by
    refine hn t' w' ι' ⟨by rw [h1]; exact hinv.size, h2, h3, fun b hb => ?_, hinv.ext.trans h5⟩ h6
    cases hb0 : ι b with
    | none => exact .inr ⟨i, hi, by simp [ins], h4 b hb0 hb⟩
    | some L => exact (hinv.dom b (by simp [hb0])).imp id (fun ⟨k, hk, hSk, h⟩ => ⟨k, hk, by simp [ins, hSk], h⟩)
  have hstep := hall i hi
  unfold wpOpIn
  cases hstep' : ops[i]? with
  | none => exact absurd hstep' (by simp [hi])
  | some o =>
    simp only []
    have hd : dstOf ops i = o.dst := by simp [dstOf, hstep']
    have hwi : ∀ x, wrS ops x i = (o.dst == some x) := fun x => by simp [wrS, hd]
    have hrd : rdS ops i = slotsOf o ++ (guardSlot ops o).toList := by simp [rdS, hstep']
    have rvNow : ∀ x, x ∈ rdS ops i → RV ι ((A i).getD x undef) (t.getD x undef) := fun x hx => by rw [← slotNow x (.inl hx)]; exact hinv.slots x
    have guardOk : ∀ x, guardSlot ops o = some x → RV ι ((A i).getD x undef) (t.getD x undef) := fun x hx => rvNow x (by rw [hrd]; simp [hx])
    have newSlots : ∀ (v v' : Value) (ι' : Map), A (i + 1) = put (A i) o.dst v → Le ι ι' → RV ι' v v' → ∀ x, RV ι' (slotAt ops A (ins S i) x) (((actD ds t).put o.dst v').tmps.getD x undef) := fun v v' ι' hA hle hv x => by
      rw [slotThen x, hwi]
      by_cases hx : o.dst = some x
      · simp only [hx, beq_self_eq_true, if_true]
        rw [hA, hx]
        exact rv_put (lenAt i (by omega)) hv x ((by rw [← slotNow x (.inr (by rw [hd, hx]))]; exact (hinv.slots x).mono hle))
      · have : (o.dst == some x) = false := by simpa using hx
        simp only [this, Bool.false_eq_true, if_false]
        have h2 : ((actD ds t).put o.dst v').tmps.getD x undef = t.getD x undef := by
          cases hdd : o.dst with
          | none => rfl
          | some d =>
            have : d ≠ x := fun e => hx (by rw [hdd, e])
            simp [Act.put, actD, Array.getElem?_setIfInBounds_ne this]
        rw [h2]
        exact (hinv.slots x).mono hle
    have putSize : ∀ v', ((actD ds t).put o.dst v').tmps.size = t.size := fun v' => by cases o.dst <;> simp [Act.put, actD]
    have putAct : ∀ v', (actD ds t).put o.dst v' = actD ds ((actD ds t).put o.dst v').tmps := fun v' => by cases o.dst <;> rfl
    generalize hA' : A (i + 1) = A' at *
    generalize hM' : M (i + 1) = M' at *
    generalize hF' : F i = F' at *
    cases hstep with
    | skip ho hw =>
      rw [hstep'] at ho; cases ho
      have hwant : Region.wanted o (yielded ops (actD ds t).tmps) = false := wanted_of hw guardOk
      rw [if_neg (by rw [hwant]; exact Bool.false_ne_true)]
      refine ⟨fun _ _ => trivial, ?_⟩
      rw [putAct]
      have hcont : contAt ops M F (ins S i) = contAt ops M F S := by
        funext b
        rw [blockThen b]
        have : wrB M F b i = false := by
          simp only [wrB, hF', hM', List.contains_nil, Bool.false_or, Bool.and_eq_false_iff, decide_eq_false_iff_not]
          omega
        simp [this]
      refine close _ w ι (putSize _) (newSlots (.chan none) undef ι rfl (Le.refl _) .skip) (by rw [hcont]; exact hinv.sim) (fun b h1 h2 => absurd h1 h2) (by rw [hcont]; exact Ext.refl _ _ _) hj
    | op ho hw hop =>
      rename_i o2 v
      rw [hstep'] at ho; cases ho
      have hwant : Region.wanted o (yielded ops (actD ds t).tmps) = true := wanted_of hw guardOk
      rw [if_pos hwant]
      have hCin : (contAt ops M F S).only (isIn F'.rd) = (at_ (M i)).only (isIn F'.rd) := by
        funext b
        unfold Cont.only isIn
        split
        · rename_i hb
          exact blockNow b (.inl (by simpa using hb))
        · rfl
      refine hop.run ι t ds w (fun x hx => rvNow x (by rw [hrd]; exact List.mem_append_left _ hx)) (fun b h1 h2 => ?_) (by rw [← hCin]; exact hinv.sim.only _) hj r next Q ?_
      · cases hb : ι b with
        | none => rfl
        | some L => have := domLt b (by simp [hb]); omega
      · intro v' w1 ι' hv hext hsim hdom hj1
        have hfr := Sim.frame (C := contAt ops M F S) (C' := at_ M') (D := contAt ops M F (ins S i)) (R := isIn F'.rd) (T := tch F'.rd (M i).length M'.length) hinv.sim
          (fun b hb => by simp only [isIn] at hb; unfold tch; rw [hb]; rfl) (by rw [hCin]; exact hext) hsim (fun b => by
            rw [blockThen b]
            cases hT : tch F'.rd (M i).length M'.length b with
            | true =>
              simp only [if_true]
              cases hwb : wrB M F b i with
              | true => simp [at_]
              | false =>
                simp only [Bool.false_eq_true, if_false]
                have hbr : b ∈ F'.rd := by
                  simp only [tch, Bool.or_eq_true, Bool.and_eq_true, decide_eq_true_eq, List.contains_eq_mem] at hT
                  simp only [wrB, hF', hM', Bool.or_eq_false_iff, Bool.and_eq_false_iff, decide_eq_false_iff_not] at hwb
                  rcases hT with h | h
                  · exact h
                  · have := hwb.2; omega
                rw [blockNow b (.inl hbr)]
                have := stB b i hi hwb
                rw [hM'] at this
                exact this.symm
            | false =>
              simp only [Bool.false_eq_true, if_false]
              have : wrB M F b i = false := by
                cases hwb : wrB M F b i with
                | false => rfl
                | true =>
                  simp only [wrB, hF', hM', Bool.or_eq_true, Bool.and_eq_true, decide_eq_true_eq, List.contains_eq_mem] at hwb
                  simp only [tch, Bool.or_eq_false_iff, Bool.and_eq_false_iff, decide_eq_false_iff_not, List.contains_eq_mem] at hT
                  rcases hwb with h | h
                  · exact absurd (hop.sub b h) hT.1
                  · omega
              simp [this])
        rw [putAct]
        exact close _ w1 ι' (putSize _) (newSlots v v' ι' rfl hext.le hv) hfr.1 (fun b h1 h2 => by have := hdom b h1 h2; omega) hfr.2 hj1

/-- The end: all of it has been. -/
theorem inv_endJ {ι0 ι : Map} {w0 w : World} {t : Array Value} {S : Nat → Bool} (hall : ∀ k, k < ops.size → StepJ P J ops k (A k) (M k) (A (k + 1)) (M (k + 1)) (F k))
    (hS : ∀ k, k < ops.size → S k = true) (h : Inv ops A M F ι0 w0 S ι t w) :
    (A 0).length ≤ t.size ∧ (∀ x, RV ι ((A ops.size).getD x undef) (t.getD x undef)) ∧ Sim ι (at_ (M ops.size)) w ∧ (∀ b, ι b ≠ none → b < (M ops.size).length) ∧ Ext ι0 (at_ (M 0)) w0 ι (at_ (M ops.size)) w := by
  have lenM : ∀ k, k ≤ ops.size → ∀ j, j ≤ k → (M j).length ≤ (M k).length := by
    intro k
    induction k with
    | zero => intro _ j hj; rw [Nat.le_zero.1 hj]; exact Nat.le_refl _
    | succ k ih =>
      intro hk j hj
      rcases Nat.eq_or_lt_of_le hj with e | hlt
      · rw [e]; exact Nat.le_refl _
      · exact Nat.le_trans (ih (by omega) j (by omega)) (step_factsJ (hall k (by omega))).1
  have hc : contAt ops M F S = at_ (M ops.size) := by
    funext b
    unfold contAt
    rw [cur_congr_wr (S' := fun _ => true) _ hS]
    exact cur_state (X := fun k => (M k).getD b .gone) ops.size (fun k hk hw => by
      simp only [wrB, Bool.or_eq_false_iff, Bool.and_eq_false_iff, decide_eq_false_iff_not] at hw
      obtain ⟨hw1, hw2⟩ := hw
      by_cases hb : b < (M k).length
      · exact (step_factsJ (hall k hk)).2.2.2.1 b hb (by simpa using hw1)
      · have h2 : ¬ b < (M (k + 1)).length := by omega
        simp [List.getD_eq_getElem?_getD, List.getElem?_eq_none (Nat.le_of_not_lt hb), List.getElem?_eq_none (Nat.le_of_not_lt h2)])
  have hs : ∀ x, slotAt ops A S x = (A ops.size).getD x undef := fun x => by
    unfold slotAt
    rw [cur_congr_wr (S' := fun _ => true) _ hS]
    exact cur_state (X := fun k => (A k).getD x undef) ops.size (fun k hk hw => (step_factsJ (hall k hk)).2.2.2.2.2 x (by simpa [wrS] using hw))
  refine ⟨h.size, fun x => by rw [← hs x]; exact h.slots x, by rw [← hc]; exact h.sim, fun b hb => ?_, by rw [← hc]; exact h.ext⟩
  rcases h.dom b hb with h | ⟨k, hk, _, _, h2⟩
  · exact Nat.lt_of_lt_of_le h (lenM _ (Nat.le_refl _) 0 (Nat.zero_le _))
  · exact Nat.lt_of_lt_of_le h2 (lenM _ (Nat.le_refl _) (k + 1) hk)

/-- A region that is carried out in the order of its text. -/
theorem region_seqJ {ι : Map} {t : Array Value} {w : World} {Q : Exit → Act → World → Prop} (hK : Drawn J) (hall : ∀ k, k < ops.size → StepJ P J ops k (A k) (M k) (A (k + 1)) (M (k + 1)) (F k))
    (hl : (A 0).length ≤ t.size) (hs : ∀ x, RV ι ((A 0).getD x undef) (t.getD x undef)) (hm : Sim ι (at_ (M 0)) w) (hd : ∀ b, ι b ≠ none → b < (M 0).length) (hj : J ι w)
    (hQ : ∀ t' w' ι', (A 0).length ≤ t'.size → (∀ x, RV ι' ((A ops.size).getD x undef) (t'.getD x undef)) → Sim ι' (at_ (M ops.size)) w' → (∀ b, ι' b ≠ none → b < (M ops.size).length) →
      Ext ι (at_ (M 0)) w ι' (at_ (M ops.size)) w' → J ι' w' → Q .normal (actD ds t') w') : wpOpsIn (Fw r) 0 P ops Q (List.range ops.size) (actD ds t) w := by
  have key : ∀ d i, d + i = ops.size → ∀ ι' t' w', Inv ops A M F ι w (fun k => decide (k < i)) ι' t' w' → J ι' w' → wpOpsIn (Fw r) 0 P ops Q (List.range' i d) (actD ds t') w' := by
    intro d
    induction d with
    | zero =>
      intro i hi ι' t' w' hinv hj'
      obtain ⟨h1, h2, h3, h4, h5⟩ := inv_endJ hall (fun k hk => by simp; omega) hinv
      exact hQ t' w' ι' h1 h2 h3 h4 h5 hj'
    | succ d ih =>
      intro i hi ι' t' w' hinv hj'
      rw [List.range'_succ, wpOpsIn_cons]
      refine inv_stepJ hall (by omega) (by simp) ⟨fun x _ => ⟨fun k hk _ => by simpa using hk, fun k hk _ _ => by simp; omega⟩, fun x _ => ⟨fun k hk _ => by simpa using hk, fun k hk _ _ => by simp; omega⟩⟩ hK hj' hinv _ _ (fun t2 w2 ι2 h2 hj2 => ?_)
      refine ih (i + 1) (by omega) ι2 t2 w2 ?_ hj2
      have : (ins (fun k => decide (k < i)) i) = fun k => decide (k < i + 1) := by
        funext k
        by_cases hk : k < i
        · have : k < i + 1 := by omega
          simp [ins, hk, this]
        · by_cases hk2 : k = i
          · simp [ins, hk2]
          · have : ¬ k < i + 1 := by omega
            simp [ins, hk, hk2, this]
      rwa [this] at h2
  have h0 := inv_start (ops := ops) (A := A) (M := M) (F := F) (n := w.drawn) hl hs hm hd
  have := key ops.size 0 (by omega) ι t w (by
    have e : (fun k => decide (k < 0)) = fun _ : Nat => false := by funext k; simp
    rw [e]; exact h0) hj
  rw [List.range_eq_range']
  exact this

theorem region_drawJ {id : Nat} {ι : Map} {t : Array Value} {w : World} {Q : Exit → Act → World → Prop} (hm : P.follows .mixedOrders = true) (hK : Drawn J) (hall : ∀ k, k < ops.size → StepJ P J ops k (A k) (M k) (A (k + 1)) (M (k + 1)) (F k))
    (hback : ∀ (j : Nat) (o : Oper) (e : Edge), ops[j]? = some o → e ∈ o.after → Region.binds .any e = true → e.on < j)
    (hord : ∀ i j, i < j → j < ops.size → conflict ops M F i j → Bef ops j i)
    (hl : (A 0).length ≤ t.size) (hs : ∀ x, RV ι ((A 0).getD x undef) (t.getD x undef)) (hsim : Sim ι (at_ (M 0)) w) (hd : ∀ b, ι b ≠ none → b < (M 0).length) (hj : J ι w)
    (hQ : ∀ t' w' ι', (A 0).length ≤ t'.size → (∀ x, RV ι' ((A ops.size).getD x undef) (t'.getD x undef)) → Sim ι' (at_ (M ops.size)) w' → (∀ b, ι' b ≠ none → b < (M ops.size).length) →
      Ext ι (at_ (M 0)) w ι' (at_ (M ops.size)) w' → J ι' w' → Q .normal (actD ds t') w') : (Code.region id ops true).wpIn (Fw r) 0 P Q (actD ds t) w := by
  refine wpIn_region_any hm ?_
  -- the listed operations; what is ahead of a listed one is listed
  have key : ∀ fuel (listed : Array Bool), listed.size = ops.size → (∀ j o e, ops[j]? = some o → listed.getD j false = true → e ∈ o.after → Region.binds .any e = true → listed.getD e.on false = true) →
      (List.range ops.size).countP (fun i => !listed.getD i false) ≤ fuel → ∀ ι' t' w', Inv ops A M F ι w (fun k => listed.getD k false) ι' t' w' → J ι' w' → wpAnyIn (Fw r) 0 P .any ops Q fuel listed (actD ds t') w' := by
    have none_left : ∀ (listed : Array Bool), listed.size = ops.size → (∀ j o e, ops[j]? = some o → listed.getD j false = true → e ∈ o.after → Region.binds .any e = true → listed.getD e.on false = true) →
        Region.ready .any ops listed = [] → ∀ k, k < ops.size → listed.getD k false = true := by
      intro listed hsz _ hr k
      induction k using Nat.strongRecOn with
      | _ k ih =>
        intro hk
        cases hlk : listed.getD k false with
        | true => rfl
        | false =>
          have : k ∈ Region.ready .any ops listed := by
            rw [mem_ready]
            refine ⟨?_, ops[k], by simp [hk], fun e he hb => ?_⟩
            · have : k < listed.size := by omega
              simp [this] at hlk ⊢
              exact hlk
            · have hlt := hback k ops[k] e (by simp [hk]) he hb
              exact ih e.on hlt (by omega)
          rw [hr] at this
          cases this
    intro fuel
    induction fuel with
    | zero =>
      intro listed hsz hdc hcnt ι' t' w' hinv hj'
      have hall2 : ∀ k, k < ops.size → listed.getD k false = true := fun k hk => by
        have h0 := Nat.le_zero.1 hcnt
        rw [List.countP_eq_zero] at h0
        have := h0 k (by simpa using hk)
        simpa using this
      refine ⟨?_, ?_⟩
      · cases hr : Region.ready .any ops listed with
        | nil => rfl
        | cons x xs =>
          have hx : x ∈ Region.ready .any ops listed := by rw [hr]; simp
          obtain ⟨h1, o, ho, _⟩ := mem_ready.1 hx
          have hlt : x < ops.size := (Array.getElem?_eq_some_iff.1 ho).1
          have h2 := hall2 x hlt
          have : x < listed.size := by omega
          simp [this] at h1 h2
          rw [h1] at h2; cases h2
      · obtain ⟨h1, h2, h3, h4, h5⟩ := inv_endJ hall hall2 hinv
        exact hQ t' w' ι' h1 h2 h3 h4 h5 hj'
    | succ fuel ih =>
      intro listed hsz hdc hcnt ι' t' w' hinv hj'
      refine ⟨fun hr => ?_, fun i hi => ?_⟩
      · obtain ⟨h1, h2, h3, h4, h5⟩ := inv_endJ hall (none_left listed hsz hdc hr) hinv
        exact hQ t' w' ι' h1 h2 h3 h4 h5 hj'
      · obtain ⟨h1, o, ho, hedges⟩ := mem_ready.1 hi
        have hlt : i < ops.size := (Array.getElem?_eq_some_iff.1 ho).1
        have hlt' : i < listed.size := by omega
        have hun : listed.getD i false = false := by
          simp [hlt'] at h1 ⊢
          exact h1
        -- what is ahead of a listed operation is listed, however far
        have far : ∀ j k, Bef ops j k → listed.getD j false = true → listed.getD k false = true := by
          intro j k hb
          induction hb with
          | edge ho he hb => exact fun hj => hdc _ _ _ ho hj he hb
          | far ho he hb _ ih => exact fun hj => ih (hdc _ _ _ ho hj he hb)
        have mine : ∀ k, Bef ops i k → listed.getD k false = true := by
          intro k hb
          cases hb with
          | edge ho' he hb => rw [ho] at ho'; cases ho'; exact hedges _ he hb
          | far ho' he hb h => rw [ho] at ho'; cases ho'; exact far _ _ h (hedges _ he hb)
        have hfit : Fits ops M F (fun k => listed.getD k false) i := by
          refine ⟨fun x hx => ⟨fun k hk hw => mine k ?_, fun k hk hks hw => ?_⟩, fun b hb => ⟨fun k hk hw => mine k ?_, fun k hk hks hw => ?_⟩⟩
          · exact hord k i hk hlt (.inl ⟨x, by simpa [wrS] using hw, hx⟩)
          · cases hlk : listed.getD k false with
            | false => rfl
            | true =>
              have : Bef ops k i := by
                refine hord i k hk hks ?_
                rcases hx with hx | hx
                · exact .inr (.inl ⟨x, by simpa [wrS] using hw, hx⟩)
                · exact .inl ⟨x, hx, .inr (by simpa [wrS] using hw)⟩
              have := far k i this hlk
              rw [hun] at this; cases this
          · exact hord k i hk hlt (.inr (.inr (.inl ⟨b, hw, hb⟩)))
          · cases hlk : listed.getD k false with
            | false => rfl
            | true =>
              have : Bef ops k i := hord i k hk hks (.inr (.inr (.inr ⟨b, hw, hb⟩)))
              have := far k i this hlk
              rw [hun] at this; cases this
        refine inv_stepJ hall hlt hun hfit hK hj' hinv _ _ (fun t2 w2 ι2 h2 hj2 => ?_)
        have hset : ∀ k, (listed.setIfInBounds i true).getD k false = (listed.getD k false || k == i) := fun k => by
          by_cases hki : i = k
          · subst hki; simp [hlt']
          · have : (k == i) = false := by simpa using fun e => hki e.symm
            rw [this, Bool.or_false]
            simp [Array.getElem?_setIfInBounds_ne hki]
        refine ih (listed.setIfInBounds i true) (by simpa using hsz) (fun j o' e ho' hj he hb => ?_) ?_ ι2 t2 w2 ?_ hj2
        · rw [hset] at hj ⊢
          rw [Bool.or_eq_true] at hj ⊢
          rcases hj with hj | hj
          · exact .inl (hdc j o' e ho' hj he hb)
          · have : j = i := by simpa using hj
            subst this
            rw [ho] at ho'; cases ho'
            exact .inl (hedges e he hb)
        · have hlt2 : (List.range ops.size).countP (fun k => !(listed.setIfInBounds i true).getD k false) < (List.range ops.size).countP (fun k => !listed.getD k false) := by
            refine countP_lt (x := i) (by simpa using hlt) (by rw [hset]; simp) (by rw [hun]; rfl) (fun k _ hk => ?_)
            rw [hset] at hk
            simp only [Bool.not_eq_true', Bool.or_eq_false_iff] at hk
            rw [hk.1]; rfl
          omega
        · have : (ins (fun k => listed.getD k false) i) = fun k => (listed.setIfInBounds i true).getD k false := by
            funext k
            rw [hset]; rfl
          rwa [this] at h2
  refine key ops.size (Array.replicate ops.size false) (by simp) (fun j o e ho hj _ _ => ?_) ?_ ι t _ ?_ (hK _ _ _ hj)
  · simp [Array.getElem?_replicate] at hj
    split at hj <;> simp at hj
  · exact Nat.le_trans List.countP_le_length (by simp)
  · have e : (fun k => (Array.replicate ops.size false).getD k false) = fun _ : Nat => false := by
      funext k
      simp [Array.getElem?_replicate]
      split <;> simp
    rw [e]
    exact inv_start hl hs hsim hd

end

section
variable {P : Program} {ops : Array Oper} {J : Map → World → Prop} {r : Option Nat} {ds : List Deferred}

/-- Operations 0 .. i-1 of a region have been gone through. -/
def RegOkJ (P : Program) (J : Map → World → Prop) (ops : Array Oper) (a0 : List Value) (m0 : List Blk) (i : Nat) (a : List Value) (m : List Blk) (recs : List Rec) : Prop :=
  ∃ (A : Nat → List Value) (M : Nat → List Blk) (F : Nat → Fp), A 0 = a0 ∧ M 0 = m0 ∧ A i = a ∧ M i = m ∧ (∀ k, k < i → StepJ P J ops k (A k) (M k) (A (k + 1)) (M (k + 1)) (F k)) ∧
    recs.length = i ∧ ∀ k, k < i → recs.reverse[k]? = some (rec3 (F k) (M k).length (M (k + 1)).length)

theorem RegOkJ.start (a0 : List Value) (m0 : List Blk) : RegOkJ P J ops a0 m0 0 a0 m0 [] :=
  ⟨fun _ => a0, fun _ => m0, fun _ => ⟨[], []⟩, rfl, rfl, rfl, rfl, fun k hk => by omega, rfl, fun k hk => by omega⟩

theorem RegOkJ.next {a0 a a' : List Value} {m0 m m' : List Blk} {i : Nat} {recs : List Rec} {fp : Fp} (h : RegOkJ P J ops a0 m0 i a m recs) (hs : StepJ P J ops i a m a' m' fp) :
    RegOkJ P J ops a0 m0 (i + 1) a' m' (rec3 fp m.length m'.length :: recs) := by
  obtain ⟨A, M, F, h1, h2, h3, h4, h5, h6, h7⟩ := h
  refine ⟨fun k => if k ≤ i then A k else a', fun k => if k ≤ i then M k else m', fun k => if k < i then F k else fp, by simp [h1], by simp [h2], if_neg (by omega), if_neg (by omega), fun k hk => ?_, by simp [h6], fun k hk => ?_⟩
  · by_cases hki : k < i
    · have e1 : k ≤ i := by omega
      have e2 : k + 1 ≤ i := by omega
      simp only [e1, e2, hki, if_true]
      exact h5 k hki
    · have : k = i := by omega
      subst this
      have e2 : ¬ k + 1 ≤ k := by omega
      simp only [Nat.le_refl, e2, if_true, if_false, Nat.lt_irrefl, h3, h4]
      exact hs
  · by_cases hki : k < i
    · have e1 : k ≤ i := by omega
      have e2 : k + 1 ≤ i := by omega
      simp only [e1, e2, hki, if_true, List.reverse_cons]
      rw [List.getElem?_append_left (by simp; omega)]
      exact h7 k hki
    · have : k = i := by omega
      subst this
      have e2 : ¬ k + 1 ≤ k := by omega
      simp only [Nat.le_refl, e2, if_true, if_false, Nat.lt_irrefl, h4, List.reverse_cons]
      rw [List.getElem?_append_right (by simp [h6])]
      simp [h6]

/-- A REGION, GONE THROUGH: in whatever order. -/
theorem RegOkJ.wp {a0 a : List Value} {m0 m : List Blk} {recs : List Rec} {id : Nat} {draw : Bool} (hm : P.follows .mixedOrders = true) (hK : Drawn J) (h : RegOkJ P J ops a0 m0 ops.size a m recs) (hord : draw = true → ordOk ops recs = true)
    {ι : Map} {t : Array Value} {w : World} (hr : Rel ι a0 m0 t w) (hj : J ι w) {Q : Exit → Act → World → Prop} (hQ : ∀ t' w' ι', Rel ι' a m t' w' → Ext ι (at_ m0) w ι' (at_ m) w' → J ι' w' → Q .normal (actD ds t') w') :
    (Code.region id ops draw).wpIn (Fw r) 0 P Q (actD ds t) w := by
  obtain ⟨A, M, F, rfl, rfl, rfl, rfl, h5, h6, h7⟩ := h
  have lenA : ∀ k, k ≤ ops.size → (A k).length = (A 0).length := by
    intro k
    induction k with
    | zero => intro _; rfl
    | succ k ih => intro hk; rw [(step_factsJ (h5 k (by omega))).2.2.2.2.1]; exact ih (by omega)
  have fin : ∀ t' w' ι', (A 0).length ≤ t'.size → (∀ x, RV ι' ((A ops.size).getD x undef) (t'.getD x undef)) → Sim ι' (at_ (M ops.size)) w' → (∀ b, ι' b ≠ none → b < (M ops.size).length) →
      Ext ι (at_ (M 0)) w ι' (at_ (M ops.size)) w' → J ι' w' → Q .normal (actD ds t') w' := fun t' w' ι' h1 h2 h3 h4 h5 h6 => hQ t' w' ι' ⟨by rw [lenA _ (Nat.le_refl _)]; exact h1, h2, h3, h4⟩ h5 h6
  cases draw with
  | false => exact wpIn_region (region_seqJ hK h5 hr.size hr.slots hr.sim hr.dom hj fin)
  | true =>
    have hord := hord rfl
    simp only [ordOk, Bool.and_eq_true] at hord
    refine region_drawJ hm hK h5 (fun j o e ho he hb => ?_) (fun i j hij hj hc => ?_) hr.size hr.slots hr.sim hr.dom hj fin
    · have := backOk_ok ops.toList 0 j o e hord.1 (by simpa using ho) he hb
      omega
    · have hi : i < ops.size := by omega
      have hmask := masks_ok (ops := ops) ops.toList [] 0 ⟨rfl, fun j i hj => by omega⟩ (fun k => by simp)
      simp only [Array.length_toList, Nat.zero_add] at hmask
      have gi : ∀ k, k < ops.size → (masks [] 0 ops.toList).reverse[k]? = some ((masks [] 0 ops.toList).getD (ops.size - 1 - k) 0) := fun k hk => by
        rw [List.getElem?_reverse (by rw [hmask.1]; exact hk), hmask.1, List.getD_eq_getElem?_getD]
        have : ops.size - 1 - k < (masks [] 0 ops.toList).length := by rw [hmask.1]; omega
        simp [this]
      have ri := rowsOf_get (ops := ops) ops.toList recs.reverse (masks [] 0 ops.toList).reverse i ops[i] _ _ (by simp) (h7 i hi) (gi i hi)
      have rj := rowsOf_get (ops := ops) ops.toList recs.reverse (masks [] 0 ops.toList).reverse j ops[j] _ _ (by simp) (h7 j hj) (gi j hj)
      have := ordGo_ok _ [] 0 rfl hord.2 i j _ _ hij (by simpa using ri) (by simpa using rj) (by omega) (conflict_clash (by simp [hi]) (by simp [hj]) hc)
      exact hmask.2 j i hj this

end

end

section
set_option linter.unusedVariables false
set_option linter.unusedSimpArgs false

section
variable {P : Program} {f : FuncId} {J : Map → World → Prop}

/-- In a frame of whatever kind: from here to there. -/
def GoF (P : Program) (f : FuncId) (J : Map → World → Prop) (todo : List Item) (a : List Value) (m : List Blk) (todo' : List Item) (a' : List Value) (m' : List Blk) : Prop :=
  ∀ (ι : Map) (t : Array Value) (w : World), Rel ι a m t w → J ι w → ∀ (b : Frame) (cs : List Frame) (ds : List Deferred), b.fn = f → b.kind = .normal →
    ∃ t' w' ι', Steps P (lone (b.atR ⟨t, ds⟩ todo) cs w) (lone (b.atR ⟨t', ds⟩ todo') cs w') ∧ Rel ι' a' m' t' w' ∧ J ι' w' ∧ Ext ι (at_ m) w ι' (at_ m') w' ∧
      (∀ b, ι b = none → ι' b ≠ none → m.length ≤ b) ∧ m.length ≤ m'.length

theorem GoF.refl (todo : List Item) (a : List Value) (m : List Blk) : GoF P f J todo a m todo a m := fun ι t w hr hj b cs ds _ _ =>
  ⟨t, w, ι, Steps.refl _ _, hr, hj, Ext.refl _ _ _, fun _ h h' => absurd h h', Nat.le_refl _⟩
theorem GoF.trans {todo todo1 todo2 : List Item} {a a1 a2 : List Value} {m m1 m2 : List Blk} (h : GoF P f J todo a m todo1 a1 m1) (k : GoF P f J todo1 a1 m1 todo2 a2 m2) : GoF P f J todo a m todo2 a2 m2 := fun ι t w hr hj b cs ds hb hk => by
  obtain ⟨t1, w1, ι1, s1, r1, j1, e1, n1, l1⟩ := h ι t w hr hj b cs ds hb hk
  obtain ⟨t2, w2, ι2, s2, r2, j2, e2, n2, l2⟩ := k ι1 t1 w1 r1 j1 b cs ds hb hk
  refine ⟨t2, w2, ι2, Steps.trans s1 s2, r2, j2, e1.trans e2, fun x h0 h1 => ?_, Nat.le_trans l1 l2⟩
  cases hx : ι1 x with
  | none => exact Nat.le_trans l1 (n2 x hx h1)
  | some L => exact n1 x h0 (by rw [hx]; simp)

theorem evalC_boolR {ι : Map} {a : List Value} {m : List Blk} {t : Array Value} {ds : List Deferred} {w : World} (hr : Rel ι a m t w) {c : Operand} {b : Bool} (h : evalC a c = .bool b) : (⟨t, ds⟩ : Act).eval c = .bool b := by
  have : (actD ds t).eval c = (act t).eval c := by rw [eval_actD]
  exact this.trans (evalC_bool hr h)

theorem GoF.ctl {todo todo' : List Item} {a : List Value} {m : List Blk} (hc : ctl a todo = some todo') : GoF P f J todo a m todo' a m := fun ι t w hr hj b cs ds hb hk => by
  refine ⟨t, w, ι, .one ?_, hr, hj, Ext.refl _ _ _, fun _ h h' => absurd h h', Nat.le_refl _⟩
  unfold Dt.ctl at hc
  split at hc
  · cases hc; exact stepR_skip
  · cases hc; exact stepR_label
  · cases hc; exact stepR_inBlock
  · cases hc; exact stepR_seq
  · split at hc
    · rename_i he; cases hc; exact stepR_cond (t := true) (evalC_boolR hr he)
    · rename_i he; cases hc; exact stepR_cond (t := false) (evalC_boolR hr he)
    · cases hc
  · cases hc; exact stepR_block
  · cases hc; exact stepR_loop
  · cases hc; exact stepR_inLoop
  · exact stepR_exit hc
  · cases hc

theorem RegOkJ.len {ops : Array Oper} {a0 a : List Value} {m0 m : List Blk} {i : Nat} {recs : List Rec} (h : RegOkJ P J ops a0 m0 i a m recs) : m0.length ≤ m.length := by
  obtain ⟨A, M, F, rfl, rfl, rfl, rfl, h5, _, _⟩ := h
  have : ∀ k, k ≤ i → (M 0).length ≤ (M k).length := by
    intro k
    induction k with
    | zero => intro _; exact Nat.le_refl _
    | succ k ih => intro hk; exact Nat.le_trans (ih (by omega)) (step_factsJ (h5 k (by omega))).1
  exact this i (Nat.le_refl _)

/-- The same of the canonical machine's states. -/
def GoV (P : Program) (f : FuncId) (J : Map → World → Prop) : VS → List Item → List Value → List Blk → Prop
  | .norm todo a m, todo', a', m' => GoF P f J todo a m todo' a' m'
  | .reg k id ops draw a0 m0 i a m recs, todo', a', m' => (∀ ι0, RegOkJ P (JN J ι0 m0.length) ops a0 m0 i a m recs) → GoF P f J (.code (.region id ops draw) :: k) a0 m0 todo' a' m'

theorem GoF.region {k : List Item} {id : Nat} {ops : Array Oper} {draw : Bool} {a0 a : List Value} {m0 m : List Blk} {recs : List Rec} {todo' : List Item} {a' : List Value} {m' : List Blk} (hm : P.follows .mixedOrders = true) (hD : Drawn J)
    (hreg : ∀ ι0, RegOkJ P (JN J ι0 m0.length) ops a0 m0 ops.size a m recs) (hord : draw = true → ordOk ops recs = true) (h : GoF P f J k a m todo' a' m') : GoF P f J (.code (.region id ops draw) :: k) a0 m0 todo' a' m' := by
  intro ι t w hr hj b cs ds hb hk
  have := RegOkJ.wp (id := id) (r := b.roundOf) (ds := ds) hm (JN.drawn hD ι m0.length) (hreg ι) hord hr ⟨hj, fun b _ h => h⟩ (Q := fun e a' w' => ∃ t' ι', e = .normal ∧ a' = actD ds t' ∧ Rel ι' a m t' w' ∧ Ext ι (at_ m0) w ι' (at_ m) w' ∧ JN J ι m0.length ι' w') (fun t' w' ι' h1 h2 h3 => ⟨t', ι', rfl, rfl, h1, h2, h3⟩)
  obtain ⟨e, a1, w1, ⟨t', ι1, rfl, rfl, hr1, hext, hj1⟩, harr⟩ := this b k cs rfl trivial (fun d hd => by simp [Fence.wide] at hd)
  obtain ⟨t2, w2, ι2, s2, r2, j2, e2, n2, l2⟩ := h ι1 t' w1 hr1 hj1.1 b cs ds hb hk
  have hl := (hreg ι).len
  refine ⟨t2, w2, ι2, Steps.trans (StepsIn.steps harr) s2, r2, j2, hext.trans e2, fun x h0 h1 => ?_, Nat.le_trans hl l2⟩
  rcases Nat.lt_or_ge x m0.length with hx | hx
  · have h3 := hj1.2 x hx h0
    exact Nat.le_trans hl (n2 x h3 h1)
  · exact hx

theorem GoV.step {s s' : VS} {todo' : List Item} {a' : List Value} {m' : List Blk} (hm : P.follows .mixedOrders = true) (hK : Keeps J) (hD : Drawn J) (hs : vstep P s = some s') (h : GoV P f J s' todo' a' m') : GoV P f J s todo' a' m' := by
  cases s with
  | norm todo a m =>
    simp only [vstep] at hs
    split at hs
    · cases hs
      exact h (fun ι0 => RegOkJ.start a m)
    · split at hs
      · rename_i hc
        cases hs
        exact (GoF.ctl hc).trans h
      · cases hs
  | reg k id ops draw a0 m0 i a m recs =>
    intro hreg
    simp only [vstep] at hs
    split at hs
    · split at hs
      · rename_i hc
        cases hs
        rw [Bool.and_eq_true] at hc
        have hi : i = ops.size := Nat.eq_of_beq_eq_true hc.1
        subst hi
        refine GoF.region hm hD hreg (fun hd => ?_) h
        have h2 := hc.2
        rw [hd, Bool.not_true, Bool.false_or, Bool.and_eq_true] at h2
        exact h2.1
      · cases hs
    · rename_i o ho
      split at hs
      · rename_i hw
        rw [fl_eq] at hs
        cases hs
        exact h (fun ι0 => (hreg ι0).next (.skip ho hw))
      · rename_i hw
        split at hs
        · rename_i v' m1 fp hop
          rw [fv_eq, fl_eq, fl_eq] at hs
          cases hs
          exact h (fun ι0 => (hreg ι0).next (.op ho hw ((opA_ok hop).toJ hK ι0 _ (hreg ι0).len)))
        · cases hs
      · cases hs

theorem GoV.opJ {s : VS} {todo' : List Item} {a' : List Value} {m' : List Blk} (o : Oper) {u : Value} {m1 : List Blk} {fp : Fp} (hs : opAt s = some o) (ho : ∀ ι0 n, n ≤ s.mem.length → OpOkJ P (JN J ι0 n) o s.slots s.mem u m1 fp) (hr : GoV P f J (afterOp s o u m1 fp) todo' a' m') : GoV P f J s todo' a' m' := by
  cases s with
  | norm todo a m => cases hs
  | reg k id ops draw a0 m0 i a m recs =>
    intro hreg
    simp only [opAt] at hs
    split at hs
    · cases hs
    · rename_i o' ho'
      split at hs
      · rename_i hw
        cases hs
        simp only [afterOp, fl_eq] at hr
        exact hr (fun ι0 => (hreg ι0).next (.op ho' hw (ho ι0 _ (hreg ι0).len)))
      · cases hs
theorem GoV.op {s : VS} {todo' : List Item} {a' : List Value} {m' : List Blk} (hK : Keeps J) (o : Oper) {u : Value} {m1 : List Blk} {fp : Fp} (hs : opAt s = some o) (ho : OpOk P o s.slots s.mem u m1 fp) (hr : GoV P f J (afterOp s o u m1 fp) todo' a' m') : GoV P f J s todo' a' m' :=
  GoV.opJ o hs (fun ι0 n hn => ho.toJ hK ι0 n hn) hr
end

end

section
set_option linter.unusedVariables false
set_option linter.unusedSimpArgs false

theorem not_live {ι : Map} {C : Cont} {w : World} {k : Nat} {o : Obj} (hs : Sim ι C w) (h : w.heap[k]? = some o) (h1 : ∀ c t fz, o ≠ .cells c t fz) (h2 : ∀ es ck, o ≠ .map es ck) : ¬ LiveR ι C k := by
  rintro ⟨b, L, hl, hL, hk⟩
  have hB := hs.blk b
  generalize C b = x at hl hB
  cases x with
  | cells c sz rw_ =>
    obtain ⟨L', c', t, fz, hL', hh, _⟩ := hB
    rw [hL] at hL'; cases hL'
    rw [hk, h] at hh
    exact h1 _ _ _ (Option.some.inj hh)
  | map es ck =>
    obtain ⟨L', es', hL', hh, _⟩ := hB
    rw [hL] at hL'; cases hL'
    rw [hk, h] at hh
    exact h2 _ _ (Option.some.inj hh)
  | gone => cases hl
theorem own_live {ι : Map} {C : Cont} {k : Nat} (h : OwnR ι C k) : LiveR ι C k := let ⟨b, L, ho, hL, hk⟩ := h; ⟨b, L, Blk.live_of_own ho, hL, hk⟩

theorem Sim.putObj {ι : Map} {C : Cont} {w : World} {l : Nat} {o o' : Obj} (hs : Sim ι C w) (h : w.heap[l]? = some o) (h1 : ∀ c t fz, o ≠ .cells c t fz) (h2 : ∀ es ck, o ≠ .map es ck) : Sim ι C (w.putObj l o') where
  blk := fun b => (hs.blk b).keep (Le.refl _) fun hl L hL => by
    have hne : L.blk ≠ l := fun e => not_live hs h h1 h2 ⟨b, L, hl, hL, e⟩
    exact World.putObj_heap_other hne
  sep := hs.sep
  fro := fun r c hr => by
    obtain ⟨t, fz, hh⟩ := hs.fro r c hr
    have hne : r ≠ l := fun e => by rw [e, h] at hh; exact h1 _ _ _ (Option.some.inj hh)
    exact ⟨t, fz, (World.putObj_heap_other hne).trans hh⟩
  apart := hs.apart
theorem Rel.putObj {ι : Map} {a : List Value} {m : List Blk} {t : Array Value} {w : World} {l : Nat} {o o' : Obj} (hr : Rel ι a m t w) (h : w.heap[l]? = some o) (h1 : ∀ c t fz, o ≠ .cells c t fz) (h2 : ∀ es ck, o ≠ .map es ck) : Rel ι a m t (w.putObj l o') :=
  ⟨hr.size, hr.slots, hr.sim.putObj h h1 h2, hr.dom⟩

/-- A loop's record: whose function, its slots as they are known, what a round does; the block that stands for it. -/
structure YC where
  fc : FuncId
  ac : List Value
  params : Array Tmp
  assign : Code
  body : Code
  lb : Nat

def JR (Y : YC) (st : LoopState) : Map → World → Prop := fun ι w => ∃ (L : Loc) (rec : Loop), ι Y.lb = some L ∧ w.heap[L.blk]? = some (.loop rec) ∧ rec.state = st ∧ rec.pending = none ∧ rec.fn = Y.fc ∧ rec.params = Y.params ∧ rec.assign = Y.assign ∧ rec.body = Y.body ∧
  Y.ac.length ≤ rec.tmps.size ∧ ∀ x : Nat, RV ι (Y.ac.getD x undef) (rec.tmps.getD x undef)

theorem JR.keeps (Y : YC) (st : LoopState) : Keeps (JR Y st) := fun ι C w ι' C' w' hs he ⟨L, rec, h1, h2, h3, h4, h5, h6, h7, h8, h9, h10⟩ => by
  have hlt : L.blk < w.heap.size := (Array.getElem?_eq_some_iff.1 h2).1
  have hno : ¬ OwnR ι C L.blk := fun ho => not_live hs h2 (fun _ _ _ e => by cases e) (fun _ _ e => by cases e) (own_live ho)
  exact ⟨L, rec, he.le _ _ h1, (he.frame _ hlt hno).trans h2, h3, h4, h5, h6, h7, h8, h9, fun x => (h10 x).mono he.le⟩
theorem JR.drawn (Y : YC) (st : LoopState) : Drawn (JR Y st) := fun ι w n h => h

def setP : List Nat → List Value → List Value → List Value
  | p :: ps, v :: vs, a => setP ps vs (a.set p v)
  | _, _, a => a

theorem setP_rv {ι : Map} : ∀ (ps : List Nat) (vs vs' : List Value) (a : List Value) (t : Array Value), vs.length = vs'.length → a.length ≤ t.size → (∀ i : Nat, RV ι (vs.getD i undef) (vs'.getD i undef)) → (∀ x : Nat, RV ι (a.getD x undef) (t.getD x undef)) →
    (setP ps vs a).length ≤ ((ps.zip vs').foldl (fun t (p : Nat × Value) => t.setIfInBounds p.1 p.2) t).size ∧ ∀ x : Nat, RV ι ((setP ps vs a).getD x undef) (((ps.zip vs').foldl (fun t (p : Nat × Value) => t.setIfInBounds p.1 p.2) t).getD x undef)
  | [], _, _, a, t, _, hl, _, h => by simp only [setP, List.zip_nil_left, List.foldl_nil]; exact ⟨hl, h⟩
  | p :: ps, [], [], a, t, _, hl, _, h => by simp only [setP, List.zip_nil_right, List.foldl_nil]; exact ⟨hl, h⟩
  | p :: ps, [], _ :: _, a, t, hh, _, _, _ => by simp at hh
  | p :: ps, _ :: _, [], a, t, hh, _, _, _ => by simp at hh
  | p :: ps, v :: vs, v' :: vs', a, t, hh, hl, hv, h => by
    simp only [setP, List.zip_cons_cons, List.foldl_cons]
    refine setP_rv ps vs vs' (a.set p v) (t.setIfInBounds p v') (by simpa using hh) (by simpa using hl) (fun i => by simpa using hv (i + 1)) (fun x => ?_)
    by_cases e : p = x
    · subst e
      by_cases hp : p < a.length
      · have h2 : p < t.size := by omega
        have := hv 0
        simpa [List.getD_eq_getElem?_getD, hp, h2] using this
      · rw [show (a.set p v).getD p undef = undef by simp [List.getD_eq_getElem?_getD, List.getElem?_eq_none (show (a.set p v).length ≤ p by simp; omega)]]
        exact .any _
    · have h1 : (a.set p v).getD x undef = a.getD x undef := by simp [List.getD_eq_getElem?_getD, List.getElem?_set_ne e]
      have h2 : (t.setIfInBounds p v').getD x undef = t.getD x undef := by simp [Array.getElem?_setIfInBounds_ne e]
      rw [h1, h2]; exact h x

theorem OpOkJ.yield {P : Program} {Y : YC} {ι0 : Map} {n : Nat} {o : Oper} {a a2 a3 : List Value} {m m2 m3 : List Blk} {k1 : List Item} {g : Operand} {xs : Array Operand} {ts : Array TypeId} (hn : n ≤ m.length)
    (ho : o.op = .call { callee := .value g, args := xs, argTypes := ts }) (hg : evalC a g = .chan (some Y.lb)) (hcg : okConst g = true) (hc : xs.toList.all okConst = true) (hsz : xs.size = Y.params.size)
    (hb1 : bnds m.length (setP Y.params.toList (xs.map (evalC a)).toList Y.ac) = true) (hb2 : bnds m.length Y.ac = true) (hbm : ∀ b, b < m.length → BBnd m.length (m.getD b .gone)) (hlb : Y.lb < m.length) (hlen : m.length ≤ m3.length)
    (h1 : GoF P Y.fc (JR Y .ready) [.code Y.assign, .beginRound, .code Y.body] (setP Y.params.toList (xs.map (evalC a)).toList Y.ac) m (.beginRound :: k1) a2 m2)
    (h2 : GoF P Y.fc (JR Y .busy) k1 a2 m2 [] a3 m3) :
    OpOkJ P (JN (JR Y .ready) ι0 n) o a m (.bool true) m3 ⟨List.range m.length, List.range m.length⟩ where
  len := hlen
  sub := fun b hb => hb
  rdlt := fun b hb => by simpa using hb
  same := fun b hb hn' => absurd (by simpa using hb) hn'
  run := fun ι t ds w hs hdom hsim hj r next Q hnext => by
    have hC : (at_ m).only (isIn (List.range m.length)) = at_ m := by
      funext b
      unfold Cont.only
      split
      · rfl
      · rename_i hb
        have : ¬ b < m.length := by simpa [isIn] using hb
        simp [at_, List.getD_eq_getElem?_getD, List.getElem?_eq_none (Nat.le_of_not_lt this)]
    have hC3 : (at_ m3).only (tch (List.range m.length) m.length m3.length) = at_ m3 := by
      funext b
      unfold Cont.only
      split
      · rfl
      · rename_i hb
        have : ¬ b < m3.length := fun h => hb (by unfold tch; by_cases h' : b < m.length <;> simp [h', h] <;> omega)
        simp [at_, List.getD_eq_getElem?_getD, List.getElem?_eq_none (Nat.le_of_not_lt this)]
    rw [hC] at hsim hnext
    rw [hC3] at hnext
    obtain ⟨⟨L, rec, hL, hheap, hst, hpd, hfn, hps, has, hbd, hsize, hac⟩, hnew⟩ := hj
    -- the blocks that are there
    let ιr : Map := cut m.length ι
    have hsub : ∀ {b : Nat} {K : Loc}, ιr b = some K → ι b = some K ∧ b < m.length := fun h => by
      simp only [ιr, Dt.cut] at h
      split at h
      · exact ⟨h, by assumption⟩
      · cases h
    have hin : ∀ {b : Nat} {K : Loc}, b < m.length → ι b = some K → ιr b = some K := fun hb hK => by simp [ιr, Dt.cut, hb, hK]
    have hgone : ∀ b, ¬ b < m.length → at_ m b = .gone := fun b hb => by simp [at_, List.getD_eq_getElem?_getD, List.getElem?_eq_none (Nat.le_of_not_lt hb)]
    have hsimr : Sim ιr (at_ m) w := by
      refine ⟨fun b => ?_, fun b b2 K K2 hne ho' hl hK hK2 => hsim.sep b b2 K K2 hne ho' hl (hsub hK).1 (hsub hK2).1, hsim.fro, fun b K r' c ho' hK hr => hsim.apart b K r' c ho' (hsub hK).1 hr⟩
      by_cases hb : b < m.length
      · exact (hsim.blk b).cut hb (hbm b hb)
      · rw [hgone b hb]; trivial
    have hgv := rv_operand hs (x := g) (by rw [ho]; simp [Op.operands, Call.operands]) hcg
    rw [hg] at hgv
    have hev : (actD ds t).eval = (act t).eval := eval_actD t ds
    generalize hgr : (act t).eval g = gr at hgv
    cases hgv with
    | yld hL' =>
      rw [hL] at hL'; cases hL'
      let args' : Array Value := xs.map (act t).eval
      have hargs : ∀ i : Nat, RV ι ((xs.map (evalC a)).toList.getD i undef) (args'.toList.getD i undef) := fun i => by
        by_cases hi : i < xs.size
        · have := rv_operand hs (x := xs[i]) (by rw [ho]; simp [Op.operands, Call.operands]) (List.all_eq_true.1 hc _ (by simp))
          simpa [args', List.getD_eq_getElem?_getD, hi] using this
        · rw [show (xs.map (evalC a)).toList.getD i undef = undef by simp [List.getD_eq_getElem?_getD, Array.getElem?_eq_none (show xs.size ≤ i by omega)]]
          exact .any _
      obtain ⟨hs1, hs2⟩ := setP_rv Y.params.toList (xs.map (evalC a)).toList args'.toList Y.ac rec.tmps (by simp [args']) hsize hargs hac
      let tm : Array Value := (rec.params.zip args').foldl (fun tmps (t, a) => tmps.setIfInBounds t a) rec.tmps
      have htm : tm = (Y.params.toList.zip args'.toList).foldl (fun t (p : Nat × Value) => t.setIfInBounds p.1 p.2) rec.tmps := by
        simp only [tm, hps]
        rw [← Array.foldl_toList, Array.toList_zip]
      have hrel1 : Rel ιr (setP Y.params.toList (xs.map (evalC a)).toList Y.ac) m tm w := ⟨by rw [htm]; exact hs1, fun x => by rw [htm]; exact (hs2 x).cut (bnds_get hb1 x), hsimr, fun b hb => by
        cases hx : ιr b with
        | none => exact absurd hx hb
        | some K => exact (hsub hx).2⟩
      have hj1 : JR Y .ready ιr w := ⟨L, rec, hin hlb hL, hheap, hst, hpd, hfn, hps, has, hbd, hsize, fun x => (hac x).cut (bnds_get hb2 x)⟩
      have hlt0 : L.blk < w.heap.size := (Array.getElem?_eq_some_iff.1 hheap).1
      -- the operation asks for a round
      have hrun : (execOp (act t).eval o).run P w = .ok (.round L.blk rec.fn tm rec.assign rec.body) w := by
        unfold execOp; rw [ho]
        have hy := run_yield (P := P) (args := args') hheap (by rw [hps]; simp [args', hsz])
        simp only [resolve, hgr, Deferred.ofValue, pure_bind, invoke, Array.empty_append, Array.append_empty]
        exact hy
      refine ⟨fun _ _ => trivial, ?_⟩
      rw [Oper.semAt_eq _ _ _ (fun c hc' => by rw [ho] at hc'; cases hc'), hev, hrun, Oper.uponIn_round]
      refine And.intro (fun h => by simp [Fence.wide] at h) ⟨trivial, fun c cs _ => ?_⟩
      let b : Frame := { (default : Frame) with fn := rec.fn, kind := .normal, roundOf := some L.blk }
      have hb0 : Frame.round L.blk rec.fn tm rec.assign rec.body .normal = b.atR ⟨tm, []⟩ [.code Y.assign, .beginRound, .code Y.body] := by
        simp [Frame.round, Frame.atR, b, has, hbd]
      obtain ⟨t1, w1, ι1, s1, r1, j1, e1, n1, l1⟩ := h1 ιr tm w hrel1 hj1 b (c :: cs) [] hfn rfl
      have hno : ∀ {ι : Map} {C : Cont} {w : World} {rec : Loop}, Sim ι C w → w.heap[L.blk]? = some (.loop rec) → ¬ OwnR ι C L.blk := fun hs hh ho => not_live hs hh (fun _ _ _ e => by cases e) (fun _ _ e => by cases e) (own_live ho)
      have hh1 : w1.heap[L.blk]? = some (.loop rec) := (e1.frame _ hlt0 (hno hsimr hheap)).trans hheap
      have hlt1 : L.blk < w1.heap.size := (Array.getElem?_eq_some_iff.1 hh1).1
      have sb := stepR_beginRound (b := b) (a := ⟨t1, []⟩) (k := k1) (cs := c :: cs) (P := P) rfl (run_beginRound hh1 hst)
      let w1' : World := w1.putObj L.blk (.loop { rec with state := .busy })
      have hh1' : w1'.heap[L.blk]? = some (.loop { rec with state := .busy }) := World.putObj_heap_same hlt1
      have hrel2 : Rel ι1 a2 m2 t1 w1' := r1.putObj hh1 (fun _ _ _ e => by cases e) (fun _ _ e => by cases e)
      have hj2 : JR Y .busy ι1 w1' := by
        obtain ⟨L1, rec1, g1, g2, g3, g4, g5, g6, g7, g8, g9, g10⟩ := j1
        have : ι1 Y.lb = some L := e1.le _ _ (hin hlb hL)
        rw [this] at g1; cases g1
        rw [hh1] at g2; cases g2
        exact ⟨L, _, this, hh1', rfl, g4, g5, g6, g7, g8, g9, g10⟩
      obtain ⟨t2, w2, ι2, s2, r2, j2, e2, n2, l2⟩ := h2 ι1 t1 w1' hrel2 hj2 b (c :: cs) [] hfn rfl
      have hh2 : w2.heap[L.blk]? = some (.loop { rec with state := .busy }) := (e2.frame _ (by simpa [w1'] using hlt1) (hno hrel2.sim hh1')).trans hh1'
      have hlt2 : L.blk < w2.heap.size := (Array.getElem?_eq_some_iff.1 hh2).1
      have se := stepR_round_end (b := b) (a := ⟨t2, []⟩) (c := c) (cs := cs) (P := P) rfl rfl (run_endRound none hh2)
      have hrec : ({ ({ rec with state := .busy } : Loop) with state := if (none : Option Code).isNone then .ready else .done, pending := none } : Loop) = rec := by
        cases rec
        simp only at hst hpd
        subst hst; subst hpd; rfl
      rw [hrec] at se
      let w3 : World := w2.putObj L.blk (.loop rec)
      have hh3 : w3.heap[L.blk]? = some (.loop rec) := World.putObj_heap_same hlt2
      have hsim3 : Sim ι2 (at_ m3) w3 := r2.sim.putObj hh2 (fun _ _ _ e => by cases e) (fun _ _ e => by cases e)
      have e2' : Ext ι1 (at_ m2) w1 ι2 (at_ m3) w3 := by
        refine ⟨e2.le, by have := e2.size; simpa [w1', w3] using this, e2.os, e2.tape, e2.output, fun k hk hno' => ?_, fun k hk => (e2.own k hk).imp id (fun h => by simpa [w1'] using h), fun k hk => (e2.live k hk).imp id (fun h => by simpa [w1'] using h), fun r' c' hr => (e2.fro r' c' hr).imp id (Or.imp id (fun h => by simpa [w1'] using h))⟩
        by_cases hkl : k = L.blk
        · subst hkl; rw [hh3, hh1]
        · have g1 : w3.heap[k]? = w2.heap[k]? := World.putObj_heap_other hkl
          have g2 : w1'.heap[k]? = w1.heap[k]? := World.putObj_heap_other hkl
          rw [g1, e2.frame k (by simpa [w1'] using hk) hno', g2]
      have eT := e1.trans e2'
      refine ⟨.returned (.bool true), w3, ?_, ?_⟩
      · -- what the round leaves, in the greater memory
        let ι' : Map := ⟨fun b => if b < m.length then ι b else if b < m3.length then ι2 b else ι b, ι2.fro⟩
        have old : ∀ b K, b < m.length → ι2 b = some K → ι b = some K := fun b K hb hK => by
          cases hx : ιr b with
          | some K' =>
            have := eT.le _ _ hx
            rw [hK] at this; cases this
            exact (hsub hx).1
          | none =>
            exfalso
            cases hy : ι1 b with
            | none => have := n2 b hy (by rw [hK]; simp); have := l1; omega
            | some K' => have := n1 b hx (by rw [hy]; simp); omega
        have le1 : Le ι ι' := ⟨fun b K hK => by
          simp only [ι']
          by_cases hb : b < m.length
          · rw [if_pos hb]; exact hK
          · rw [if_neg hb]
            split
            · rename_i h3
              rw [hdom b (by omega) h3] at hK; cases hK
            · exact hK, fun r' c' h => eT.le.fro r' c' h⟩
        have le2 : Le ι2 ι' := ⟨fun b K hK => by
          have hb3 := r2.dom b (by rw [hK]; simp)
          simp only [ι']
          by_cases hb : b < m.length
          · rw [if_pos hb]; exact old b K hb hK
          · rw [if_neg hb, if_pos hb3]; exact hK, fun _ _ h => h⟩
        have same : ∀ b K, (at_ m3 b).live = true → ι' b = some K → ι2 b = some K := fun b K hl hK => by
          obtain ⟨K0, hK0, _⟩ := (hsim3.blk b).loc hl
          have := le2 _ _ hK0
          rw [hK] at this; cases this; exact hK0
        have ownr : ∀ k, OwnR ιr (at_ m) k → OwnR ι (at_ m) k := fun k ⟨b, K, h1, h2, h3⟩ => ⟨b, K, h1, (hsub h2).1, h3⟩
        have liver : ∀ k, LiveR ιr (at_ m) k → LiveR ι (at_ m) k := fun k ⟨b, K, h1, h2, h3⟩ => ⟨b, K, h1, (hsub h2).1, h3⟩
        refine hnext (.bool true) w3 ι' (.bool true) ⟨le1, eT.size, eT.os, eT.tape, eT.output, fun k hk hno' => eT.frame k hk (fun ho => hno' (ownr k ho)), fun k ⟨b, K, g1, g2, g3⟩ => ?_, fun k ⟨b, K, g1, g2, g3⟩ => ?_, fun r' c' hr => (eT.fro r' c' hr).imp id (Or.imp (ownr r') id)⟩ ⟨fun b => ?_, fun b b2 K K2 hne g1 g2 g3 g4 => ?_, hsim3.fro, fun b K r' c' g1 g2 g3 => ?_⟩ (fun b g1 g2 => ?_) ⟨?_, fun b hb h0 => ?_⟩
        · exact (eT.own k ⟨b, K, g1, same b K (Blk.live_of_own g1) g2, g3⟩).imp (ownr k) id
        · exact (eT.live k ⟨b, K, g1, same b K g1 g2, g3⟩).imp (liver k) id
        · exact (hsim3.blk b).keep le2 fun _ _ _ => rfl
        · exact hsim3.sep b b2 K K2 hne g1 g2 (same b K (Blk.live_of_own g1) g3) (same b2 K2 g2 g4)
        · exact hsim3.apart b K r' c' g1 (same b K (Blk.live_of_own g1) g2) g3
        · simp only [ι'] at g2
          by_cases hb : b < m.length
          · rw [if_pos hb] at g2; exact absurd g1 g2
          · rw [if_neg hb] at g2
            by_cases hb3 : b < m3.length
            · exact ⟨by omega, hb3⟩
            · rw [if_neg hb3] at g2; exact absurd g1 g2
        · refine ⟨L, rec, le1 _ _ hL, hh3, hst, hpd, hfn, hps, has, hbd, hsize, fun x => (hac x).mono le1⟩
        · simp only [ι']
          rw [if_pos (by omega)]; exact hnew b hb h0
      · rw [hb0]
        exact comesIn_wide.2 (Steps.trans (Steps.trans s1 (.one sb)) (Steps.trans s2 (.one se)))

end

end Go.Dt
