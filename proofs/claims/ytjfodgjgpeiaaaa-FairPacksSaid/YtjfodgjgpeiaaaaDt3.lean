/- Regions, the theorem: the invariant of a set of operations that have been carried out; the order's check. -/
import Derived.Test.YtjfodgjgpeiaaaaDt2
namespace Go.Dt

section
variable {P : Program} {ops : Array Oper} {A : Nat → List Value} {M : Nat → List Blk} {F : Nat → Fp}

def dstOf (ops : Array Oper) (k : Nat) : Option Nat := (ops[k]?).bind (·.dst)
/-- Does operation k write slot x? block b? -/
def wrS (ops : Array Oper) (x k : Nat) : Bool := dstOf ops k == some x
def wrB (M : Nat → List Blk) (F : Nat → Fp) (b k : Nat) : Bool := (F k).wr.contains b || (decide ((M k).length ≤ b) && decide (b < (M (k + 1)).length))
/-- What operation k looks at. -/
def rdS (ops : Array Oper) (k : Nat) : List Nat := match ops[k]? with
  | none => []
  | some o => slotsOf o ++ (guardSlot ops o).toList

def slotAt (ops : Array Oper) (A : Nat → List Value) (S : Nat → Bool) (x : Nat) : Value := (A (cur (wrS ops x) S ops.size)).getD x undef
def contAt (ops : Array Oper) (M : Nat → List Blk) (F : Nat → Fp) (S : Nat → Bool) : Cont := fun b => (M (cur (wrB M F b) S ops.size)).getD b .gone

structure Inv (ops : Array Oper) (A : Nat → List Value) (M : Nat → List Blk) (F : Nat → Fp) (ι0 : Map) (w0 : World) (S : Nat → Bool) (ι : Map) (t : Array Value) (w : World) : Prop where
  size : (A 0).length ≤ t.size
  slots : ∀ x, RV ι (slotAt ops A S x) (t.getD x undef)
  sim : Sim ι (contAt ops M F S) w
  dom : ∀ b, ι b ≠ none → b < (M 0).length ∨ ∃ k, k < ops.size ∧ S k = true ∧ (M k).length ≤ b ∧ b < (M (k + 1)).length
  ext : Ext ι0 (at_ (M 0)) w0 ι (contAt ops M F S) w

/-- Operation i may come now. -/
structure Fits (ops : Array Oper) (M : Nat → List Blk) (F : Nat → Fp) (S : Nat → Bool) (i : Nat) : Prop where
  slot : ∀ x, (x ∈ rdS ops i ∨ dstOf ops i = some x) → (∀ k, k < i → wrS ops x k = true → S k = true) ∧ (∀ k, i < k → k < ops.size → wrS ops x k = true → S k = false)
  block : ∀ b, (b ∈ (F i).rd ∨ ((M i).length ≤ b ∧ b < (M (i + 1)).length)) → (∀ k, k < i → wrB M F b k = true → S k = true) ∧ (∀ k, i < k → k < ops.size → wrB M F b k = true → S k = false)

theorem step_facts {i : Nat} (h : StepAt P ops i (A i) (M i) (A (i + 1)) (M (i + 1)) (F i)) :
    (M i).length ≤ (M (i + 1)).length ∧ (∀ b, b ∈ (F i).wr → b ∈ (F i).rd) ∧ (∀ b, b ∈ (F i).rd → b < (M i).length) ∧
    (∀ b, b < (M i).length → b ∉ (F i).wr → (M (i + 1)).getD b .gone = (M i).getD b .gone) ∧ (A (i + 1)).length = (A i).length ∧
    ∀ x, dstOf ops i ≠ some x → (A (i + 1)).getD x undef = (A i).getD x undef := by
  generalize hA : A (i + 1) = A' at *
  generalize hM : M (i + 1) = M' at *
  generalize hF : F i = F' at *
  cases h with
  | skip ho hw =>
    refine ⟨Nat.le_refl _, by simp, by simp, fun _ _ _ => rfl, length_put _ _ _, fun x hx => getD_put ?_⟩
    simpa [dstOf, ho] using hx
  | op ho hw h =>
    refine ⟨h.len, h.sub, h.rdlt, h.same, length_put _ _ _, fun x hx => getD_put ?_⟩
    simpa [dstOf, ho] using hx

theorem inv_step {ι0 : Map} {w0 : World} {S : Nat → Bool} {ι : Map} {t : Array Value} {w : World} {i : Nat} (hall : ∀ k, k < ops.size → StepAt P ops k (A k) (M k) (A (k + 1)) (M (k + 1)) (F k))
    (hi : i < ops.size) (hS : S i = false) (hf : Fits ops M F S i) (hinv : Inv ops A M F ι0 w0 S ι t w) (next : Act → World → Prop) (Q : Exit → Act → World → Prop)
    (hn : ∀ t' w' ι', Inv ops A M F ι0 w0 (ins S i) ι' t' w' → next (act t') w') : wpOp P ops Q i next (act t) w := by
  have lenM : ∀ k, k ≤ ops.size → ∀ j, j ≤ k → (M j).length ≤ (M k).length := by
    intro k
    induction k with
    | zero => intro _ j hj; rw [Nat.le_zero.1 hj]; exact Nat.le_refl _
    | succ k ih =>
      intro hk j hj
      rcases Nat.eq_or_lt_of_le hj with e | hlt
      · rw [e]; exact Nat.le_refl _
      · exact Nat.le_trans (ih (by omega) j (by omega)) (step_facts (hall k (by omega))).1
  have lenA : ∀ k, k ≤ ops.size → (A k).length = (A 0).length := by
    intro k
    induction k with
    | zero => intro _; rfl
    | succ k ih => intro hk; rw [(step_facts (hall k (by omega))).2.2.2.2.1]; exact ih (by omega)
  have stS : ∀ x k, k < ops.size → wrS ops x k = false → (A (k + 1)).getD x undef = (A k).getD x undef := fun x k hk hw =>
    (step_facts (hall k hk)).2.2.2.2.2 x (by simpa [wrS] using hw)
  have stB : ∀ b k, k < ops.size → wrB M F b k = false → (M (k + 1)).getD b .gone = (M k).getD b .gone := fun b k hk hw => by
    simp only [wrB, Bool.or_eq_false_iff, Bool.and_eq_false_iff, decide_eq_false_iff_not] at hw
    obtain ⟨hw1, hw2⟩ := hw
    by_cases hb : b < (M k).length
    · exact (step_facts (hall k hk)).2.2.2.1 b hb (by simpa using hw1)
    · have h2 : ¬ b < (M (k + 1)).length := by omega
      simp [List.getD_eq_getElem?_getD, List.getElem?_eq_none (Nat.le_of_not_lt hb), List.getElem?_eq_none (Nat.le_of_not_lt h2)]
  have slotNow : ∀ x, (x ∈ rdS ops i ∨ dstOf ops i = some x) → slotAt ops A S x = (A i).getD x undef := fun x hx => by
    unfold slotAt
    rw [cur_read (Nat.le_of_lt hi) (hf.slot x hx).1 (fun k h1 h2 hw => by
      rcases Nat.eq_or_lt_of_le h1 with e | h1
      · rw [← e]; exact hS
      · exact (hf.slot x hx).2 k h1 h2 hw)]
    exact cur_state (X := fun k => (A k).getD x undef) i (fun k hk hw => stS x k (by omega) hw)
  have blockNow : ∀ b, (b ∈ (F i).rd ∨ ((M i).length ≤ b ∧ b < (M (i + 1)).length)) → contAt ops M F S b = (M i).getD b .gone := fun b hb => by
    unfold contAt
    rw [cur_read (Nat.le_of_lt hi) (hf.block b hb).1 (fun k h1 h2 hw => by
      rcases Nat.eq_or_lt_of_le h1 with e | h1
      · rw [← e]; exact hS
      · exact (hf.block b hb).2 k h1 h2 hw)]
    exact cur_state (X := fun k => (M k).getD b .gone) i (fun k hk hw => stB b k (by omega) hw)
  have slotThen : ∀ x, slotAt ops A (ins S i) x = if wrS ops x i then (A (i + 1)).getD x undef else slotAt ops A S x := fun x => by
    unfold slotAt
    cases hw : wrS ops x i with
    | true => simp only [if_true]; rw [cur_ins_self hi hw ((hf.slot x (.inr (by simpa [wrS] using hw))).2)]
    | false => simp only [Bool.false_eq_true, if_false]; rw [cur_ins_other hw]
  have facts := step_facts (hall i hi)
  have blockThen : ∀ b, contAt ops M F (ins S i) b = if wrB M F b i then (M (i + 1)).getD b .gone else contAt ops M F S b := fun b => by
    unfold contAt
    cases hw : wrB M F b i with
    | true =>
      simp only [if_true]
      rw [cur_ins_self hi hw ((hf.block b ?_).2)]
      simp only [wrB, Bool.or_eq_true, Bool.and_eq_true, decide_eq_true_eq, List.contains_eq_mem] at hw
      exact hw.imp (facts.2.1 b) id
    | false => simp only [Bool.false_eq_true, if_false]; rw [cur_ins_other hw]
  have lenAt : ∀ k, k ≤ ops.size → (A k).length ≤ t.size := fun k hk => by rw [lenA k hk]; exact hinv.size
  have domLt : ∀ b, ι b ≠ none → b < (M i).length ∨ (M (i + 1)).length ≤ b := fun b hb => by
    rcases hinv.dom b hb with h | ⟨k, hk, hSk, h1, h2⟩
    · exact .inl (Nat.lt_of_lt_of_le h (lenM i (by omega) 0 (by omega)))
    · have hne : k ≠ i := fun e => by rw [e, hS] at hSk; cases hSk
      rcases Nat.lt_or_gt_of_ne hne with h | h
      · exact .inl (Nat.lt_of_lt_of_le h2 (lenM i (by omega) (k + 1) (by omega)))
      · exact .inr (Nat.le_trans (lenM k (by omega) (i + 1) (by omega)) h1)
  -- what is left to show of the invariant behind the step
  have close : ∀ (t' : Array Value) (w' : World) (ι' : Map), t'.size = t.size → (∀ x, RV ι' (slotAt ops A (ins S i) x) (t'.getD x undef)) → Sim ι' (contAt ops M F (ins S i)) w' →
      (∀ b, ι b = none → ι' b ≠ none → (M i).length ≤ b ∧ b < (M (i + 1)).length) → Ext ι (contAt ops M F S) w ι' (contAt ops M F (ins S i)) w' → next (act t') w' := fun t' w' ι' h1 h2 h3 h4 h5 => by
    refine hn t' w' ι' ⟨by rw [h1]; exact hinv.size, h2, h3, fun b hb => ?_, hinv.ext.trans h5⟩
    cases hb0 : ι b with
    | none => exact .inr ⟨i, hi, by simp [ins], h4 b hb0 hb⟩
    | some L => exact (hinv.dom b (by simp [hb0])).imp id (fun ⟨k, hk, hSk, h⟩ => ⟨k, hk, by simp [ins, hSk], h⟩)
  have hstep := hall i hi
  unfold wpOp
  cases hstep' : ops[i]? with
  | none => exact absurd hstep' (by simp [hi])
  | some o =>
    simp only []
    have hd : dstOf ops i = o.dst := by simp [dstOf, hstep']
    have hwi : ∀ x, wrS ops x i = (o.dst == some x) := fun x => by simp [wrS, hd]
    have hrd : rdS ops i = slotsOf o ++ (guardSlot ops o).toList := by simp [rdS, hstep']
    have rvNow : ∀ x, x ∈ rdS ops i → RV ι ((A i).getD x undef) (t.getD x undef) := fun x hx => by rw [← slotNow x (.inl hx)]; exact hinv.slots x
    have guardOk : ∀ x, guardSlot ops o = some x → RV ι ((A i).getD x undef) (t.getD x undef) := fun x hx => rvNow x (by rw [hrd]; simp [hx])
    have newSlots : ∀ (v v' : Value) (ι' : Map), A (i + 1) = put (A i) o.dst v → Le ι ι' → RV ι' v v' → ∀ x, RV ι' (slotAt ops A (ins S i) x) (((act t).put o.dst v').tmps.getD x undef) := fun v v' ι' hA hle hv x => by
      rw [slotThen x, hwi]
      by_cases hx : o.dst = some x
      · simp only [hx, beq_self_eq_true, if_true]
        rw [hA, hx]
        exact rv_put (lenAt i (by omega)) hv x ((by rw [← slotNow x (.inr (by rw [hd, hx]))]; exact (hinv.slots x).mono hle))
      · have : (o.dst == some x) = false := by simpa using hx
        simp only [this, Bool.false_eq_true, if_false]
        have h2 : ((act t).put o.dst v').tmps.getD x undef = t.getD x undef := by
          cases hdd : o.dst with
          | none => rfl
          | some d =>
            have : d ≠ x := fun e => hx (by rw [hdd, e])
            simp [Act.put, act, Array.getElem?_setIfInBounds_ne this]
        rw [h2]
        exact (hinv.slots x).mono hle
    have putSize : ∀ v', ((act t).put o.dst v').tmps.size = t.size := fun v' => by cases o.dst <;> simp [Act.put, act]
    have putAct : ∀ v', (act t).put o.dst v' = act ((act t).put o.dst v').tmps := fun v' => by cases o.dst <;> rfl
    generalize hA' : A (i + 1) = A' at *
    generalize hM' : M (i + 1) = M' at *
    generalize hF' : F i = F' at *
    cases hstep with
    | skip ho hw =>
      rw [hstep'] at ho; cases ho
      have hwant : Region.wanted o (yielded ops (act t).tmps) = false := wanted_of hw guardOk
      rw [if_neg (by rw [hwant]; exact Bool.false_ne_true)]
      rw [putAct]
      have hcont : contAt ops M F (ins S i) = contAt ops M F S := by
        funext b
        rw [blockThen b]
        have : wrB M F b i = false := by
          simp only [wrB, hF', hM', List.contains_nil, Bool.false_or, Bool.and_eq_false_iff, decide_eq_false_iff_not]
          omega
        simp [this]
      refine close _ w ι (putSize _) (newSlots (.chan none) undef ι rfl (Le.refl _) .skip) (by rw [hcont]; exact hinv.sim) (fun b h1 h2 => absurd h1 h2) (by rw [hcont]; exact Ext.refl _ _ _)
    | op ho hw hop =>
      rename_i o2 v
      rw [hstep'] at ho; cases ho
      have hwant : Region.wanted o (yielded ops (act t).tmps) = true := wanted_of hw guardOk
      rw [if_pos hwant]
      refine .inl ?_
      have hCin : (contAt ops M F S).only (isIn F'.rd) = (at_ (M i)).only (isIn F'.rd) := by
        funext b
        unfold Cont.only isIn
        split
        · rename_i hb
          exact blockNow b (.inl (by simpa using hb))
        · rfl
      refine hop.run ι t w (fun x hx => rvNow x (by rw [hrd]; exact List.mem_append_left _ hx)) (fun b h1 h2 => ?_) (by rw [← hCin]; exact hinv.sim.only _) next Q ?_
      · cases hb : ι b with
        | none => rfl
        | some L => have := domLt b (by simp [hb]); omega
      · intro v' w1 ι' hv hext hsim hdom
        have hfr := Sim.frame (C := contAt ops M F S) (C' := at_ M') (D := contAt ops M F (ins S i)) (R := isIn F'.rd) (T := tch F'.rd (M i).length M'.length) hinv.sim
          (fun b hb => by simp only [isIn] at hb; unfold tch; rw [hb]; rfl) (by rw [hCin]; exact hext) hsim (fun b => by
            rw [blockThen b]
            cases hT : tch F'.rd (M i).length M'.length b with
            | true =>
              simp only [if_true]
              cases hwb : wrB M F b i with
              | true => simp [at_]
              | false =>
                simp only [Bool.false_eq_true, if_false]
                have hbr : b ∈ F'.rd := by
                  simp only [tch, Bool.or_eq_true, Bool.and_eq_true, decide_eq_true_eq, List.contains_eq_mem] at hT
                  simp only [wrB, hF', hM', Bool.or_eq_false_iff, Bool.and_eq_false_iff, decide_eq_false_iff_not] at hwb
                  rcases hT with h | h
                  · exact h
                  · have := hwb.2; omega
                rw [blockNow b (.inl hbr)]
                have := stB b i hi hwb
                rw [hM'] at this
                exact this.symm
            | false =>
              simp only [Bool.false_eq_true, if_false]
              have : wrB M F b i = false := by
                cases hwb : wrB M F b i with
                | false => rfl
                | true =>
                  simp only [wrB, hF', hM', Bool.or_eq_true, Bool.and_eq_true, decide_eq_true_eq, List.contains_eq_mem] at hwb
                  simp only [tch, Bool.or_eq_false_iff, Bool.and_eq_false_iff, decide_eq_false_iff_not, List.contains_eq_mem] at hT
                  rcases hwb with h | h
                  · exact absurd (hop.sub b h) hT.1
                  · omega
              simp [this])
        rw [putAct]
        exact close _ w1 ι' (putSize _) (newSlots v v' ι' rfl hext.le hv) hfr.1 (fun b h1 h2 => by have := hdom b h1 h2; omega) hfr.2

theorem countP_lt {α : Type} {p q : α → Bool} {x : α} : ∀ {l : List α}, x ∈ l → p x = false → q x = true → (∀ y, y ∈ l → p y = true → q y = true) → l.countP p < l.countP q
  | [], h, _, _, _ => by cases h
  | y :: l, h, hp, hq, hpq => by
    have hle : l.countP p ≤ l.countP q := List.countP_mono_left fun z hz => hpq z (List.mem_cons_of_mem _ hz)
    rcases List.mem_cons.1 h with rfl | h
    · rw [List.countP_cons_of_neg (by simp [hp]), List.countP_cons_of_pos hq]; omega
    · have ih := countP_lt h hp hq (fun z hz => hpq z (List.mem_cons_of_mem _ hz))
      cases hpy : p y with
      | true => rw [List.countP_cons_of_pos hpy, List.countP_cons_of_pos (hpq y (by simp) hpy)]; omega
      | false =>
        rw [List.countP_cons_of_neg (by simp [hpy])]
        exact Nat.lt_of_lt_of_le ih (by rw [List.countP_cons]; omega)

/-- The beginning: nothing has been carried out. -/
theorem cur_none {wr : Nat → Bool} : ∀ n, cur wr (fun _ => false) n = 0
  | 0 => rfl
  | n + 1 => by simp [cur, cur_none n]

theorem cur_congr_wr {wr S S' : Nat → Bool} (n : Nat) (h : ∀ k, k < n → S k = S' k) : cur wr S n = cur wr S' n := cur_congr n fun k hk _ => h k hk

theorem contAt_none : contAt ops M F (fun _ => false) = at_ (M 0) := by
  funext b
  simp [contAt, cur_none, at_]

theorem slotAt_none (x : Nat) : slotAt ops A (fun _ => false) x = (A 0).getD x undef := by simp [slotAt, cur_none]

theorem inv_start {ι : Map} {t : Array Value} {w : World} {n : Nat} (hl : (A 0).length ≤ t.size) (hs : ∀ x, RV ι ((A 0).getD x undef) (t.getD x undef)) (hm : Sim ι (at_ (M 0)) w)
    (hd : ∀ b, ι b ≠ none → b < (M 0).length) : Inv ops A M F ι w (fun _ => false) ι t { w with drawn := n } where
  size := hl
  slots := fun x => by rw [slotAt_none]; exact hs x
  sim := by rw [contAt_none]; exact ⟨hm.blk, hm.sep, hm.fro, hm.apart⟩
  dom := fun b hb => .inl (hd b hb)
  ext := by rw [contAt_none]; exact ⟨Le.refl _, Nat.le_refl _, rfl, rfl, rfl, fun _ _ _ => rfl, fun _ h => .inl h, fun _ h => .inl h, fun _ _ h => .inl h⟩

/-- The end: all of it has been. -/
theorem inv_end {ι0 ι : Map} {w0 w : World} {t : Array Value} {S : Nat → Bool} (hall : ∀ k, k < ops.size → StepAt P ops k (A k) (M k) (A (k + 1)) (M (k + 1)) (F k))
    (hS : ∀ k, k < ops.size → S k = true) (h : Inv ops A M F ι0 w0 S ι t w) :
    (A 0).length ≤ t.size ∧ (∀ x, RV ι ((A ops.size).getD x undef) (t.getD x undef)) ∧ Sim ι (at_ (M ops.size)) w ∧ (∀ b, ι b ≠ none → b < (M ops.size).length) ∧ Ext ι0 (at_ (M 0)) w0 ι (at_ (M ops.size)) w := by
  have lenM : ∀ k, k ≤ ops.size → ∀ j, j ≤ k → (M j).length ≤ (M k).length := by
    intro k
    induction k with
    | zero => intro _ j hj; rw [Nat.le_zero.1 hj]; exact Nat.le_refl _
    | succ k ih =>
      intro hk j hj
      rcases Nat.eq_or_lt_of_le hj with e | hlt
      · rw [e]; exact Nat.le_refl _
      · exact Nat.le_trans (ih (by omega) j (by omega)) (step_facts (hall k (by omega))).1
  have hc : contAt ops M F S = at_ (M ops.size) := by
    funext b
    unfold contAt
    rw [cur_congr_wr (S' := fun _ => true) _ hS]
    exact cur_state (X := fun k => (M k).getD b .gone) ops.size (fun k hk hw => by
      simp only [wrB, Bool.or_eq_false_iff, Bool.and_eq_false_iff, decide_eq_false_iff_not] at hw
      obtain ⟨hw1, hw2⟩ := hw
      by_cases hb : b < (M k).length
      · exact (step_facts (hall k hk)).2.2.2.1 b hb (by simpa using hw1)
      · have h2 : ¬ b < (M (k + 1)).length := by omega
        simp [List.getD_eq_getElem?_getD, List.getElem?_eq_none (Nat.le_of_not_lt hb), List.getElem?_eq_none (Nat.le_of_not_lt h2)])
  have hs : ∀ x, slotAt ops A S x = (A ops.size).getD x undef := fun x => by
    unfold slotAt
    rw [cur_congr_wr (S' := fun _ => true) _ hS]
    exact cur_state (X := fun k => (A k).getD x undef) ops.size (fun k hk hw => (step_facts (hall k hk)).2.2.2.2.2 x (by simpa [wrS] using hw))
  refine ⟨h.size, fun x => by rw [← hs x]; exact h.slots x, by rw [← hc]; exact h.sim, fun b hb => ?_, by rw [← hc]; exact h.ext⟩
  rcases h.dom b hb with h | ⟨k, hk, _, _, h2⟩
  · exact Nat.lt_of_lt_of_le h (lenM _ (Nat.le_refl _) 0 (Nat.zero_le _))
  · exact Nat.lt_of_lt_of_le h2 (lenM _ (Nat.le_refl _) (k + 1) hk)

/-- A region that is carried out in the order of its text. -/
theorem region_seq {ι : Map} {t : Array Value} {w : World} {Q : Exit → Act → World → Prop} (hall : ∀ k, k < ops.size → StepAt P ops k (A k) (M k) (A (k + 1)) (M (k + 1)) (F k))
    (hl : (A 0).length ≤ t.size) (hs : ∀ x, RV ι ((A 0).getD x undef) (t.getD x undef)) (hm : Sim ι (at_ (M 0)) w) (hd : ∀ b, ι b ≠ none → b < (M 0).length)
    (hQ : ∀ t' w' ι', (A 0).length ≤ t'.size → (∀ x, RV ι' ((A ops.size).getD x undef) (t'.getD x undef)) → Sim ι' (at_ (M ops.size)) w' → (∀ b, ι' b ≠ none → b < (M ops.size).length) →
      Ext ι (at_ (M 0)) w ι' (at_ (M ops.size)) w' → Q .normal (act t') w') : wpOps P ops Q (List.range ops.size) (act t) w := by
  have key : ∀ d i, d + i = ops.size → ∀ ι' t' w', Inv ops A M F ι w (fun k => decide (k < i)) ι' t' w' → wpOps P ops Q (List.range' i d) (act t') w' := by
    intro d
    induction d with
    | zero =>
      intro i hi ι' t' w' hinv
      obtain ⟨h1, h2, h3, h4, h5⟩ := inv_end hall (fun k hk => by simp; omega) hinv
      exact hQ t' w' ι' h1 h2 h3 h4 h5
    | succ d ih =>
      intro i hi ι' t' w' hinv
      rw [List.range'_succ, wpOps_cons]
      refine inv_step hall (by omega) (by simp) ⟨fun x _ => ⟨fun k hk _ => by simpa using hk, fun k hk _ _ => by simp; omega⟩, fun x _ => ⟨fun k hk _ => by simpa using hk, fun k hk _ _ => by simp; omega⟩⟩ hinv _ _ (fun t2 w2 ι2 h2 => ?_)
      refine ih (i + 1) (by omega) ι2 t2 w2 ?_
      have : (ins (fun k => decide (k < i)) i) = fun k => decide (k < i + 1) := by
        funext k
        by_cases hk : k < i
        · have : k < i + 1 := by omega
          simp [ins, hk, this]
        · by_cases hk2 : k = i
          · simp [ins, hk2]
          · have : ¬ k < i + 1 := by omega
            simp [ins, hk, hk2, this]
      rwa [this] at h2
  have h0 := inv_start (ops := ops) (A := A) (M := M) (F := F) (n := w.drawn) hl hs hm hd
  have := key ops.size 0 (by omega) ι t w (by
    have e : (fun k => decide (k < 0)) = fun _ : Nat => false := by funext k; simp
    rw [e]; exact h0)
  rw [List.range_eq_range']
  exact this

/-! ### Regions that draw -/

/-- What must come ahead: by the edges, one behind the other. -/
inductive Bef (ops : Array Oper) : Nat → Nat → Prop
  | edge {j : Nat} {o : Oper} {e : Edge} (ho : ops[j]? = some o) (he : e ∈ o.after) (hb : Region.binds .any e = true) : Bef ops j e.on
  | far {j : Nat} {o : Oper} {e : Edge} {i : Nat} (ho : ops[j]? = some o) (he : e ∈ o.after) (hb : Region.binds .any e = true) (h : Bef ops e.on i) : Bef ops j i

/-- Do two operations, i ahead of j in the text, stand in each other's way? -/
def conflict (ops : Array Oper) (M : Nat → List Blk) (F : Nat → Fp) (i j : Nat) : Prop :=
  (∃ x, dstOf ops i = some x ∧ (x ∈ rdS ops j ∨ dstOf ops j = some x)) ∨ (∃ x, dstOf ops j = some x ∧ x ∈ rdS ops i) ∨
  (∃ b, wrB M F b i = true ∧ (b ∈ (F j).rd ∨ ((M j).length ≤ b ∧ b < (M (j + 1)).length))) ∨ (∃ b, wrB M F b j = true ∧ (b ∈ (F i).rd ∨ ((M i).length ≤ b ∧ b < (M (i + 1)).length)))

theorem region_draw {id : Nat} {ι : Map} {t : Array Value} {w : World} {Q : Exit → Act → World → Prop} (hm : P.follows .mixedOrders = true) (hall : ∀ k, k < ops.size → StepAt P ops k (A k) (M k) (A (k + 1)) (M (k + 1)) (F k))
    (hback : ∀ (j : Nat) (o : Oper) (e : Edge), ops[j]? = some o → e ∈ o.after → Region.binds .any e = true → e.on < j)
    (hord : ∀ i j, i < j → j < ops.size → conflict ops M F i j → Bef ops j i)
    (hl : (A 0).length ≤ t.size) (hs : ∀ x, RV ι ((A 0).getD x undef) (t.getD x undef)) (hsim : Sim ι (at_ (M 0)) w) (hd : ∀ b, ι b ≠ none → b < (M 0).length)
    (hQ : ∀ t' w' ι', (A 0).length ≤ t'.size → (∀ x, RV ι' ((A ops.size).getD x undef) (t'.getD x undef)) → Sim ι' (at_ (M ops.size)) w' → (∀ b, ι' b ≠ none → b < (M ops.size).length) →
      Ext ι (at_ (M 0)) w ι' (at_ (M ops.size)) w' → Q .normal (act t') w') : (Code.region id ops true).wp P Q (act t) w := by
  refine wp_region_any hm ?_
  -- the listed operations; what is ahead of a listed one is listed
  have key : ∀ fuel (listed : Array Bool), listed.size = ops.size → (∀ j o e, ops[j]? = some o → listed.getD j false = true → e ∈ o.after → Region.binds .any e = true → listed.getD e.on false = true) →
      (List.range ops.size).countP (fun i => !listed.getD i false) ≤ fuel → ∀ ι' t' w', Inv ops A M F ι w (fun k => listed.getD k false) ι' t' w' → wpAny P .any ops Q fuel listed (act t') w' := by
    have none_left : ∀ (listed : Array Bool), listed.size = ops.size → (∀ j o e, ops[j]? = some o → listed.getD j false = true → e ∈ o.after → Region.binds .any e = true → listed.getD e.on false = true) →
        Region.ready .any ops listed = [] → ∀ k, k < ops.size → listed.getD k false = true := by
      intro listed hsz _ hr k
      induction k using Nat.strongRecOn with
      | _ k ih =>
        intro hk
        cases hlk : listed.getD k false with
        | true => rfl
        | false =>
          have : k ∈ Region.ready .any ops listed := by
            rw [mem_ready]
            refine ⟨?_, ops[k], by simp [hk], fun e he hb => ?_⟩
            · have : k < listed.size := by omega
              simp [this] at hlk ⊢
              exact hlk
            · have hlt := hback k ops[k] e (by simp [hk]) he hb
              exact ih e.on hlt (by omega)
          rw [hr] at this
          cases this
    intro fuel
    induction fuel with
    | zero =>
      intro listed hsz hdc hcnt ι' t' w' hinv
      have hall2 : ∀ k, k < ops.size → listed.getD k false = true := fun k hk => by
        have h0 := Nat.le_zero.1 hcnt
        rw [List.countP_eq_zero] at h0
        have := h0 k (by simpa using hk)
        simpa using this
      refine ⟨?_, ?_⟩
      · cases hr : Region.ready .any ops listed with
        | nil => rfl
        | cons x xs =>
          have hx : x ∈ Region.ready .any ops listed := by rw [hr]; simp
          obtain ⟨h1, o, ho, _⟩ := mem_ready.1 hx
          have hlt : x < ops.size := (Array.getElem?_eq_some_iff.1 ho).1
          have h2 := hall2 x hlt
          have : x < listed.size := by omega
          simp [this] at h1 h2
          rw [h1] at h2; cases h2
      · obtain ⟨h1, h2, h3, h4, h5⟩ := inv_end hall hall2 hinv
        exact hQ t' w' ι' h1 h2 h3 h4 h5
    | succ fuel ih =>
      intro listed hsz hdc hcnt ι' t' w' hinv
      refine ⟨fun hr => ?_, fun i hi => ?_⟩
      · obtain ⟨h1, h2, h3, h4, h5⟩ := inv_end hall (none_left listed hsz hdc hr) hinv
        exact hQ t' w' ι' h1 h2 h3 h4 h5
      · obtain ⟨h1, o, ho, hedges⟩ := mem_ready.1 hi
        have hlt : i < ops.size := (Array.getElem?_eq_some_iff.1 ho).1
        have hlt' : i < listed.size := by omega
        have hun : listed.getD i false = false := by
          simp [hlt'] at h1 ⊢
          exact h1
        -- what is ahead of a listed operation is listed, however far
        have far : ∀ j k, Bef ops j k → listed.getD j false = true → listed.getD k false = true := by
          intro j k hb
          induction hb with
          | edge ho he hb => exact fun hj => hdc _ _ _ ho hj he hb
          | far ho he hb _ ih => exact fun hj => ih (hdc _ _ _ ho hj he hb)
        have mine : ∀ k, Bef ops i k → listed.getD k false = true := by
          intro k hb
          cases hb with
          | edge ho' he hb => rw [ho] at ho'; cases ho'; exact hedges _ he hb
          | far ho' he hb h => rw [ho] at ho'; cases ho'; exact far _ _ h (hedges _ he hb)
        have hfit : Fits ops M F (fun k => listed.getD k false) i := by
          refine ⟨fun x hx => ⟨fun k hk hw => mine k ?_, fun k hk hks hw => ?_⟩, fun b hb => ⟨fun k hk hw => mine k ?_, fun k hk hks hw => ?_⟩⟩
          · exact hord k i hk hlt (.inl ⟨x, by simpa [wrS] using hw, hx⟩)
          · cases hlk : listed.getD k false with
            | false => rfl
            | true =>
              have : Bef ops k i := by
                refine hord i k hk hks ?_
                rcases hx with hx | hx
                · exact .inr (.inl ⟨x, by simpa [wrS] using hw, hx⟩)
                · exact .inl ⟨x, hx, .inr (by simpa [wrS] using hw)⟩
              have := far k i this hlk
              rw [hun] at this; cases this
          · exact hord k i hk hlt (.inr (.inr (.inl ⟨b, hw, hb⟩)))
          · cases hlk : listed.getD k false with
            | false => rfl
            | true =>
              have : Bef ops k i := hord i k hk hks (.inr (.inr (.inr ⟨b, hw, hb⟩)))
              have := far k i this hlk
              rw [hun] at this; cases this
        refine inv_step hall hlt hun hfit hinv _ _ (fun t2 w2 ι2 h2 => ?_)
        have hset : ∀ k, (listed.setIfInBounds i true).getD k false = (listed.getD k false || k == i) := fun k => by
          by_cases hki : i = k
          · subst hki; simp [hlt']
          · have : (k == i) = false := by simpa using fun e => hki e.symm
            rw [this, Bool.or_false]
            simp [Array.getElem?_setIfInBounds_ne hki]
        refine ih (listed.setIfInBounds i true) (by simpa using hsz) (fun j o' e ho' hj he hb => ?_) ?_ ι2 t2 w2 ?_
        · rw [hset] at hj ⊢
          rw [Bool.or_eq_true] at hj ⊢
          rcases hj with hj | hj
          · exact .inl (hdc j o' e ho' hj he hb)
          · have : j = i := by simpa using hj
            subst this
            rw [ho] at ho'; cases ho'
            exact .inl (hedges e he hb)
        · have hlt2 : (List.range ops.size).countP (fun k => !(listed.setIfInBounds i true).getD k false) < (List.range ops.size).countP (fun k => !listed.getD k false) := by
            refine countP_lt (x := i) (by simpa using hlt) (by rw [hset]; simp) (by rw [hun]; rfl) (fun k _ hk => ?_)
            rw [hset] at hk
            simp only [Bool.not_eq_true', Bool.or_eq_false_iff] at hk
            rw [hk.1]; rfl
          omega
        · have : (ins (fun k => listed.getD k false) i) = fun k => (listed.setIfInBounds i true).getD k false := by
            funext k
            rw [hset]; rfl
          rwa [this] at h2
  refine key ops.size (Array.replicate ops.size false) (by simp) (fun j o e ho hj _ _ => ?_) ?_ ι t _ ?_
  · simp [Array.getElem?_replicate] at hj
    split at hj <;> simp at hj
  · exact Nat.le_trans List.countP_le_length (by simp)
  · have e : (fun k => (Array.replicate ops.size false).getD k false) = fun _ : Nat => false := by
      funext k
      simp [Array.getElem?_replicate]
      split <;> simp
    rw [e]
    exact inv_start hl hs hsim hd

end
end Go.Dt
