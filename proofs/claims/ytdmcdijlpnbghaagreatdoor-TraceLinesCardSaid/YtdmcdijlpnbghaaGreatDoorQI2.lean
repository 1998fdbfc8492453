/- Several texts in one: Dt3, Dt4, Dt5. -/
import Derived.Test.YtdmcdijlpnbghaaGreatDoorQI1
import Derived.Laws.CopyRow
import Derived.Laws.Cells
namespace Go.Dt

section


section
variable {P : Program} {ops : Array Oper} {A : Nat → List Value} {M : Nat → List Blk} {F : Nat → Fp} {SF : Nat → Option (Nat × Blk)}

def dstOf (ops : Array Oper) (k : Nat) : Option Nat := (ops[k]?).bind (·.dst)
/-- Does operation k write slot x? block b? -/
def wrS (ops : Array Oper) (x k : Nat) : Bool := dstOf ops k == some x
def wrB (M : Nat → List Blk) (F : Nat → Fp) (b k : Nat) : Bool := (F k).wr.contains b || (decide ((M k).length ≤ b) && decide (b < (M (k + 1)).length))
/-- What operation k looks at. -/
def rdS (ops : Array Oper) (k : Nat) : List Nat := match ops[k]? with
  | none => []
  | some o => slotsOf o ++ (guardSlot ops o).toList

def slotAt (ops : Array Oper) (A : Nat → List Value) (S : Nat → Bool) (x : Nat) : Value := (A (cur (wrS ops x) S ops.size)).getD x undef
def contAt (ops : Array Oper) (M : Nat → List Blk) (F : Nat → Fp) (S : Nat → Bool) : Cont := fun b => (M (cur (wrB M F b) S ops.size)).getD b .gone

structure Inv (ops : Array Oper) (A : Nat → List Value) (M : Nat → List Blk) (F : Nat → Fp) (ι0 : Map) (w0 : World) (S : Nat → Bool) (ι : Map) (t : Array Value) (w : World) : Prop where
  size : (A 0).length ≤ t.size
  slots : ∀ x, RV ι (slotAt ops A S x) (t.getD x undef)
  sim : Sim ι (contAt ops M F S) w
  dom : ∀ b, ι b ≠ none → b < (M 0).length ∨ ∃ k, k < ops.size ∧ S k = true ∧ (M k).length ≤ b ∧ b < (M (k + 1)).length
  ext : Ext ι0 (at_ (M 0)) w0 ι (contAt ops M F S) w

/-- Operation i may come now. -/
structure Fits (ops : Array Oper) (M : Nat → List Blk) (F : Nat → Fp) (S : Nat → Bool) (i : Nat) : Prop where
  slot : ∀ x, (x ∈ rdS ops i ∨ dstOf ops i = some x) → (∀ k, k < i → wrS ops x k = true → S k = true) ∧ (∀ k, i < k → k < ops.size → wrS ops x k = true → S k = false)
  block : ∀ b, (b ∈ (F i).rd ∨ ((M i).length ≤ b ∧ b < (M (i + 1)).length)) → (∀ k, k < i → wrB M F b k = true → S k = true) ∧ (∀ k, i < k → k < ops.size → wrB M F b k = true → S k = false)

theorem step_facts {i : Nat} (h : StepS P ops i (A i) (M i) (A (i + 1)) (M (i + 1)) (F i) (SF i)) :
    (M i).length ≤ (M (i + 1)).length ∧ (∀ b, b ∈ (F i).wr → b ∈ (F i).rd) ∧ (∀ b, b ∈ (F i).rd → b < (M i).length) ∧
    (∀ b, b < (M i).length → b ∉ (F i).wr → (M (i + 1)).getD b .gone = (M i).getD b .gone) ∧ (A (i + 1)).length = (A i).length ∧
    ∀ x, dstOf ops i ≠ some x → (A (i + 1)).getD x undef = (A i).getD x undef := by
  generalize hA : A (i + 1) = A' at *
  generalize hM : M (i + 1) = M' at *
  generalize hF : F i = F' at *
  generalize hS : SF i = S' at *
  cases h with
  | hard h =>
    cases h with
    | skip ho hw =>
      refine ⟨Nat.le_refl _, by simp, by simp, fun _ _ _ => rfl, length_put _ _ _, fun x hx => getD_put ?_⟩
      simpa [dstOf, ho] using hx
    | op ho hw h =>
      refine ⟨h.len, h.sub, h.rdlt, h.same, length_put _ _ _, fun x hx => getD_put ?_⟩
      simpa [dstOf, ho] using hx
  | soft ho hw h h2 hwr hb =>
    refine ⟨Nat.le_refl _, by simp, fun r hr => h.rdlt r (List.mem_filter.1 hr).1, fun _ _ _ => rfl, length_put _ _ _, fun x hx => getD_put ?_⟩
    simpa [dstOf, ho] using hx

theorem inv_step {ι0 : Map} {w0 : World} {S : Nat → Bool} {ι : Map} {t : Array Value} {w : World} {i : Nat} (hall : ∀ k, k < ops.size → StepS P ops k (A k) (M k) (A (k + 1)) (M (k + 1)) (F k) (SF k))
    (hi : i < ops.size) (hS : S i = false) (hf : Fits ops M F S i) (hsoft : ∀ b x, SF i = some (b, x) → contAt ops M F S b = (M i).getD b .gone ∨ contAt ops M F S b = x) (hinv : Inv ops A M F ι0 w0 S ι t w) (next : Act → World → Prop) (Q : Exit → Act → World → Prop)
    (hn : ∀ t' w' ι', Inv ops A M F ι0 w0 (ins S i) ι' t' w' → next (act t') w') : wpOp P ops Q i next (act t) w := by
  have lenM : ∀ k, k ≤ ops.size → ∀ j, j ≤ k → (M j).length ≤ (M k).length := by
    intro k
    induction k with
    | zero => intro _ j hj; rw [Nat.le_zero.1 hj]; exact Nat.le_refl _
    | succ k ih =>
      intro hk j hj
      rcases Nat.eq_or_lt_of_le hj with e | hlt
      · rw [e]; exact Nat.le_refl _
      · exact Nat.le_trans (ih (by omega) j (by omega)) (step_facts (hall k (by omega))).1
  have lenA : ∀ k, k ≤ ops.size → (A k).length = (A 0).length := by
    intro k
    induction k with
    | zero => intro _; rfl
    | succ k ih => intro hk; rw [(step_facts (hall k (by omega))).2.2.2.2.1]; exact ih (by omega)
  have stS : ∀ x k, k < ops.size → wrS ops x k = false → (A (k + 1)).getD x undef = (A k).getD x undef := fun x k hk hw =>
    (step_facts (hall k hk)).2.2.2.2.2 x (by simpa [wrS] using hw)
  have stB : ∀ b k, k < ops.size → wrB M F b k = false → (M (k + 1)).getD b .gone = (M k).getD b .gone := fun b k hk hw => by
    simp only [wrB, Bool.or_eq_false_iff, Bool.and_eq_false_iff, decide_eq_false_iff_not] at hw
    obtain ⟨hw1, hw2⟩ := hw
    by_cases hb : b < (M k).length
    · exact (step_facts (hall k hk)).2.2.2.1 b hb (by simpa using hw1)
    · have h2 : ¬ b < (M (k + 1)).length := by omega
      simp [List.getD_eq_getElem?_getD, List.getElem?_eq_none (Nat.le_of_not_lt hb), List.getElem?_eq_none (Nat.le_of_not_lt h2)]
  have slotNow : ∀ x, (x ∈ rdS ops i ∨ dstOf ops i = some x) → slotAt ops A S x = (A i).getD x undef := fun x hx => by
    unfold slotAt
    rw [cur_read (Nat.le_of_lt hi) (hf.slot x hx).1 (fun k h1 h2 hw => by
      rcases Nat.eq_or_lt_of_le h1 with e | h1
      · rw [← e]; exact hS
      · exact (hf.slot x hx).2 k h1 h2 hw)]
    exact cur_state (X := fun k => (A k).getD x undef) i (fun k hk hw => stS x k (by omega) hw)
  have blockNow : ∀ b, (b ∈ (F i).rd ∨ ((M i).length ≤ b ∧ b < (M (i + 1)).length)) → contAt ops M F S b = (M i).getD b .gone := fun b hb => by
    unfold contAt
    rw [cur_read (Nat.le_of_lt hi) (hf.block b hb).1 (fun k h1 h2 hw => by
      rcases Nat.eq_or_lt_of_le h1 with e | h1
      · rw [← e]; exact hS
      · exact (hf.block b hb).2 k h1 h2 hw)]
    exact cur_state (X := fun k => (M k).getD b .gone) i (fun k hk hw => stB b k (by omega) hw)
  have slotThen : ∀ x, slotAt ops A (ins S i) x = if wrS ops x i then (A (i + 1)).getD x undef else slotAt ops A S x := fun x => by
    unfold slotAt
    cases hw : wrS ops x i with
    | true => simp only [if_true]; rw [cur_ins_self hi hw ((hf.slot x (.inr (by simpa [wrS] using hw))).2)]
    | false => simp only [Bool.false_eq_true, if_false]; rw [cur_ins_other hw]
  have facts := step_facts (hall i hi)
  have blockThen : ∀ b, contAt ops M F (ins S i) b = if wrB M F b i then (M (i + 1)).getD b .gone else contAt ops M F S b := fun b => by
    unfold contAt
    cases hw : wrB M F b i with
    | true =>
      simp only [if_true]
      rw [cur_ins_self hi hw ((hf.block b ?_).2)]
      simp only [wrB, Bool.or_eq_true, Bool.and_eq_true, decide_eq_true_eq, List.contains_eq_mem] at hw
      exact hw.imp (facts.2.1 b) id
    | false => simp only [Bool.false_eq_true, if_false]; rw [cur_ins_other hw]
  have lenAt : ∀ k, k ≤ ops.size → (A k).length ≤ t.size := fun k hk => by rw [lenA k hk]; exact hinv.size
  have domLt : ∀ b, ι b ≠ none → b < (M i).length ∨ (M (i + 1)).length ≤ b := fun b hb => by
    rcases hinv.dom b hb with h | ⟨k, hk, hSk, h1, h2⟩
    · exact .inl (Nat.lt_of_lt_of_le h (lenM i (by omega) 0 (by omega)))
    · have hne : k ≠ i := fun e => by rw [e, hS] at hSk; cases hSk
      rcases Nat.lt_or_gt_of_ne hne with h | h
      · exact .inl (Nat.lt_of_lt_of_le h2 (lenM i (by omega) (k + 1) (by omega)))
      · exact .inr (Nat.le_trans (lenM k (by omega) (i + 1) (by omega)) h1)
  -- what is left to show of the invariant behind the step
  have close : ∀ (t' : Array Value) (w' : World) (ι' : Map), t'.size = t.size → (∀ x, RV ι' (slotAt ops A (ins S i) x) (t'.getD x undef)) → Sim ι' (contAt ops M F (ins S i)) w' →
      (∀ b, ι b = none → ι' b ≠ none → (M i).length ≤ b ∧ b < (M (i + 1)).length) → Ext ι (contAt ops M F S) w ι' (contAt ops M F (ins S i)) w' → next (act t') w' := fun t' w' ι' h1 h2 h3 h4 h5 => by
    refine hn t' w' ι' ⟨by rw [h1]; exact hinv.size, h2, h3, fun b hb => ?_, hinv.ext.trans h5⟩
    cases hb0 : ι b with
    | none => exact .inr ⟨i, hi, by simp [ins], h4 b hb0 hb⟩
    | some L => exact (hinv.dom b (by simp [hb0])).imp id (fun ⟨k, hk, hSk, h⟩ => ⟨k, hk, by simp [ins, hSk], h⟩)
  have hstep := hall i hi
  unfold wpOp
  cases hstep' : ops[i]? with
  | none => exact absurd hstep' (by simp [hi])
  | some o =>
    simp only []
    have hd : dstOf ops i = o.dst := by simp [dstOf, hstep']
    have hwi : ∀ x, wrS ops x i = (o.dst == some x) := fun x => by simp [wrS, hd]
    have hrd : rdS ops i = slotsOf o ++ (guardSlot ops o).toList := by simp [rdS, hstep']
    have rvNow : ∀ x, x ∈ rdS ops i → RV ι ((A i).getD x undef) (t.getD x undef) := fun x hx => by rw [← slotNow x (.inl hx)]; exact hinv.slots x
    have guardOk : ∀ x, guardSlot ops o = some x → RV ι ((A i).getD x undef) (t.getD x undef) := fun x hx => rvNow x (by rw [hrd]; simp [hx])
    have newSlots : ∀ (v v' : Value) (ι' : Map), A (i + 1) = put (A i) o.dst v → Le ι ι' → RV ι' v v' → ∀ x, RV ι' (slotAt ops A (ins S i) x) (((act t).put o.dst v').tmps.getD x undef) := fun v v' ι' hA hle hv x => by
      rw [slotThen x, hwi]
      by_cases hx : o.dst = some x
      · simp only [hx, beq_self_eq_true, if_true]
        rw [hA, hx]
        exact rv_put (lenAt i (by omega)) hv x ((by rw [← slotNow x (.inr (by rw [hd, hx]))]; exact (hinv.slots x).mono hle))
      · have : (o.dst == some x) = false := by simpa using hx
        simp only [this, Bool.false_eq_true, if_false]
        have h2 : ((act t).put o.dst v').tmps.getD x undef = t.getD x undef := by
          cases hdd : o.dst with
          | none => rfl
          | some d =>
            have : d ≠ x := fun e => hx (by rw [hdd, e])
            simp [Act.put, act, Array.getElem?_setIfInBounds_ne this]
        rw [h2]
        exact (hinv.slots x).mono hle
    have putSize : ∀ v', ((act t).put o.dst v').tmps.size = t.size := fun v' => by cases o.dst <;> simp [Act.put, act]
    have putAct : ∀ v', (act t).put o.dst v' = act ((act t).put o.dst v').tmps := fun v' => by cases o.dst <;> rfl
    generalize hA' : A (i + 1) = A' at *
    generalize hM' : M (i + 1) = M' at *
    generalize hF' : F i = F' at *
    generalize hSF' : SF i = SF' at *
    cases hstep with
    | hard hstep => cases hstep with
      | skip ho hw =>
        rw [hstep'] at ho; cases ho
        have hwant : Region.wanted o (yielded ops (act t).tmps) = false := wanted_of hw guardOk
        rw [if_neg (by rw [hwant]; exact Bool.false_ne_true)]
        rw [putAct]
        have hcont : contAt ops M F (ins S i) = contAt ops M F S := by
          funext b
          rw [blockThen b]
          have : wrB M F b i = false := by
            simp only [wrB, hF', hM', List.contains_nil, Bool.false_or, Bool.and_eq_false_iff, decide_eq_false_iff_not]
            omega
          simp [this]
        refine close _ w ι (putSize _) (newSlots (.chan none) undef ι rfl (Le.refl _) .skip) (by rw [hcont]; exact hinv.sim) (fun b h1 h2 => absurd h1 h2) (by rw [hcont]; exact Ext.refl _ _ _)
      | op ho hw hop =>
        rename_i o2 v
        rw [hstep'] at ho; cases ho
        have hwant : Region.wanted o (yielded ops (act t).tmps) = true := wanted_of hw guardOk
        rw [if_pos hwant]
        refine .inl ?_
        have hCin : (contAt ops M F S).only (isIn F'.rd) = (at_ (M i)).only (isIn F'.rd) := by
          funext b
          unfold Cont.only isIn
          split
          · rename_i hb
            exact blockNow b (.inl (by simpa using hb))
          · rfl
        refine hop.run ι t w (fun x hx => rvNow x (by rw [hrd]; exact List.mem_append_left _ hx)) (fun b h1 h2 => ?_) (by rw [← hCin]; exact hinv.sim.only _) next Q ?_
        · cases hb : ι b with
          | none => rfl
          | some L => have := domLt b (by simp [hb]); omega
        · intro v' w1 ι' hv hext hsim hdom
          have hfr := Sim.frame (C := contAt ops M F S) (C' := at_ M') (D := contAt ops M F (ins S i)) (R := isIn F'.rd) (T := tch F'.rd (M i).length M'.length) hinv.sim
            (fun b hb => by simp only [isIn] at hb; unfold tch; rw [hb]; rfl) (by rw [hCin]; exact hext) hsim (fun b => by
              rw [blockThen b]
              cases hT : tch F'.rd (M i).length M'.length b with
              | true =>
                simp only [if_true]
                cases hwb : wrB M F b i with
                | true => simp [at_]
                | false =>
                  simp only [Bool.false_eq_true, if_false]
                  have hbr : b ∈ F'.rd := by
                    simp only [tch, Bool.or_eq_true, Bool.and_eq_true, decide_eq_true_eq, List.contains_eq_mem] at hT
                    simp only [wrB, hF', hM', Bool.or_eq_false_iff, Bool.and_eq_false_iff, decide_eq_false_iff_not] at hwb
                    rcases hT with h | h
                    · exact h
                    · have := hwb.2; omega
                  rw [blockNow b (.inl hbr)]
                  have := stB b i hi hwb
                  rw [hM'] at this
                  exact this.symm
              | false =>
                simp only [Bool.false_eq_true, if_false]
                have : wrB M F b i = false := by
                  cases hwb : wrB M F b i with
                  | false => rfl
                  | true =>
                    simp only [wrB, hF', hM', Bool.or_eq_true, Bool.and_eq_true, decide_eq_true_eq, List.contains_eq_mem] at hwb
                    simp only [tch, Bool.or_eq_false_iff, Bool.and_eq_false_iff, decide_eq_false_iff_not, List.contains_eq_mem] at hT
                    rcases hwb with h | h
                    · exact absurd (hop.sub b h) hT.1
                    · omega
                simp [this])
          rw [putAct]
          exact close _ w1 ι' (putSize _) (newSlots v v' ι' rfl hext.le hv) hfr.1 (fun b h1 h2 => by have := hdom b h1 h2; omega) hfr.2
    | soft ho hw h h2 hwr hb =>
      rename_i o2 v fp b x
      rw [hstep'] at ho; cases ho
      have hwant : Region.wanted o (yielded ops (act t).tmps) = true := wanted_of hw guardOk
      rw [if_pos hwant]
      refine .inl ?_
      have hwB : ∀ r, wrB M F r i = false := fun r => by
        simp only [wrB, hF', hM', List.contains_nil, Bool.false_or, Bool.and_eq_false_iff, decide_eq_false_iff_not]
        omega
      have hcont : contAt ops M F (ins S i) = contAt ops M F S := by
        funext r
        rw [blockThen r, hwB r]; simp
      have hother : ∀ r, r ∈ fp.rd → r ≠ b → contAt ops M F S r = (M i).getD r .gone := fun r hr hne => blockNow r (.inl (List.mem_filter.2 ⟨hr, by cases h : Nat.beq r b with | false => rfl | true => exact absurd (Nat.eq_of_beq_eq_true h) hne⟩))
      -- the memory as it is now
      have hgo : ∀ mm : List Blk, mm.length = (M i).length → OpOk P o (A i) mm v mm fp → (∀ r, r ∈ fp.rd → contAt ops M F S r = mm.getD r .gone) → o.wp P (act t) w next Q := fun mm hlen hop hag => by
        have hCin : (contAt ops M F S).only (isIn fp.rd) = (at_ mm).only (isIn fp.rd) := by
          funext r
          unfold Cont.only isIn
          split
          · rename_i hr
            exact hag r (by simpa using hr)
          · rfl
        have htch : ∀ r, tch fp.rd mm.length mm.length r = isIn fp.rd r := fun r => by
          unfold tch isIn
          have : (decide (mm.length ≤ r) && decide (r < mm.length)) = false := by
            rw [Bool.and_eq_false_iff, decide_eq_false_iff_not, decide_eq_false_iff_not]; omega
          rw [this, Bool.or_false]
        refine hop.run ι t w (fun x hx => rvNow x (by rw [hrd]; exact List.mem_append_left _ hx)) (fun r h1 h2 => by omega) (by rw [← hCin]; exact hinv.sim.only _) next Q ?_
        intro v' w1 ι' hv hext hsim hdom
        have hfr := Sim.frame (C := contAt ops M F S) (C' := at_ mm) (D := contAt ops M F (ins S i)) (R := isIn fp.rd) (T := tch fp.rd mm.length mm.length) hinv.sim
          (fun r hr => by rw [htch]; exact hr) (by rw [hCin]; exact hext) hsim (fun r => by
            rw [hcont, htch]
            split
            · rename_i hr
              exact hag r (by simpa [isIn] using hr)
            · rfl)
        rw [putAct]
        exact close _ w1 ι' (putSize _) (newSlots v v' ι' rfl hext.le hv) hfr.1 (fun r h1 h2 => by have := hdom r h1 h2; omega) hfr.2
      rcases hsoft b x rfl with hb1 | hb2
      · exact hgo (M i) rfl h fun r hr => by
          by_cases e : r = b
          · rw [e]; exact hb1
          · exact hother r hr e
      · refine hgo ((M i).set b x) (by simp) h2 fun r hr => ?_
        by_cases e : r = b
        · rw [e, hb2, List.getD_eq_getElem?_getD, List.getElem?_set_self hb]; rfl
        · rw [hother r hr e, List.getD_eq_getElem?_getD, List.getD_eq_getElem?_getD, List.getElem?_set_ne (Ne.symm e)]

theorem countP_lt {α : Type} {p q : α → Bool} {x : α} : ∀ {l : List α}, x ∈ l → p x = false → q x = true → (∀ y, y ∈ l → p y = true → q y = true) → l.countP p < l.countP q
  | [], h, _, _, _ => by cases h
  | y :: l, h, hp, hq, hpq => by
    have hle : l.countP p ≤ l.countP q := List.countP_mono_left fun z hz => hpq z (List.mem_cons_of_mem _ hz)
    rcases List.mem_cons.1 h with rfl | h
    · rw [List.countP_cons_of_neg (by simp [hp]), List.countP_cons_of_pos hq]; omega
    · have ih := countP_lt h hp hq (fun z hz => hpq z (List.mem_cons_of_mem _ hz))
      cases hpy : p y with
      | true => rw [List.countP_cons_of_pos hpy, List.countP_cons_of_pos (hpq y (by simp) hpy)]; omega
      | false =>
        rw [List.countP_cons_of_neg (by simp [hpy])]
        exact Nat.lt_of_lt_of_le ih (by rw [List.countP_cons]; omega)

/-- The beginning: nothing has been carried out. -/
theorem cur_none {wr : Nat → Bool} : ∀ n, cur wr (fun _ => false) n = 0
  | 0 => rfl
  | n + 1 => by simp [cur, cur_none n]

theorem cur_congr_wr {wr S S' : Nat → Bool} (n : Nat) (h : ∀ k, k < n → S k = S' k) : cur wr S n = cur wr S' n := cur_congr n fun k hk _ => h k hk

theorem contAt_none : contAt ops M F (fun _ => false) = at_ (M 0) := by
  funext b
  simp [contAt, cur_none, at_]

theorem slotAt_none (x : Nat) : slotAt ops A (fun _ => false) x = (A 0).getD x undef := by simp [slotAt, cur_none]

theorem inv_start {ι : Map} {t : Array Value} {w : World} {n : Nat} (hl : (A 0).length ≤ t.size) (hs : ∀ x, RV ι ((A 0).getD x undef) (t.getD x undef)) (hm : Sim ι (at_ (M 0)) w)
    (hd : ∀ b, ι b ≠ none → b < (M 0).length) : Inv ops A M F ι w (fun _ => false) ι t { w with drawn := n } where
  size := hl
  slots := fun x => by rw [slotAt_none]; exact hs x
  sim := by rw [contAt_none]; exact ⟨hm.blk, hm.sep, hm.fro, hm.apart, hm.glo⟩
  dom := fun b hb => .inl (hd b hb)
  ext := by rw [contAt_none]; exact ⟨Le.refl _, Nat.le_refl _, rfl, rfl, rfl, fun _ _ _ => rfl, fun _ h => .inl h, fun _ h => .inl h, fun _ _ h => .inl h⟩

/-- The end: all of it has been. -/
theorem inv_end {ι0 ι : Map} {w0 w : World} {t : Array Value} {S : Nat → Bool} (hall : ∀ k, k < ops.size → StepS P ops k (A k) (M k) (A (k + 1)) (M (k + 1)) (F k) (SF k))
    (hS : ∀ k, k < ops.size → S k = true) (h : Inv ops A M F ι0 w0 S ι t w) :
    (A 0).length ≤ t.size ∧ (∀ x, RV ι ((A ops.size).getD x undef) (t.getD x undef)) ∧ Sim ι (at_ (M ops.size)) w ∧ (∀ b, ι b ≠ none → b < (M ops.size).length) ∧ Ext ι0 (at_ (M 0)) w0 ι (at_ (M ops.size)) w := by
  have lenM : ∀ k, k ≤ ops.size → ∀ j, j ≤ k → (M j).length ≤ (M k).length := by
    intro k
    induction k with
    | zero => intro _ j hj; rw [Nat.le_zero.1 hj]; exact Nat.le_refl _
    | succ k ih =>
      intro hk j hj
      rcases Nat.eq_or_lt_of_le hj with e | hlt
      · rw [e]; exact Nat.le_refl _
      · exact Nat.le_trans (ih (by omega) j (by omega)) (step_facts (hall k (by omega))).1
  have hc : contAt ops M F S = at_ (M ops.size) := by
    funext b
    unfold contAt
    rw [cur_congr_wr (S' := fun _ => true) _ hS]
    exact cur_state (X := fun k => (M k).getD b .gone) ops.size (fun k hk hw => by
      simp only [wrB, Bool.or_eq_false_iff, Bool.and_eq_false_iff, decide_eq_false_iff_not] at hw
      obtain ⟨hw1, hw2⟩ := hw
      by_cases hb : b < (M k).length
      · exact (step_facts (hall k hk)).2.2.2.1 b hb (by simpa using hw1)
      · have h2 : ¬ b < (M (k + 1)).length := by omega
        simp [List.getD_eq_getElem?_getD, List.getElem?_eq_none (Nat.le_of_not_lt hb), List.getElem?_eq_none (Nat.le_of_not_lt h2)])
  have hs : ∀ x, slotAt ops A S x = (A ops.size).getD x undef := fun x => by
    unfold slotAt
    rw [cur_congr_wr (S' := fun _ => true) _ hS]
    exact cur_state (X := fun k => (A k).getD x undef) ops.size (fun k hk hw => (step_facts (hall k hk)).2.2.2.2.2 x (by simpa [wrS] using hw))
  refine ⟨h.size, fun x => by rw [← hs x]; exact h.slots x, by rw [← hc]; exact h.sim, fun b hb => ?_, by rw [← hc]; exact h.ext⟩
  rcases h.dom b hb with h | ⟨k, hk, _, _, h2⟩
  · exact Nat.lt_of_lt_of_le h (lenM _ (Nat.le_refl _) 0 (Nat.zero_le _))
  · exact Nat.lt_of_lt_of_le h2 (lenM _ (Nat.le_refl _) (k + 1) hk)

/-- What a block holds where all of those ahead have been, and no other one that writes it. -/
theorem cont_read (hall : ∀ k, k < ops.size → StepS P ops k (A k) (M k) (A (k + 1)) (M (k + 1)) (F k) (SF k)) {S : Nat → Bool} {i b : Nat} (hi : i ≤ ops.size) (h1 : ∀ k, k < i → wrB M F b k = true → S k = true)
    (h2 : ∀ k, i ≤ k → k < ops.size → wrB M F b k = true → S k = false) : contAt ops M F S b = (M i).getD b .gone := by
  unfold contAt
  rw [cur_read hi h1 h2]
  exact cur_state (X := fun k => (M k).getD b .gone) i (fun k hk hw => by
    simp only [wrB, Bool.or_eq_false_iff, Bool.and_eq_false_iff, decide_eq_false_iff_not] at hw
    obtain ⟨hw1, hw2⟩ := hw
    by_cases hb : b < (M k).length
    · exact (step_facts (hall k (by omega))).2.2.2.1 b hb (by simpa using hw1)
    · have h2 : ¬ b < (M (k + 1)).length := by omega
      simp [List.getD_eq_getElem?_getD, List.getElem?_eq_none (Nat.le_of_not_lt hb), List.getElem?_eq_none (Nat.le_of_not_lt h2)])
theorem cont_text (hall : ∀ k, k < ops.size → StepS P ops k (A k) (M k) (A (k + 1)) (M (k + 1)) (F k) (SF k)) {i b : Nat} (hi : i ≤ ops.size) : contAt ops M F (fun k => decide (k < i)) b = (M i).getD b .gone :=
  cont_read hall hi (fun k hk _ => by simpa using hk) (fun k hk _ _ => by simp; omega)

/-- A region that is carried out in the order of its text. -/
theorem region_seq {ι : Map} {t : Array Value} {w : World} {Q : Exit → Act → World → Prop} (hall : ∀ k, k < ops.size → StepS P ops k (A k) (M k) (A (k + 1)) (M (k + 1)) (F k) (SF k))
    (hl : (A 0).length ≤ t.size) (hs : ∀ x, RV ι ((A 0).getD x undef) (t.getD x undef)) (hm : Sim ι (at_ (M 0)) w) (hd : ∀ b, ι b ≠ none → b < (M 0).length)
    (hQ : ∀ t' w' ι', (A 0).length ≤ t'.size → (∀ x, RV ι' ((A ops.size).getD x undef) (t'.getD x undef)) → Sim ι' (at_ (M ops.size)) w' → (∀ b, ι' b ≠ none → b < (M ops.size).length) →
      Ext ι (at_ (M 0)) w ι' (at_ (M ops.size)) w' → Q .normal (act t') w') : wpOps P ops Q (List.range ops.size) (act t) w := by
  have key : ∀ d i, d + i = ops.size → ∀ ι' t' w', Inv ops A M F ι w (fun k => decide (k < i)) ι' t' w' → wpOps P ops Q (List.range' i d) (act t') w' := by
    intro d
    induction d with
    | zero =>
      intro i hi ι' t' w' hinv
      obtain ⟨h1, h2, h3, h4, h5⟩ := inv_end hall (fun k hk => by simp; omega) hinv
      exact hQ t' w' ι' h1 h2 h3 h4 h5
    | succ d ih =>
      intro i hi ι' t' w' hinv
      rw [List.range'_succ, wpOps_cons]
      refine inv_step hall (by omega) (by simp) ⟨fun x _ => ⟨fun k hk _ => by simpa using hk, fun k hk _ _ => by simp; omega⟩, fun x _ => ⟨fun k hk _ => by simpa using hk, fun k hk _ _ => by simp; omega⟩⟩ (fun b x _ => .inl (cont_text hall (by omega))) hinv _ _ (fun t2 w2 ι2 h2 => ?_)
      refine ih (i + 1) (by omega) ι2 t2 w2 ?_
      have : (ins (fun k => decide (k < i)) i) = fun k => decide (k < i + 1) := by
        funext k
        by_cases hk : k < i
        · have : k < i + 1 := by omega
          simp [ins, hk, this]
        · by_cases hk2 : k = i
          · simp [ins, hk2]
          · have : ¬ k < i + 1 := by omega
            simp [ins, hk, hk2, this]
      rwa [this] at h2
  have h0 := inv_start (ops := ops) (A := A) (M := M) (F := F) (n := w.drawn) hl hs hm hd
  have := key ops.size 0 (by omega) ι t w (by
    have e : (fun k => decide (k < 0)) = fun _ : Nat => false := by funext k; simp
    rw [e]; exact h0)
  rw [List.range_eq_range']
  exact this

/-! ### Regions that draw -/

/-- What must come ahead: by the edges, one behind the other. -/
inductive Bef (ops : Array Oper) : Nat → Nat → Prop
  | edge {j : Nat} {o : Oper} {e : Edge} (ho : ops[j]? = some o) (he : e ∈ o.after) (hb : Region.binds .any e = true) : Bef ops j e.on
  | far {j : Nat} {o : Oper} {e : Edge} {i : Nat} (ho : ops[j]? = some o) (he : e ∈ o.after) (hb : Region.binds .any e = true) (h : Bef ops e.on i) : Bef ops j i

/-- Do two operations, i ahead of j in the text, stand in each other's way? -/
def conflict (ops : Array Oper) (M : Nat → List Blk) (F : Nat → Fp) (i j : Nat) : Prop :=
  (∃ x, dstOf ops i = some x ∧ (x ∈ rdS ops j ∨ dstOf ops j = some x)) ∨ (∃ x, dstOf ops j = some x ∧ x ∈ rdS ops i) ∨
  (∃ b, wrB M F b i = true ∧ (b ∈ (F j).rd ∨ ((M j).length ≤ b ∧ b < (M (j + 1)).length))) ∨ (∃ b, wrB M F b j = true ∧ (b ∈ (F i).rd ∨ ((M i).length ≤ b ∧ b < (M (i + 1)).length)))

theorem region_draw {id : Nat} {ι : Map} {t : Array Value} {w : World} {Q : Exit → Act → World → Prop} (hm : P.follows .mixedOrders = true) (hall : ∀ k, k < ops.size → StepS P ops k (A k) (M k) (A (k + 1)) (M (k + 1)) (F k) (SF k))
    (hback : ∀ (j : Nat) (o : Oper) (e : Edge), ops[j]? = some o → e ∈ o.after → Region.binds .any e = true → e.on < j)
    (hord : ∀ i j, i < j → j < ops.size → conflict ops M F i j → Bef ops j i)
    (hsf : ∀ i b x, i < ops.size → SF i = some (b, x) → (∀ k, k < i → wrB M F b k = true → Bef ops i k) ∧ ∃ j, i < j ∧ (∀ k, i < k → k < ops.size → k ≠ j → wrB M F b k = true → Bef ops k i) ∧ (j < ops.size → (M (j + 1)).getD b .gone = x))
    (hl : (A 0).length ≤ t.size) (hs : ∀ x, RV ι ((A 0).getD x undef) (t.getD x undef)) (hsim : Sim ι (at_ (M 0)) w) (hd : ∀ b, ι b ≠ none → b < (M 0).length)
    (hQ : ∀ t' w' ι', (A 0).length ≤ t'.size → (∀ x, RV ι' ((A ops.size).getD x undef) (t'.getD x undef)) → Sim ι' (at_ (M ops.size)) w' → (∀ b, ι' b ≠ none → b < (M ops.size).length) →
      Ext ι (at_ (M 0)) w ι' (at_ (M ops.size)) w' → Q .normal (act t') w') : (Code.region id ops true).wp P Q (act t) w := by
  refine wp_region_any hm ?_
  -- the listed operations; what is ahead of a listed one is listed
  have key : ∀ fuel (listed : Array Bool), listed.size = ops.size → (∀ j o e, ops[j]? = some o → listed.getD j false = true → e ∈ o.after → Region.binds .any e = true → listed.getD e.on false = true) →
      (List.range ops.size).countP (fun i => !listed.getD i false) ≤ fuel → ∀ ι' t' w', Inv ops A M F ι w (fun k => listed.getD k false) ι' t' w' → wpAny P .any ops Q fuel listed (act t') w' := by
    have none_left : ∀ (listed : Array Bool), listed.size = ops.size → (∀ j o e, ops[j]? = some o → listed.getD j false = true → e ∈ o.after → Region.binds .any e = true → listed.getD e.on false = true) →
        Region.ready .any ops listed = [] → ∀ k, k < ops.size → listed.getD k false = true := by
      intro listed hsz _ hr k
      induction k using Nat.strongRecOn with
      | _ k ih =>
        intro hk
        cases hlk : listed.getD k false with
        | true => rfl
        | false =>
          have : k ∈ Region.ready .any ops listed := by
            rw [mem_ready]
            refine ⟨?_, ops[k], by simp [hk], fun e he hb => ?_⟩
            · have : k < listed.size := by omega
              simp [this] at hlk ⊢
              exact hlk
            · have hlt := hback k ops[k] e (by simp [hk]) he hb
              exact ih e.on hlt (by omega)
          rw [hr] at this
          cases this
    intro fuel
    induction fuel with
    | zero =>
      intro listed hsz hdc hcnt ι' t' w' hinv
      have hall2 : ∀ k, k < ops.size → listed.getD k false = true := fun k hk => by
        have h0 := Nat.le_zero.1 hcnt
        rw [List.countP_eq_zero] at h0
        have := h0 k (by simpa using hk)
        simpa using this
      refine ⟨?_, ?_⟩
      · cases hr : Region.ready .any ops listed with
        | nil => rfl
        | cons x xs =>
          have hx : x ∈ Region.ready .any ops listed := by rw [hr]; simp
          obtain ⟨h1, o, ho, _⟩ := mem_ready.1 hx
          have hlt : x < ops.size := (Array.getElem?_eq_some_iff.1 ho).1
          have h2 := hall2 x hlt
          have : x < listed.size := by omega
          simp [this] at h1 h2
          rw [h1] at h2; cases h2
      · obtain ⟨h1, h2, h3, h4, h5⟩ := inv_end hall hall2 hinv
        exact hQ t' w' ι' h1 h2 h3 h4 h5
    | succ fuel ih =>
      intro listed hsz hdc hcnt ι' t' w' hinv
      refine ⟨fun hr => ?_, fun i hi => ?_⟩
      · obtain ⟨h1, h2, h3, h4, h5⟩ := inv_end hall (none_left listed hsz hdc hr) hinv
        exact hQ t' w' ι' h1 h2 h3 h4 h5
      · obtain ⟨h1, o, ho, hedges⟩ := mem_ready.1 hi
        have hlt : i < ops.size := (Array.getElem?_eq_some_iff.1 ho).1
        have hlt' : i < listed.size := by omega
        have hun : listed.getD i false = false := by
          simp [hlt'] at h1 ⊢
          exact h1
        -- what is ahead of a listed operation is listed, however far
        have far : ∀ j k, Bef ops j k → listed.getD j false = true → listed.getD k false = true := by
          intro j k hb
          induction hb with
          | edge ho he hb => exact fun hj => hdc _ _ _ ho hj he hb
          | far ho he hb _ ih => exact fun hj => ih (hdc _ _ _ ho hj he hb)
        have mine : ∀ k, Bef ops i k → listed.getD k false = true := by
          intro k hb
          cases hb with
          | edge ho' he hb => rw [ho] at ho'; cases ho'; exact hedges _ he hb
          | far ho' he hb h => rw [ho] at ho'; cases ho'; exact far _ _ h (hedges _ he hb)
        have hfit : Fits ops M F (fun k => listed.getD k false) i := by
          refine ⟨fun x hx => ⟨fun k hk hw => mine k ?_, fun k hk hks hw => ?_⟩, fun b hb => ⟨fun k hk hw => mine k ?_, fun k hk hks hw => ?_⟩⟩
          · exact hord k i hk hlt (.inl ⟨x, by simpa [wrS] using hw, hx⟩)
          · cases hlk : listed.getD k false with
            | false => rfl
            | true =>
              have : Bef ops k i := by
                refine hord i k hk hks ?_
                rcases hx with hx | hx
                · exact .inr (.inl ⟨x, by simpa [wrS] using hw, hx⟩)
                · exact .inl ⟨x, hx, .inr (by simpa [wrS] using hw)⟩
              have := far k i this hlk
              rw [hun] at this; cases this
          · exact hord k i hk hlt (.inr (.inr (.inl ⟨b, hw, hb⟩)))
          · cases hlk : listed.getD k false with
            | false => rfl
            | true =>
              have : Bef ops k i := hord i k hk hks (.inr (.inr (.inr ⟨b, hw, hb⟩)))
              have := far k i this hlk
              rw [hun] at this; cases this
        have hsoft : ∀ b x, SF i = some (b, x) → contAt ops M F (fun k => listed.getD k false) b = (M i).getD b .gone ∨ contAt ops M F (fun k => listed.getD k false) b = x := fun b x hs => by
          obtain ⟨h1, j, hij, h2, h3⟩ := hsf i b x hlt hs
          have after : ∀ k, i < k → k < ops.size → k ≠ j → wrB M F b k = true → listed.getD k false = false := fun k hk hks hkj hw => by
            cases hlk : listed.getD k false with
            | false => rfl
            | true =>
              have := far k i (h2 k hk hks hkj hw) hlk
              rw [hun] at this; cases this
          by_cases hj : j < ops.size ∧ wrB M F b j = true ∧ listed.getD j false = true
          · obtain ⟨hjs, hjw, hjl⟩ := hj
            right
            have e : (fun k => listed.getD k false) = ins (fun k => listed.getD k false) j := by
              funext k
              unfold ins
              by_cases hk : k = j
              · subst hk; simp [hjl]
              · simp [hk]
            unfold contAt
            rw [e, cur_ins_self hjs hjw (fun k hk hks hw => after k (by omega) hks (by omega) hw)]
            exact h3 hjs
          · left
            refine cont_read hall (Nat.le_of_lt hlt) (fun k hk hw => mine k (h1 k hk hw)) (fun k hk hks hw => ?_)
            rcases Nat.eq_or_lt_of_le hk with e | hk
            · rw [← e]; exact hun
            · by_cases hkj : k = j
              · subst hkj
                cases hlk : listed.getD k false with
                | false => rfl
                | true => exact absurd ⟨hks, hw, hlk⟩ hj
              · exact after k hk hks hkj hw
        refine inv_step hall hlt hun hfit hsoft hinv _ _ (fun t2 w2 ι2 h2 => ?_)
        have hset : ∀ k, (listed.setIfInBounds i true).getD k false = (listed.getD k false || k == i) := fun k => by
          by_cases hki : i = k
          · subst hki; simp [hlt']
          · have : (k == i) = false := by simpa using fun e => hki e.symm
            rw [this, Bool.or_false]
            simp [Array.getElem?_setIfInBounds_ne hki]
        refine ih (listed.setIfInBounds i true) (by simpa using hsz) (fun j o' e ho' hj he hb => ?_) ?_ ι2 t2 w2 ?_
        · rw [hset] at hj ⊢
          rw [Bool.or_eq_true] at hj ⊢
          rcases hj with hj | hj
          · exact .inl (hdc j o' e ho' hj he hb)
          · have : j = i := by simpa using hj
            subst this
            rw [ho] at ho'; cases ho'
            exact .inl (hedges e he hb)
        · have hlt2 : (List.range ops.size).countP (fun k => !(listed.setIfInBounds i true).getD k false) < (List.range ops.size).countP (fun k => !listed.getD k false) := by
            refine countP_lt (x := i) (by simpa using hlt) (by rw [hset]; simp) (by rw [hun]; rfl) (fun k _ hk => ?_)
            rw [hset] at hk
            simp only [Bool.not_eq_true', Bool.or_eq_false_iff] at hk
            rw [hk.1]; rfl
          omega
        · have : (ins (fun k => listed.getD k false) i) = fun k => (listed.setIfInBounds i true).getD k false := by
            funext k
            rw [hset]; rfl
          rwa [this] at h2
  refine key ops.size (Array.replicate ops.size false) (by simp) (fun j o e ho hj _ _ => ?_) ?_ ι t _ ?_
  · simp [Array.getElem?_replicate] at hj
    split at hj <;> simp at hj
  · exact Nat.le_trans List.countP_le_length (by simp)
  · have e : (fun k => (Array.replicate ops.size false).getD k false) = fun _ : Nat => false := by
      funext k
      simp [Array.getElem?_replicate]
      split <;> simp
    rw [e]
    exact inv_start hl hs hsim hd

end

end

section


section
variable {P : Program}

theorem tch_self (rd : List Nat) (n : Nat) : tch rd n n = isIn rd := by
  funext b
  unfold tch isIn
  have : (decide (n ≤ b) && decide (b < n)) = false := by
    rw [Bool.and_eq_false_iff, decide_eq_false_iff_not, decide_eq_false_iff_not]; omega
  rw [this, Bool.or_false]

/-- An operation that yields a value, in the world that it got. -/
theorem wp_of_value {o : Oper} {t : Array Value} {w w' : World} {v' : Value} {next : Act → World → Prop} {Q : Exit → Act → World → Prop}
    (h : (execOp (act t).eval o).run P w = .ok (.value v') w') (hn : next ((act t).put o.dst v') w') : o.wp P (act t) w next Q := by
  unfold Oper.wp
  rw [h]
  exact hn

theorem wp_of_skip {o : Oper} {t : Array Value} {w w' : World} {next : Act → World → Prop} {Q : Exit → Act → World → Prop}
    (h : (execOp (act t).eval o).run P w = .ok .skip w') (hn : next ((act t).put o.dst undef) w') : o.wp P (act t) w next Q := by
  unfold Oper.wp
  rw [h]
  exact hn

def FroOk (ι : Map) (w : World) : Prop := ∀ r c, ι.fro r = some c → ∃ t fz, w.heap[r]? = some (.cells c t fz)

theorem OpOk.readsF {o : Oper} {a : List Value} {m : List Blk} {v : Value} {rd : List Nat} (hlt : ∀ b, b ∈ rd → b < m.length)
    (h : ∀ (ι : Map) (t : Array Value) (w : World), (∀ x, x ∈ slotsOf o → RV ι (a.getD x undef) (t.getD x undef)) → (∀ b, b ∈ rd → BlkOk ι w b (m.getD b .gone)) → FroOk ι w →
      ∃ v', RV ι v v' ∧ (execOp (act t).eval o).run P w = .ok (.value v') w) : OpOk P o a m v m ⟨rd, []⟩ where
  len := Nat.le_refl _
  sub := by simp
  rdlt := hlt
  same := fun _ _ _ => rfl
  run := fun ι t w hs _ hsim next Q hn => by
    obtain ⟨v', hv, hr⟩ := h ι t w hs (fun b hb => by
      have := hsim.blk b
      simpa [Cont.only, isIn, hb, at_] using this) hsim.fro
    rw [tch_self] at hn
    exact wp_of_value hr (hn v' w ι hv (Ext.refl _ _ _) hsim (fun _ h1 h2 => absurd h1 h2))

/-- Reads the blocks of 'rd' at most. -/
theorem OpOk.reads {o : Oper} {a : List Value} {m : List Blk} {v : Value} {rd : List Nat} (hlt : ∀ b, b ∈ rd → b < m.length)
    (h : ∀ (ι : Map) (t : Array Value) (w : World), (∀ x, x ∈ slotsOf o → RV ι (a.getD x undef) (t.getD x undef)) → (∀ b, b ∈ rd → BlkOk ι w b (m.getD b .gone)) →
      ∃ v', RV ι v v' ∧ (execOp (act t).eval o).run P w = .ok (.value v') w) : OpOk P o a m v m ⟨rd, []⟩ where
  len := Nat.le_refl _
  sub := by simp
  rdlt := hlt
  same := fun _ _ _ => rfl
  run := fun ι t w hs _ hsim next Q hn => by
    obtain ⟨v', hv, hr⟩ := h ι t w hs (fun b hb => by
      have := hsim.blk b
      simpa [Cont.only, isIn, hb, at_] using this)
    rw [tch_self] at hn
    exact wp_of_value hr (hn v' w ι hv (Ext.refl _ _ _) hsim (fun _ h1 h2 => absurd h1 h2))

/-- Looks at no memory. -/
theorem OpOk.quiet {o : Oper} {a : List Value} {m : List Blk} {v : Value}
    (h : ∀ (ι : Map) (t : Array Value) (w : World), (∀ x, x ∈ slotsOf o → RV ι (a.getD x undef) (t.getD x undef)) → ∃ v', RV ι v v' ∧ (execOp (act t).eval o).run P w = .ok (.value v') w) :
    OpOk P o a m v m ⟨[], []⟩ :=
  OpOk.reads (by simp) fun ι t w hs _ => h ι t w hs

def upd (ι : Map) (b : Nat) (L : Loc) : Map := ⟨fun x => if x = b then some L else ι x, ι.fro⟩
theorem upd_le {ι : Map} {b : Nat} {L : Loc} (h : ι b = none) : Le ι (upd ι b L) := ⟨fun x K hx => by
  unfold upd
  simp only
  split
  · rename_i e; rw [e, h] at hx; cases hx
  · exact hx, fun _ _ h => h⟩
theorem upd_self (ι : Map) (b : Nat) (L : Loc) : upd ι b L b = some L := by simp [upd]
theorem upd_ne {ι : Map} {b x : Nat} {L : Loc} (h : x ≠ b) : upd ι b L x = ι x := by simp [upd, h]

theorem getD_append_new (m : List Blk) (x : Blk) : (m ++ [x]).getD m.length .gone = x := by simp [List.getD_eq_getElem?_getD]
theorem getD_append_old (m : List Blk) (x : Blk) {b : Nat} (h : b < m.length) : (m ++ [x]).getD b .gone = m.getD b .gone := by
  simp [List.getD_eq_getElem?_getD, List.getElem?_append_left h]

/-- A new row of cells behind a memory: what the step does to it. -/
theorem new_row {ι : Map} {m : List Blk} {w : World} {c : List Value} {cr : Array Value} {e : TypeId} {sz : Nat} (hsim : Sim ι ((at_ m).only (isIn [])) w) (hι : ι m.length = none) (hs : c.length ≤ cr.size)
    (hc : ∀ i, i < c.length → RV ι (c.getD i undef) (cr.getD i undef)) :
    let ι' := upd ι m.length ⟨w.heap.size, 0, cr.size, sz, false⟩
    let C' : Cont := (at_ (m ++ [.cells c sz true])).only (tch [] m.length (m ++ [Blk.cells c sz true]).length)
    let w' : World := { w with heap := w.heap.push (.cells cr e) }
    Ext ι ((at_ m).only (isIn [])) w ι' C' w' ∧ Sim ι' C' w' ∧ (∀ b, ι b = none → ι' b ≠ none → m.length ≤ b ∧ b < (m ++ [Blk.cells c sz true]).length) := by
  intro ι' C' w'
  have hC : ∀ b, C' b = if b = m.length then .cells c sz true else .gone := fun b => by
    simp only [C', Cont.only, tch, at_, List.contains_nil, Bool.false_or, List.length_append, List.length_cons, List.length_nil, Bool.and_eq_true, decide_eq_true_eq]
    by_cases hb : b = m.length
    · subst hb
      simp [List.getD_eq_getElem?_getD]
    · rw [if_neg hb, if_neg (by omega)]
  have hw : w'.heap[w.heap.size]? = some (.cells cr e) := by simp [w']
  refine ⟨⟨upd_le hι, by simp [w'], rfl, rfl, rfl, fun k hk _ => ?_, fun k => ?_, fun k => ?_, fun _ _ h => .inl h⟩, ⟨fun b => ?_, fun b b2 L L2 hne ho hl => ?_, fun r c hr => ?_, fun b L r c ho hL hr => ?_, hsim.glo⟩, fun b h1 h2 => ?_⟩
  · simp only [w', Array.getElem?_push]
    rw [if_neg (by omega)]
  · rintro ⟨b, L, ho, hL, hk⟩
    rw [hC] at ho
    split at ho
    · rename_i hb
      subst hb
      rw [show ι' m.length = _ from upd_self _ _ _] at hL; cases hL
      exact .inr (by rw [← hk]; exact Nat.le_refl _)
    · cases ho
  · rintro ⟨b, L, ho, hL, hk⟩
    rw [hC] at ho
    split at ho
    · rename_i hb
      subst hb
      rw [show ι' m.length = _ from upd_self _ _ _] at hL; cases hL
      exact .inr (by rw [← hk]; exact Nat.le_refl _)
    · cases ho
  · rw [hC]
    split
    · rename_i hb
      subst hb
      exact ⟨_, cr, e, (0, 0), upd_self _ _ _, hw, by simpa using hs, fun _ => ⟨rfl, by simp, rfl, rfl⟩, by simp, fun i hi => by simpa using (hc i hi).mono (upd_le hι)⟩
    · trivial
  · rw [hC] at ho hl
    split at ho
    · split at hl
      · rename_i h1 h2; exact absurd (h1.trans h2.symm) hne
      · cases hl
    · cases ho
  · obtain ⟨t, fz, h⟩ := hsim.fro r c hr
    have hlt := (Array.getElem?_eq_some_iff.1 h).1
    refine ⟨t, fz, ?_⟩
    show (w.heap.push _)[r]? = _
    rw [Array.getElem?_push, if_neg (by omega)]; exact h
  · rw [hC] at ho
    split at ho
    · rename_i hb
      subst hb
      rw [show ι' m.length = _ from upd_self _ _ _] at hL; cases hL
      obtain ⟨t, fz, h⟩ := hsim.fro r c hr
      have hlt := (Array.getElem?_eq_some_iff.1 h).1
      simp only
      omega
    · cases ho
  · by_cases hb : b = m.length
    · subst hb; simp
    · rw [show ι' b = ι b from upd_ne hb] at h2; exact absurd h1 h2

/-- Makes a new row of cells, and yields something that may hang on where it lies. -/
theorem OpOk.makes {o : Oper} {a : List Value} {m : List Blk} {v : Value} {c : List Value} {sz : Nat}
    (h : ∀ (ι : Map) (t : Array Value) (w : World), (∀ x, x ∈ slotsOf o → RV ι (a.getD x undef) (t.getD x undef)) →
      ∃ v' cr e, c.length ≤ cr.size ∧ (∀ i, i < c.length → RV ι (c.getD i undef) (cr.getD i undef)) ∧
        (∀ ι', Le ι ι' → ι' m.length = some ⟨w.heap.size, 0, cr.size, sz, false⟩ → RV ι' v v') ∧
        (execOp (act t).eval o).run P w = .ok (.value v') { w with heap := w.heap.push (.cells cr e) }) :
    OpOk P o a m v (m ++ [.cells c sz true]) ⟨[], []⟩ where
  len := by simp
  sub := by simp
  rdlt := by simp
  same := fun b hb _ => getD_append_old _ _ hb
  run := fun ι t w hs hdom hsim next Q hn => by
    obtain ⟨v', cr, e, h1, h2, h3, hr⟩ := h ι t w hs
    have hι : ι m.length = none := hdom m.length (Nat.le_refl _) (by simp)
    obtain ⟨k1, k2, k3⟩ := new_row (w := w) (e := e) (sz := sz) hsim hι h1 h2
    exact wp_of_value hr (hn v' _ _ (h3 _ (upd_le hι) (upd_self _ _ _)) k1 k2 k3)

/-- Writes a block that it owns: the same real block, other cells. -/
theorem put_cells {ι : Map} {m : List Blk} {w : World} {b : Nat} {c c2 : List Value} {sz : Nat} {L : Loc} {c' c2' : Array Value} {e : TypeId}
    (hsim : Sim ι ((at_ m).only (isIn [b])) w) (hb : m.getD b .gone = .cells c sz true) (hblt : b < m.length) (hL : ι b = some L) (hh : w.heap[L.blk]? = some (.cells c' e (0, 0))) (hroom : c'.size = L.off + L.room) (hsz : L.sz = sz) (hro : L.ro = false)
    (hsize : c2'.size = c'.size) (hfit : L.off + c2.length ≤ c2'.size) (hc : ∀ i, i < c2.length → RV ι (c2.getD i undef) (c2'.getD (L.off + i) undef)) :
    let C : Cont := (at_ m).only (isIn [b])
    let C' : Cont := (at_ (m.set b (.cells c2 sz true))).only (tch [b] m.length (m.set b (.cells c2 sz true)).length)
    let w' : World := { w with heap := w.heap.setIfInBounds L.blk (.cells c2' e (0, 0)) }
    Ext ι C w ι C' w' ∧ Sim ι C' w' := by
  intro C C' w'
  have hC : ∀ x, C x = if x = b then .cells c sz true else .gone := fun x => by
    simp only [C, Cont.only, isIn, at_]
    by_cases hx : x = b
    · subst hx; simp only [List.contains_cons, beq_self_eq_true, List.contains_nil, Bool.or_false, if_true]; exact hb
    · simp [hx]
  have hC' : ∀ x, C' x = if x = b then .cells c2 sz true else .gone := fun x => by
    simp only [C', List.length_set, tch_self, Cont.only, isIn, at_]
    by_cases hx : x = b
    · subst hx; simp [List.getD_eq_getElem?_getD, hblt]
    · simp [hx]
  have hlt : L.blk < w.heap.size := (Array.getElem?_eq_some_iff.1 hh).1
  refine ⟨⟨Le.refl _, by simp [w'], rfl, rfl, rfl, fun k hk hn => ?_, fun k => ?_, fun k => ?_, fun _ _ h => .inl h⟩, ⟨fun x => ?_, fun x x2 K K2 hne ho hl => ?_, fun r c hr => ?_, fun x K r c ho hK hr => ?_, hsim.glo⟩⟩
  · have hne : L.blk ≠ k := fun e => hn ⟨b, L, by rw [hC]; simp [Blk.own], hL, e⟩
    simp only [w']
    exact Array.getElem?_setIfInBounds_ne hne
  · rintro ⟨x, K, ho, hK, hk⟩
    rw [hC'] at ho
    split at ho
    · rename_i hx; exact .inl ⟨x, K, by rw [hC, if_pos hx]; rfl, hK, hk⟩
    · cases ho
  · rintro ⟨x, K, ho, hK, hk⟩
    rw [hC'] at ho
    split at ho
    · rename_i hx; exact .inl ⟨x, K, by rw [hC, if_pos hx]; rfl, hK, hk⟩
    · cases ho
  · rw [hC']
    split
    · rename_i hx
      subst hx
      exact ⟨L, c2', e, (0, 0), hL, by simp [w', hlt], hfit, fun _ => ⟨rfl, by rw [hsize]; exact hroom, hsz, hro⟩, by simp, hc⟩
    · trivial
  · rw [hC'] at ho hl
    split at ho
    · split at hl
      · rename_i h1 h2; exact absurd (h1.trans h2.symm) hne
      · cases hl
    · cases ho
  · obtain ⟨t, fz, h⟩ := hsim.fro r c hr
    have hne : L.blk ≠ r := hsim.apart b L r c (by rw [show ((at_ m).only (isIn [b])) b = _ from (hC b)]; simp [Blk.own]) hL hr
    exact ⟨t, fz, by simp only [w']; rw [Array.getElem?_setIfInBounds_ne hne]; exact h⟩
  · rw [hC'] at ho
    split at ho
    · rename_i hx; subst hx
      exact hsim.apart x K r c (by rw [show ((at_ m).only (isIn [x])) x = _ from (hC x)]; simp [Blk.own]) hK hr
    · cases ho

theorem OpOk.writes {o : Oper} {a : List Value} {m : List Blk} {b : Nat} {c c2 : List Value} {sz : Nat} {v : Value} (hb : m.getD b .gone = .cells c sz true) (hblt : b < m.length)
    (h : ∀ (ι : Map) (t : Array Value) (w : World) (L : Loc) (c' : Array Value) (e : TypeId), (∀ x, x ∈ slotsOf o → RV ι (a.getD x undef) (t.getD x undef)) → ι b = some L →
      w.heap[L.blk]? = some (.cells c' e (0, 0)) → c'.size = L.off + L.room → L.sz = sz → L.off + c.length ≤ c'.size → (∀ i, i < c.length → RV ι (c.getD i undef) (c'.getD (L.off + i) undef)) →
      ∃ c2' : Array Value, c2'.size = c'.size ∧ L.off + c2.length ≤ c'.size ∧ (∀ i, i < c2.length → RV ι (c2.getD i undef) (c2'.getD (L.off + i) undef)) ∧
        ∃ r v', (execOp (act t).eval o).run P w = .ok r { w with heap := w.heap.setIfInBounds L.blk (.cells c2' e (0, 0)) } ∧ RV ι v v' ∧ (r = .value v' ∨ (r = .skip ∧ v' = undef))) :
    OpOk P o a m v (m.set b (.cells c2 sz true)) ⟨[b], [b]⟩ where
  len := by simp
  sub := by simp
  rdlt := by simpa using hblt
  same := fun x _ hn => by
    have hne : b ≠ x := fun e => hn (by simp [e])
    simp [List.getD_eq_getElem?_getD, List.getElem?_set_ne hne]
  run := fun ι t w hs _ hsim next Q hn => by
    have hB := hsim.blk b
    have hCb : (at_ m).only (isIn [b]) b = .cells c sz true := by simp only [Cont.only, isIn, at_, List.contains_cons, beq_self_eq_true, Bool.true_or, if_true]; exact hb
    rw [hCb] at hB
    obtain ⟨L, c', e, fz, hL, hh, hfit, hrw, _, hcells⟩ := hB
    obtain ⟨rfl, hroom, hsz, hro⟩ := hrw rfl
    obtain ⟨c2', h1, h2, h3, r, v', hr, hv, hrv⟩ := h ι t w L c' e hs hL hh hroom hsz hfit hcells
    obtain ⟨k1, k2⟩ := put_cells hsim hb hblt hL hh hroom hsz hro h1 (by omega) h3
    rcases hrv with rfl | ⟨rfl, rfl⟩
    · exact wp_of_value hr (hn v' _ _ hv k1 k2 (fun _ h1 h2 => absurd h1 h2))
    · exact wp_of_skip hr (hn undef _ _ hv k1 k2 (fun _ h1 h2 => absurd h1 h2))

end

end

section
open Go.Instr

/-! ### Values without addresses -/
mutual
def plain : Value → Bool
  | .bool _ | .int _ _ | .float _ _ | .string _ | .nilFunc | .nilIface => true
  | .pointer none | .slice none _ _ | .map none => true
  | .iface t v => Nat.blt t frzT && plain v
  | .agg ⟨l⟩ => plains l
  | .tuple ⟨l⟩ => !l.isEmpty && plains l
  | _ => false
def plains : List Value → Bool
  | [] => true
  | v :: l => plain v && plains l
end

theorem plains_get : ∀ {l : List Value} {i : Nat}, plains l = true → i < l.length → plain (l.getD i undef) = true
  | v :: l, 0, h, _ => by simp only [plains, Bool.and_eq_true] at h; simpa [List.getD_eq_getElem?_getD] using h.1
  | v :: l, i + 1, h, hi => by
    simp only [plains, Bool.and_eq_true] at h
    simpa [List.getD_eq_getElem?_getD] using plains_get (i := i) h.2 (by simpa using hi)

mutual
theorem RV.refl (ι : Map) : ∀ v : Value, plain v = true → RV ι v v
  | .bool b, _ => .bool b
  | .int k n, _ => .int k n
  | .float k n, _ => .float k n
  | .string s, _ => .string s
  | .nilFunc, _ => .nilFunc
  | .nilIface, _ => .nilIface
  | .pointer none, _ => .nilp
  | .slice none l c, _ => .nils l c
  | .map none, _ => .nilm
  | .iface t v, h => .iface t (by simp only [plain, Bool.and_eq_true] at h; exact Nat.lt_of_succ_le (Nat.le_of_ble_eq_true h.1)) (RV.refl ι v (by simp only [plain, Bool.and_eq_true] at h; exact h.2))
  | .agg ⟨l⟩, h => .agg rfl (by simpa using RV.refls ι l (by simpa [plain] using h))
  | .tuple ⟨l⟩, h => .tuple rfl (by simpa using RV.refls ι l (by simp only [plain, Bool.and_eq_true] at h; exact h.2))
  | .complex _ _ _, h => by simp [plain] at h
  | .pointer (some _), h => by simp [plain] at h
  | .slice (some _) _ _, h => by simp [plain] at h
  | .map (some _), h => by simp [plain] at h
  | .chan _, h => by simp [plain] at h
  | .func _ _ _, h => by simp [plain] at h
theorem RV.refls (ι : Map) : ∀ l : List Value, plains l = true → ∀ i : Nat, RV ι (l[i]?.getD undef) (l[i]?.getD undef)
  | [], _, i => by simpa using RV.any undef
  | v :: l, h, 0 => by simp only [plains, Bool.and_eq_true] at h; simpa using RV.refl ι v h.1
  | v :: l, h, i + 1 => by simp only [plains, Bool.and_eq_true] at h; simpa using RV.refls ι l h.2 i
end

theorem arr_ext {cs cs' : Array Value} (hs : cs.size = cs'.size) (h : ∀ i : Nat, i < cs.size → cs.getD i undef = cs'.getD i undef) : cs = cs' := by
  apply Array.ext hs
  intro i h1 h2
  have := h i h1
  simpa [h1, h2] using this

theorem RV.eq_of_plain {ι : Map} {v v' : Value} (h : RV ι v v') (hp : plain v = true) : v = v' := by
  induction h with
  | any v => simp [plain, undef] at hp
  | skip => simp [plain] at hp
  | agg hs h ih =>
    rename_i cs cs'
    have : cs = cs' := arr_ext hs fun i hi => ih i (by
      obtain ⟨l⟩ := cs
      simp only [plain] at hp
      have := plains_get (i := i) hp (by simpa using hi)
      simpa [List.getD_eq_getElem?_getD] using this)
    rw [this]
  | tuple hs h ih =>
    rename_i cs cs'
    have : cs = cs' := arr_ext hs fun i hi => ih i (by
      obtain ⟨l⟩ := cs
      simp only [plain, Bool.and_eq_true] at hp
      have := plains_get (i := i) hp.2 (by simpa using hi)
      simpa [List.getD_eq_getElem?_getD] using this)
    rw [this]
  | iface t ht h ih => rw [ih (by simp only [plain, Bool.and_eq_true] at hp; exact hp.2)]
  | frz => exact absurd ((Bool.and_eq_true _ _).mp hp).1 (by decide)
  | frzN => exact absurd ((Bool.and_eq_true _ _).mp hp).1 (by decide)
  | frzE => exact absurd ((Bool.and_eq_true _ _).mp hp).1 (by decide)
  | empN => exact absurd ((Bool.and_eq_true _ _).mp hp).1 (by decide)
  | empE => exact absurd ((Bool.and_eq_true _ _).mp hp).1 (by decide)
  | anyB => exact absurd ((Bool.and_eq_true _ _).mp hp).1 (by decide)
  | frp => exact absurd ((Bool.and_eq_true _ _).mp hp).1 (by decide)
  | ptr h => simp [plain] at hp
  | slice h hc hr => simp [plain] at hp
  | slice0 x y => simp [plain] at hp
  | map h => simp [plain] at hp
  | func fn hx hy h h' => simp [plain] at hp
  | yld h => simp [plain] at hp
  | _ => rfl

theorem pures_get : ∀ {l : List Value} {i : Nat}, pures l = true → i < l.length → pureV (l.getD i undef) = true
  | v :: l, 0, h, _ => by simp only [pures, Bool.and_eq_true] at h; simpa [List.getD_eq_getElem?_getD] using h.1
  | v :: l, i + 1, h, hi => by
    simp only [pures, Bool.and_eq_true] at h
    simpa [List.getD_eq_getElem?_getD] using pures_get (i := i) h.2 (by simpa using hi)

mutual
theorem pure_of_plain : ∀ v : Value, plain v = true → pureV v = true
  | .bool _, _ => rfl
  | .int _ _, _ => rfl
  | .float _ _, _ => rfl
  | .string _, _ => rfl
  | .nilFunc, _ => rfl
  | .nilIface, _ => rfl
  | .pointer none, _ => rfl
  | .slice none _ _, _ => rfl
  | .map none, _ => rfl
  | .iface t v, h => by
    simp only [plain, Bool.and_eq_true] at h
    simp only [pureV, pure_of_plain v h.2, h.1, cond_true]
  | .agg ⟨l⟩, h => by simpa [pureV] using pures_of_plains l (by simpa [plain] using h)
  | .tuple ⟨l⟩, h => by simp only [plain, Bool.and_eq_true] at h; simp only [pureV, h.1, pures_of_plains l h.2, Bool.and_self]
  | .complex _ _ _, h => by simp [plain] at h
  | .pointer (some _), h => by simp [plain] at h
  | .slice (some _) _ _, h => by simp [plain] at h
  | .map (some _), h => by simp [plain] at h
  | .chan _, h => by simp [plain] at h
  | .func _ _ _, h => by simp [plain] at h
theorem pures_of_plains : ∀ l : List Value, plains l = true → pures l = true
  | [], _ => rfl
  | v :: l, h => by simp only [plains, Bool.and_eq_true] at h; simp only [pures, pure_of_plain v h.1, pures_of_plains l h.2, Bool.and_self]
end

theorem RV.pure_move {ι ι2 : Map} (hf : ∀ r c, ι.fro r = some c → ι2.fro r = some c) {v x : Value} (h : RV ι v x) (hp : pureV v = true) : RV ι2 v x := by
  induction h with
  | any v => exact .any v
  | skip => exact .skip
  | bool b => exact .bool b
  | int k n => exact .int k n
  | float k n => exact .float k n
  | string s => exact .string s
  | nilp => exact .nilp
  | ptr h => simp [pureV] at hp
  | nils l c => exact .nils l c
  | slice h hc hr => simp [pureV] at hp
  | slice0 x y => exact .slice0 x y
  | nilm => exact .nilm
  | map h => simp [pureV] at hp
  | func fn hx hy _ _ i1 i2 =>
    rename_i xs xs' ys ys' _ _
    obtain ⟨l⟩ := xs
    obtain ⟨k⟩ := ys
    simp only [pureV, Bool.and_eq_true] at hp
    refine .func fn hx hy (fun i => ?_) (fun i => ?_)
    · by_cases hi : i < l.length
      · exact i1 i (by have := pures_get (i := i) hp.1 hi; simpa [List.getD_eq_getElem?_getD] using this)
      · have e : (⟨l⟩ : Array Value).getD i undef = undef := by simp [Array.getD_eq_getD_getElem?, List.getElem?_eq_none (Nat.le_of_not_lt hi)]
        rw [e]; exact .any _
    · by_cases hi : i < k.length
      · exact i2 i (by have := pures_get (i := i) hp.2 hi; simpa [List.getD_eq_getElem?_getD] using this)
      · have e : (⟨k⟩ : Array Value).getD i undef = undef := by simp [Array.getD_eq_getD_getElem?, List.getElem?_eq_none (Nat.le_of_not_lt hi)]
        rw [e]; exact .any _
  | nilFunc => exact .nilFunc
  | yld h => cases hp
  | iface t ht _ ih =>
    simp only [pureV, Nat.blt, Nat.ble_eq_true_of_le (Nat.succ_le_of_lt ht), cond_true] at hp
    exact .iface t ht (ih hp)
  | frz h hn hp' hfit _ ih => exact .frz (hf _ _ h) hn hp' hfit fun i hi => ih i hi (pures_get hp' hi)
  | frzN => exact .frzN
  | frzE x cap => exact .frzE x cap
  | empN => exact .empN
  | empE x => exact .empE x
  | anyB b => exact .anyB b
  | frp h hp' hfit _ ih => exact .frp (hf _ _ h) hp' hfit fun i hi => ih i hi (pures_get hp' hi)
  | nilIface => exact .nilIface
  | agg hs _ ih =>
    rename_i cs cs' _
    obtain ⟨l⟩ := cs
    have hp : pures l = true := by simpa [pureV] using hp
    refine .agg hs fun i => ?_
    by_cases hi : i < l.length
    · exact ih i (by have := pures_get (i := i) hp hi; simpa [List.getD_eq_getElem?_getD] using this)
    · have e : (⟨l⟩ : Array Value).getD i undef = undef := by simp [Array.getD_eq_getD_getElem?, List.getElem?_eq_none (Nat.le_of_not_lt hi)]
      rw [e]; exact .any _
  | tuple hs _ ih =>
    rename_i cs cs' _
    obtain ⟨l⟩ := cs
    have hp : pures l = true := by simp only [pureV, Bool.and_eq_true] at hp; exact hp.2
    refine .tuple hs fun i => ?_
    by_cases hi : i < l.length
    · exact ih i (by have := pures_get (i := i) hp hi; simpa [List.getD_eq_getElem?_getD] using this)
    · have e : (⟨l⟩ : Array Value).getD i undef = undef := by simp [Array.getD_eq_getD_getElem?, List.getElem?_eq_none (Nat.le_of_not_lt hi)]
      rw [e]; exact .any _

/-! ### Operands -/
def evalC (a : List Value) : Operand → Value
  | .tmp t => a.getD t undef
  | .const v => v
  | .global _ => undef
  | .func f => .func (.func f) #[] #[]

def okConst : Operand → Bool
  | .const v => plain v
  | _ => true

theorem mem_slots {o : Oper} {t : Nat} (h : Operand.tmp t ∈ o.op.operands) : t ∈ slotsOf o := by
  unfold slotsOf
  rw [List.mem_filterMap]
  exact ⟨.tmp t, by simpa using h, rfl⟩

theorem rv_operand {ι : Map} {a : List Value} {t : Array Value} {o : Oper} (hs : ∀ x, x ∈ slotsOf o → RV ι (a.getD x undef) (t.getD x undef)) {x : Operand} (hx : x ∈ o.op.operands) (hc : okConst x = true) :
    RV ι (evalC a x) ((act t).eval x) := by
  cases x with
  | tmp n => exact hs n (mem_slots hx)
  | const v => exact RV.refl ι v hc
  | global g => exact .any _
  | func f => exact .func _ rfl rfl (fun i => by simpa using RV.any undef) (fun i => by simpa using RV.any undef)

/-! ### Operations that look at nothing but plain values -/
def pureEval (P : Program) {α : Type} : Sem α → Option α
  | .pure a => some a
  | .program k => pureEval P (k P)
  | _ => none

theorem run_of_pureEval {P : Program} {α : Type} {s : Sem α} {x : α} (h : pureEval P s = some x) (w : World) : s.run P w = .ok x w := by
  induction s with
  | pure a => simp only [pureEval] at h; cases h; rfl
  | program k ih => simp only [pureEval] at h; exact ih P h
  | _ => simp [pureEval] at h

def notSelect (o : Oper) : Bool := match o.op with | .select .. => false | _ => true
def plainOperand (a : List Value) : Operand → Bool
  | .tmp t => plain (a.getD t undef)
  | .const _ => true
  | .global _ => false
  | .func _ => true

theorem OpOk.plainOp {P : Program} {o : Oper} {a : List Value} {m : List Blk} {v : Value} (hops : o.op.operands.toList.all (plainOperand a) = true) (hn : notSelect o = true) (hv : plain v = true)
    (h : pureEval P (execOp (evalC a) o) = some (.value v)) : OpOk P o a m v m ⟨[], []⟩ :=
  OpOk.quiet fun ι t w hs => by
    refine ⟨v, RV.refl ι v hv, ?_⟩
    have hcongr : execOp (act t).eval o = execOp (evalC a) o := by
      refine execOp_congr o (fun cs b hsel => by simp [notSelect, hsel] at hn) fun x hx => ?_
      have hp := List.all_eq_true.1 hops x (by simpa using hx)
      cases x with
      | tmp n => exact ((hs n (mem_slots hx)).eq_of_plain (by simpa [plainOperand] using hp)).symm
      | const v => rfl
      | global g => simp [plainOperand] at hp
      | func f => rfl
    rw [hcongr]
    exact run_of_pureEval h w

/-! ### Values that are handed on -/
section
variable {P : Program} {o : Oper} {a : List Value} {m : List Blk}

theorem OpOk.move {x : Operand} (ho : o.op = .move x ∨ o.op = .assign x) (hc : okConst x = true) : OpOk P o a m (evalC a x) m ⟨[], []⟩ :=
  OpOk.quiet fun ι t w hs => by
    have hx : x ∈ o.op.operands := by rcases ho with ho | ho <;> rw [ho] <;> simp [Op.operands]
    refine ⟨_, rv_operand hs hx hc, ?_⟩
    rcases ho with ho | ho <;> · unfold execOp; rw [ho]; rfl

theorem OpOk.extract {x : Operand} {i : Nat} {vs : Array Value} {v : Value} (ho : o.op = .extract x i) (hx : evalC a x = .tuple vs) (hc : okConst x = true) (hv : vs[i]? = some v) : OpOk P o a m v m ⟨[], []⟩ :=
  OpOk.quiet fun ι t w hs => by
    have h := rv_operand hs (x := x) (by rw [ho]; simp [Op.operands]) hc
    rw [hx] at h
    have hlt : i < vs.size := (Array.getElem?_eq_some_iff.1 hv).1
    generalize hy : (act t).eval x = y at h
    cases h with
    | any => simp at hlt
    | tuple hsz hh =>
      rename_i vs'
      refine ⟨vs'[i]'(by omega), ?_, ?_⟩
      · have := hh i
        have h1 : vs.getD i undef = v := by simp [Array.getD_eq_getD_getElem?, hv]
        have h2 : vs'.getD i undef = vs'[i]'(by omega) := by simp [show i < vs'.size by omega]
        rwa [h1, h2] at this
      · unfold execOp; rw [ho]
        simp only [hy, Instr.extract]
        simp [show i < vs'.size by omega]

def isAggC (P : Program) (t : TypeId) : Option Bool :=
  match P.underlying t with
  | some (.struct _) | some (.array _ _) => some true
  | some _ => some false
  | none => none

theorem run_isAgg {t : TypeId} {b : Bool} (h : isAggC P t = some b) (w : World) : (isAgg t).run P w = .ok b w := by
  unfold isAggC at h
  unfold isAgg
  cases hu : P.underlying t with
  | none => simp [hu] at h
  | some d => cases d <;> simp_all [run_underlying hu w]

def szC (P : Program) (t : TypeId) : Option Nat := (P.info? t).map (·.size)

theorem run_info {t : TypeId} {i : TypeInfo} (h : P.info? t = some i) (w : World) : (typeInfo t).run P w = .ok i w := by
  unfold typeInfo program
  rw [Sem.run_bind]
  show Result.andThen (.ok P w) _ = _
  simp [h]

theorem run_szC {t : TypeId} {n : Nat} (h : szC P t = some n) (w : World) : (sizeOf t).run P w = .ok n w := by
  unfold szC at h
  cases hi : P.info? t with
  | none => simp [hi] at h
  | some i =>
    simp only [hi, Option.map_some, Option.some.injEq] at h
    subst h
    simp [sizeOf, run_info hi]

theorem getD_extract {cs : Array Value} {off n i : Nat} (h : i < n) : (cs.extract off (off + n)).getD i undef = cs.getD (off + i) undef := by
  simp only [Array.getD_eq_getD_getElem?, Array.getElem?_extract]
  by_cases hb : off + i < cs.size
  · rw [if_pos (by omega)]
  · rw [if_neg (by omega)]
    simp [Array.getElem?_eq_none (Nat.le_of_not_lt hb)]

/-- A part of an aggregate: a struct's field, an array's element. -/
def partC (P : Program) (t : TypeId) (cs : Array Value) (off : Nat) : Option Value :=
  match isAggC P t with
  | some true => (szC P t).map fun n => .agg (cs.extract off (off + n))
  | some false => cs[off]?
  | none => none

theorem run_part {ι : Map} {t : TypeId} {cs cs' : Array Value} {off : Nat} {v : Value} (h : partC P t cs off = some v) (hs : cs.size = cs'.size) (hr : ∀ i : Nat, RV ι (cs.getD i undef) (cs'.getD i undef)) (w : World) :
    ∃ v', RV ι v v' ∧ (part t cs' off).run P w = .ok v' w := by
  unfold partC at h
  cases hagg : isAggC P t with
  | none => simp [hagg] at h
  | some b =>
    have hra := run_isAgg hagg w
    cases b with
    | true =>
      simp only [hagg] at h
      cases hz : szC P t with
      | none => simp [hz] at h
      | some n =>
        simp only [hz, Option.map_some, Option.some.injEq] at h
        subst h
        refine ⟨.agg (cs'.extract off (off + n)), .agg (by simp [hs]) (fun i => ?_), ?_⟩
        · by_cases hi : i < n
          · rw [getD_extract hi, getD_extract hi]; exact hr _
          · have : (cs.extract off (off + n)).getD i undef = undef := by
              have h2 : ¬ i < (cs.extract off (off + n)).size := by simp; omega
              simp only [Array.getD, h2, dite_false]
            rw [this]; exact .any _
        · unfold part
          simp [hra, run_szC hz w]
    | false =>
      simp only [hagg] at h
      have hlt : off < cs.size := (Array.getElem?_eq_some_iff.1 h).1
      have hlt' : off < cs'.size := by omega
      refine ⟨cs'[off], ?_, ?_⟩
      · have := hr off
        simp only [Array.getD_eq_getD_getElem?, h] at this
        simpa [hlt'] using this
      · unfold part
        simp [hra, hlt']

theorem RV.agg_inv {ι : Map} {cs : Array Value} {v : Value} (h : RV ι (.agg cs) v) : ∃ cs', v = .agg cs' ∧ cs.size = cs'.size ∧ ∀ i : Nat, RV ι (cs.getD i undef) (cs'.getD i undef) := by
  cases h with
  | agg hs hh => exact ⟨_, rfl, hs, hh⟩

theorem OpOk.field {t : TypeId} {x : Operand} {f : Nat} {fs : Array Field} {fd : Field} {cs : Array Value} {v : Value} (ho : o.op = .field t x f) (hc : okConst x = true) (hx : evalC a x = .agg cs)
    (hu : P.underlying t = some (.struct fs)) (hf : fs[f]? = some fd) (hv : partC P fd.type cs fd.offset = some v) : OpOk P o a m v m ⟨[], []⟩ :=
  OpOk.quiet fun ι tt w hs => by
    have h := rv_operand hs (x := x) (by rw [ho]; simp [Op.operands]) hc
    rw [hx] at h
    obtain ⟨cs', he, hsz, hh⟩ := h.agg_inv
    obtain ⟨v', hv', hr⟩ := run_part hv hsz hh w
    refine ⟨v', hv', ?_⟩
    unfold execOp; rw [ho]
    simp [Instr.field, he, run_underlying hu w, hf, asAgg, hr]

end

end

end Go.Dt
