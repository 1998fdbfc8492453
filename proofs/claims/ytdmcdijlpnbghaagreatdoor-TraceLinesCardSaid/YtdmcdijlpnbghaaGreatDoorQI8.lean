/- Several texts in one: Dt13, Dt14, Dt15. -/
import Derived.Test.YtdmcdijlpnbghaaGreatDoorQI7
import Derived.Below
import Derived.KernelRfl
import Derived.Laws.Externs
namespace Go.Dt

section


section
variable {P : Program} {f : Fr} {n0 : Nat}

def keepL (ks : List Nat) : Nat → List Value → List Value
  | _, [] => []
  | i, v :: l => (if ks.contains i then v else undef) :: keepL ks (i + 1) l

theorem keepL_length (ks : List Nat) : ∀ (i : Nat) (l : List Value), (keepL ks i l).length = l.length
  | _, [] => rfl
  | i, v :: l => by simp [keepL, keepL_length ks (i + 1) l]

theorem keepL_get (ks : List Nat) : ∀ (i : Nat) (l : List Value) (x : Nat), (keepL ks i l).getD x undef = l.getD x undef ∨ (keepL ks i l).getD x undef = undef
  | _, [], x => .inl rfl
  | i, v :: l, 0 => by
    simp only [keepL, List.getD_cons_zero]
    split
    · exact .inl rfl
    · exact .inr rfl
  | i, v :: l, x + 1 => by simpa [keepL] using keepL_get ks (i + 1) l x

def keepS (ks : List Nat) (s : VS) : VS :=
  match s with
  | .norm todo a m => fl (keepL ks 0 a) fun a' => .norm todo a' m
  | s => s

/-- Slots that are not looked at any more. -/
theorem Runs.forget {s : VS} {v : Value} {m' : List Blk} (ks : List Nat) (h : Runs P f n0 (keepS ks s) v m') : Runs P f n0 s v m' := by
  cases s with
  | reg => exact h
  | norm todo a m =>
    simp only [keepS, fl_eq] at h
    intro D ds ι t w hr
    refine h D ds ι t w ⟨by rw [keepL_length]; exact hr.size, fun x => ?_, hr.sim, hr.dom⟩
    rcases keepL_get ks 0 a x with e | e <;> rw [e]
    · exact hr.slots x
    · exact .any _

mutual
/-- Does it name no block from n on? -/
def bnd (n : Nat) : Value → Bool
  | .pointer (some ⟨b, _, none⟩) => Nat.blt b n
  | .slice (some ⟨b, _, none⟩) _ _ => Nat.blt b n
  | .map (some b) => Nat.blt b n
  | .chan (some b) => Nat.blt b n
  | .func _ ⟨xs⟩ ⟨ys⟩ => bnds n xs && bnds n ys
  | .iface t v => bif Nat.blt t frzT then bnd n v else true
  | .agg ⟨l⟩ => bnds n l
  | .tuple ⟨l⟩ => bnds n l
  | _ => true
def bnds (n : Nat) : List Value → Bool
  | [] => true
  | v :: l => bnd n v && bnds n l
end

theorem bnds_get {n : Nat} : ∀ {l : List Value}, bnds n l = true → ∀ i : Nat, bnd n (l.getD i undef) = true
  | [], _, i => by simp [undef, bnd, bnds]
  | v :: l, h, 0 => by simp only [bnds, Bool.and_eq_true] at h; simpa using h.1
  | v :: l, h, i + 1 => by simp only [bnds, Bool.and_eq_true] at h; simpa using bnds_get h.2 i

def cut (n : Nat) (ι : Map) : Map := ⟨fun b => if b < n then ι b else none, ι.fro⟩

theorem RV.cut {ι : Map} {n : Nat} {v v' : Value} (h : RV ι v v') : bnd n v = true → RV (cut n ι) v v' := by
  have lt : ∀ {b : Nat} {L : Loc}, Nat.blt b n = true → ι b = some L → Dt.cut n ι b = some L := fun hb hL => by
    have : _ < n := Nat.lt_of_succ_le (Nat.le_of_ble_eq_true hb)
    simp [Dt.cut, this, hL]
  have gets : ∀ {cs : Array Value}, bnds n cs.toList = true → ∀ i : Nat, bnd n (cs.getD i undef) = true := fun {cs} h i => by
    have := bnds_get h i
    simpa [List.getD_eq_getElem?_getD] using this
  induction h with
  | any v => exact fun _ => .any v
  | skip => exact fun _ => .skip
  | bool b => exact fun _ => .bool b
  | int k n => exact fun _ => .int k n
  | float k n => exact fun _ => .float k n
  | string s => exact fun _ => .string s
  | nilp => exact fun _ => .nilp
  | ptr h => exact fun hb => .ptr (lt (by simpa [bnd] using hb) h)
  | nils l c => exact fun _ => .nils l c
  | slice h hc hr => exact fun hb => .slice (lt (by simpa [bnd] using hb) h) hc hr
  | slice0 x y => exact fun _ => .slice0 x y
  | nilm => exact fun _ => .nilm
  | map h => exact fun hb => .map (lt (by simpa [bnd] using hb) h)
  | func fn hx hy _ _ i1 i2 =>
    intro hb
    have hb' := (Bool.and_eq_true _ _).mp (show (bnds n _ && bnds n _) = true from hb)
    exact .func fn hx hy (fun i => i1 i (gets hb'.1 i)) (fun i => i2 i (gets hb'.2 i))
  | nilFunc => exact fun _ => .nilFunc
  | yld h => exact fun hb => .yld (lt (by simpa [bnd] using hb) h)
  | iface t ht _ ih => exact fun hb => .iface t ht (ih (by simpa only [bnd, Nat.blt, Nat.ble_eq_true_of_le (Nat.succ_le_of_lt ht), cond_true] using hb))
  | frz h hn hp hfit hc _ => exact fun _ => RV.pure_move (ι := ι) (ι2 := Dt.cut n ι) (fun _ _ h => h) (.frz h hn hp hfit hc) rfl
  | frzN => exact fun _ => .frzN
  | frzE x cap => exact fun _ => .frzE x cap
  | empN => exact fun _ => .empN
  | empE x => exact fun _ => .empE x
  | anyB b => exact fun _ => .anyB b
  | frp h hp hfit hc _ => exact fun _ => RV.pure_move (ι := ι) (ι2 := Dt.cut n ι) (fun _ _ h => h) (.frp h hp hfit hc) rfl
  | nilIface => exact fun _ => .nilIface
  | agg hs _ ih => exact fun hb => .agg hs (fun i => ih i (gets (by simpa [bnd] using hb) i))
  | tuple hs _ ih => exact fun hb => .tuple hs (fun i => ih i (gets (by simpa [bnd] using hb) i))

inductive BBnd (n : Nat) : Blk → Prop
  | cells {c : List Value} {sz : Nat} {rw_ : Bool} (h : bnds n c = true) : BBnd n (.cells c sz rw_)
  | map {es : List MapEntry} {ck : Nat} (h : ∀ e, e ∈ es → bnd n e.key = true ∧ bnd n e.val = true) : BBnd n (.map es ck)
  | gone : BBnd n .gone

def bbnd (n : Nat) : Blk → Bool
  | .cells c _ _ => bnds n c
  | .map es _ => es.all fun e => bnd n e.key && bnd n e.val
  | .gone => true
theorem bbnd_ok {n : Nat} {x : Blk} (h : bbnd n x = true) : BBnd n x := by
  cases x with
  | cells c sz rw_ => exact .cells h
  | map es ck =>
    refine .map fun e he => ?_
    have := List.all_eq_true.1 h e he
    simpa using this
  | gone => exact .gone

theorem BlkOk.cut {ι : Map} {w : World} {b n : Nat} {x : Blk} (h : BlkOk ι w b x) (hb : b < n) (hx : BBnd n x) : BlkOk (cut n ι) w b x := by
  have lt : ∀ {L : Loc}, ι b = some L → Dt.cut n ι b = some L := fun hL => by simp [Dt.cut, hb, hL]
  cases hx with
  | cells hc =>
    obtain ⟨L, c', t, fz, hL, hh, hs, hr, hro, hcells⟩ := h
    exact ⟨L, c', t, fz, lt hL, hh, hs, hr, hro, fun i hi => (hcells i hi).cut (bnds_get hc i)⟩
  | map he =>
    obtain ⟨L, es', hL, hh, hs, hes⟩ := h
    refine ⟨L, es', lt hL, hh, hs, fun i e e' h1 h2 => ?_⟩
    have h3 := he e (List.mem_of_getElem? h1)
    have h4 := hes i e e' h1 h2
    exact ⟨h4.1.cut h3.1, h4.2.1.cut h3.2, h4.2.2⟩
  | gone => trivial

def takeM (n : Nat) (s : VS) : VS :=
  match s with
  | .norm todo a m => fl (m.take n) fun m' => .norm todo a m'
  | s => s

/-- Blocks that are not looked at any more: their numbers may serve again. -/
theorem Runs.drop {s : VS} {v : Value} {m' : List Blk} (n : Nat) (hn : n0 ≤ n) (ha : bnds n s.slots = true) (hm : ∀ b, b < n → BBnd n (s.mem.getD b .gone)) (h : Runs P f n0 (takeM n s) v m') : Runs P f n0 s v m' := by
  cases s with
  | reg => exact h
  | norm todo a m =>
    simp only [takeM, fl_eq] at h
    simp only [VS.slots, VS.mem] at ha hm
    intro D ds ι t w hr
    have hat : ∀ b, at_ (m.take n) b = if b < n then at_ m b else .gone := fun b => by
      simp only [at_, List.getD_eq_getElem?_getD, List.getElem?_take]
      split <;> rfl
    have hsub : ∀ {b : Nat} {L : Loc}, Dt.cut n ι b = some L → ι b = some L ∧ b < n := fun h => by
      simp only [Dt.cut] at h
      split at h
      · exact ⟨h, by assumption⟩
      · cases h
    have hr' : Rel (Dt.cut n ι) a (m.take n) t w := by
      refine ⟨hr.size, fun x => (hr.slots x).cut (bnds_get ha x), ⟨fun b => ?_, fun b b2 L L2 hne ho hl hL hL2 => ?_, hr.sim.fro, fun b L r c ho hL hr' => ?_, hr.sim.glo⟩, fun b hb => ?_⟩
      · rw [hat]
        split
        · rename_i hb; exact (hr.sim.blk b).cut hb (hm b hb)
        · trivial
      · rw [hat] at ho hl
        split at ho
        · split at hl
          · exact hr.sim.sep b b2 L L2 hne ho hl (hsub hL).1 (hsub hL2).1
          · cases hl
        · cases ho
      · rw [hat] at ho
        split at ho
        · exact hr.sim.apart b L r c ho (hsub hL).1 hr'
        · cases ho
      · simp only [Dt.cut] at hb
        split at hb
        · rename_i hlt
          have := hr.dom b hb
          simp; omega
        · exact absurd rfl hb
    intro b cs hb hk hB hD hj
    obtain ⟨w', fr, ι', h1, h2, h5, h6, h7⟩ := h D ds (Dt.cut n ι) t w hr' b cs hb hk hB hD hj
    have ownSub : ∀ k, OwnR (Dt.cut n ι) (at_ (m.take n)) k → OwnR ι (at_ m) k := fun k ⟨b, L, ho, hL, hk⟩ => by
      obtain ⟨hL', hb⟩ := hsub hL
      rw [hat, if_pos hb] at ho
      exact ⟨b, L, ho, hL', hk⟩
    have liveSub : ∀ k, LiveR (Dt.cut n ι) (at_ (m.take n)) k → LiveR ι (at_ m) k := fun k ⟨b, L, ho, hL, hk⟩ => by
      obtain ⟨hL', hb⟩ := hsub hL
      rw [hat, if_pos hb] at ho
      exact ⟨b, L, ho, hL', hk⟩
    refine ⟨w', fr, ι', h1, h2, h5, h6, ⟨fun x L hx hL => h7.le x L hx (by simp [Dt.cut, show x < n by omega, hL]), h7.size, h7.os, h7.tape, h7.output, fun k hk hn' => h7.frame k hk (fun ho => hn' (ownSub k ho)),
      fun k ho => (h7.own k ho).imp (ownSub k) id, fun k ho => (h7.live k ho).imp (liveSub k) id, h7.lef, fun r c hr => (h7.fro r c hr).imp id (Or.imp (ownSub r) id)⟩⟩

/-! ### A call within one memory, all of it owned -/
def isOwn (m : List Blk) (b : Nat) : Bool := match m[b]? with
  | some x => x.own
  | none => false

mutual
def okV (m : List Blk) : Value → Bool
  | .pointer (some ⟨b, _, none⟩) => isOwn m b
  | .slice (some ⟨b, _, none⟩) _ _ => isOwn m b
  | .map (some b) => isOwn m b
  | .func _ ⟨xs⟩ ⟨ys⟩ => okVs m xs && okVs m ys
  | .iface t v => bif Nat.blt t frzT then okV m v else true
  | .agg ⟨l⟩ => okVs m l
  | .tuple ⟨l⟩ => okVs m l
  | .bool _ | .int _ _ | .float _ _ | .string _ | .nilFunc | .nilIface => true
  | .pointer none | .slice none _ _ | .map none => true
  | _ => false
def okVs (m : List Blk) : List Value → Bool
  | [] => true
  | v :: l => okV m v && okVs m l
end

def idEmb (m : List Blk) : Emb := fun i => if isOwn m i then some (i, 0, false) else none

mutual
theorem ren_id {m : List Blk} {κ : Emb} (hκ : ∀ b, isOwn m b = true → κ b = some (b, 0, false)) : ∀ v : Value, okV m v = true → Ren κ v v
  | .pointer (some ⟨b, o, none⟩), h => by have := Ren.ptr (o := o) (hκ b (by simpa [okV] using h)); simpa using this
  | .slice (some ⟨b, o, none⟩) l c, h => Ren.slice (hκ b (by simpa [okV] using h))
  | .map (some b), h => Ren.map (hκ b (by simpa [okV] using h))
  | .func fn ⟨xs⟩ ⟨ys⟩, h => by
    simp only [okV, Bool.and_eq_true] at h
    exact Ren.func fn rfl rfl (by simpa using ren_ids hκ xs h.1) (by simpa using ren_ids hκ ys h.2)
  | .iface t v, h => by
    cases ht : Nat.blt t frzT with
    | true => exact .iface t (Nat.lt_of_succ_le (Nat.le_of_ble_eq_true ht)) (ren_id hκ v (by simpa only [okV, ht, cond_true] using h))
    | false => exact .pure (by simp only [pureV, ht, cond_false])
  | .agg ⟨l⟩, h => .agg rfl (by simpa using ren_ids hκ l (by simpa [okV] using h))
  | .tuple ⟨l⟩, h => .tuple rfl (by simpa using ren_ids hκ l (by simpa [okV] using h))
  | .bool _, _ => .plain rfl
  | .int _ _, _ => .plain rfl
  | .float _ _, _ => .plain rfl
  | .string _, _ => .plain rfl
  | .nilFunc, _ => .plain rfl
  | .nilIface, _ => .plain rfl
  | .pointer none, _ => .plain rfl
  | .slice none _ _, _ => .plain rfl
  | .map none, _ => .plain rfl
  | .complex _ _ _, h => by simp [okV] at h
  | .chan _, h => by simp [okV] at h
  | .pointer (some ⟨_, _, some _⟩), h => by simp [okV] at h
  | .slice (some ⟨_, _, some _⟩) _ _, h => by simp [okV] at h
theorem ren_ids {m : List Blk} {κ : Emb} (hκ : ∀ b, isOwn m b = true → κ b = some (b, 0, false)) : ∀ l : List Value, okVs m l = true → ∀ i : Nat, Ren κ (l[i]?.getD undef) (l[i]?.getD undef)
  | [], _, i => by simpa using Ren.undef undef
  | v :: l, h, 0 => by simp only [okVs, Bool.and_eq_true] at h; simpa using ren_id hκ v h.1
  | v :: l, h, i + 1 => by simp only [okVs, Bool.and_eq_true] at h; simpa using ren_ids hκ l h.2 i
end

mutual
theorem lift_id {m : List Blk} {κ : Nat → Option Nat} (hκ : ∀ b, isOwn m b = true → κ b = some b) : ∀ v : Value, okV m v = true → Lift κ v v
  | .pointer (some ⟨b, o, none⟩), h => Lift.ptr (hκ b (by simpa [okV] using h))
  | .slice (some ⟨b, o, none⟩) l c, h => Lift.slice (hκ b (by simpa [okV] using h))
  | .map (some b), h => Lift.map (hκ b (by simpa [okV] using h))
  | .func fn ⟨xs⟩ ⟨ys⟩, h => by
    simp only [okV, Bool.and_eq_true] at h
    exact Lift.func fn rfl rfl (by simpa using lift_ids hκ xs h.1) (by simpa using lift_ids hκ ys h.2)
  | .iface t v, h => by
    cases ht : Nat.blt t frzT with
    | true => exact .iface t (Nat.lt_of_succ_le (Nat.le_of_ble_eq_true ht)) (lift_id hκ v (by simpa only [okV, ht, cond_true] using h))
    | false => exact .pure (by simp only [pureV, ht, cond_false])
  | .agg ⟨l⟩, h => .agg rfl (by simpa using lift_ids hκ l (by simpa [okV] using h))
  | .tuple ⟨l⟩, h => .tuple rfl (by simpa using lift_ids hκ l (by simpa [okV] using h))
  | .bool _, _ => .plain rfl
  | .int _ _, _ => .plain rfl
  | .float _ _, _ => .plain rfl
  | .string _, _ => .plain rfl
  | .nilFunc, _ => .plain rfl
  | .nilIface, _ => .plain rfl
  | .pointer none, _ => .plain rfl
  | .slice none _ _, _ => .plain rfl
  | .map none, _ => .plain rfl
  | .complex _ _ _, h => by simp [okV] at h
  | .chan _, h => by simp [okV] at h
  | .pointer (some ⟨_, _, some _⟩), h => by simp [okV] at h
  | .slice (some ⟨_, _, some _⟩) _ _, h => by simp [okV] at h
theorem lift_ids {m : List Blk} {κ : Nat → Option Nat} (hκ : ∀ b, isOwn m b = true → κ b = some b) : ∀ l : List Value, okVs m l = true → ∀ i : Nat, Lift κ (l[i]?.getD undef) (l[i]?.getD undef)
  | [], _, i => by simpa using Lift.any undef
  | v :: l, h, 0 => by simp only [okVs, Bool.and_eq_true] at h; simpa using lift_id hκ v h.1
  | v :: l, h, i + 1 => by simp only [okVs, Bool.and_eq_true] at h; simpa using lift_ids hκ l h.2 i
end

def okB (m : List Blk) : Blk → Bool
  | .cells c _ rw_ => rw_ && okVs m c
  | .map es _ => es.all fun e => okV m e.key && okV m e.val
  | .gone => true
def okM (m : List Blk) : Bool := m.all (okB m)
/-- What is owned behind was owned ahead. -/
def ownKept : List Blk → List Blk → Bool
  | [], _ => true
  | _ :: _, [] => false
  | x :: l, y :: l' => (x.own || !y.own) && ownKept l l'

theorem ownKept_ok : ∀ {l l' : List Blk}, ownKept l l' = true → l.length ≤ l'.length ∧ ∀ b, b < l.length → isOwn l' b = true → isOwn l b = true
  | [], _, _ => ⟨by simp, fun b hb => by simp at hb⟩
  | _ :: _, [], h => by simp [ownKept] at h
  | x :: l, y :: l', h => by
    simp only [ownKept, Bool.and_eq_true] at h
    obtain ⟨h1, h2⟩ := ownKept_ok h.2
    refine ⟨by simp; omega, fun b hb ho => ?_⟩
    cases b with
    | zero =>
      simp only [isOwn, List.getElem?_cons_zero] at ho ⊢
      rw [ho] at h
      simpa using h.1
    | succ b => exact h2 b (by simpa using hb) (by simpa [isOwn] using ho)

def ownIds (m : List Blk) : List Nat := (List.range m.length).filter (isOwn m)

theorem isOwn_iff {m : List Blk} {b : Nat} : isOwn m b = true ↔ ∃ x, m[b]? = some x ∧ x.own = true := by
  unfold isOwn
  cases h : m[b]? with
  | none => simp
  | some x => simp

theorem call_id {m m' : List Blk} (h1 : okM m = true) (h2 : okM m' = true) (h3 : ownKept m m' = true) : CallData m m m' m' (idEmb m) (ownIds m) (ownIds m) := by
  obtain ⟨hlen, hown⟩ := ownKept_ok h3
  have hκ : ∀ b, isOwn m b = true → idEmb m b = some (b, 0, false) := fun b hb => by simp [idEmb, hb]
  have inv : ∀ {i b d : Nat} {r : Bool}, idEmb m i = some (b, d, r) → b = i ∧ d = 0 ∧ r = false ∧ isOwn m i = true := fun h => by
    unfold idEmb at h
    split at h
    · rename_i ho; cases h; exact ⟨rfl, rfl, rfl, ho⟩
    · cases h
  have lt : ∀ {l : List Blk} {b : Nat}, isOwn l b = true → b < l.length := fun h => by
    obtain ⟨x, hx, _⟩ := isOwn_iff.1 h
    exact (List.getElem?_eq_some_iff.1 hx).1
  have memOwn : ∀ b, b ∈ ownIds m ↔ isOwn m b = true := fun b => by
    unfold ownIds
    rw [List.mem_filter, List.mem_range]
    exact ⟨fun h => h.2, fun h => ⟨lt h, h⟩⟩
  have hback : ∀ b, isOwn m' b = true → back (idEmb m) m.length m'.length m.length b = some b := fun b hb => by
    unfold back
    split
    · rename_i hlt
      rw [hκ b (hown b hlt hb)]
    · rw [if_pos (lt hb)]
      congr 1; omega
  have okb : ∀ {l : List Blk}, okM l = true → ∀ b x, l[b]? = some x → okB l x = true := fun h b x hx => List.all_eq_true.1 h x (List.mem_of_getElem? hx)
  have lifted : ∀ b, BLift (back (idEmb m) m.length m'.length m.length) (m'.getD b .gone) (m'.getD b .gone) ∧ ownOrGone (m'.getD b .gone) = true := fun b => by
    cases hx : m'[b]? with
    | none =>
      have : m'.getD b .gone = .gone := by simp [List.getD_eq_getElem?_getD, hx]
      rw [this]; exact ⟨.gone _, rfl⟩
    | some x =>
      have : m'.getD b .gone = x := by simp [List.getD_eq_getElem?_getD, hx]
      rw [this]
      have hb := okb h2 b x hx
      cases x with
      | cells c sz rw_ =>
        simp only [okB, Bool.and_eq_true] at hb
        exact ⟨.cells sz rw_ rfl (fun i _ => by have := lift_ids hback c hb.2 i; simpa [List.getD_eq_getElem?_getD] using this), hb.1⟩
      | map es ck =>
        refine ⟨.map ck rfl fun i e e' he he' => ?_, rfl⟩
        rw [he] at he'; cases he'
        have := List.all_eq_true.1 hb e (List.mem_of_getElem? he)
        simp only [Bool.and_eq_true] at this
        exact ⟨lift_id hback _ this.1, lift_id hback _ this.2, rfl⟩
      | gone => exact ⟨.gone _, rfl⟩
  refine ⟨fun i b d h => (inv h).2.1, fun i b d r h => ?_, fun i b d r h => ?_, fun b hb => lt ((memOwn b).1 hb), fun b hb => hb, fun i b h => ?_, fun i j b d r hne h h' => ?_, fun i hi => ?_, hlen, by omega, fun i b h => ?_, fun j hj hj' => ?_, fun b hb hk => ?_⟩
  · obtain ⟨rfl, _, _, ho⟩ := inv h
    exact ⟨lt ho, lt ho, (memOwn b).2 ho⟩
  · obtain ⟨rfl, _, _, ho⟩ := inv h
    obtain ⟨x, hx, hxo⟩ := isOwn_iff.1 ho
    rw [show m.getD b .gone = x by simp [List.getD_eq_getElem?_getD, hx]]
    exact Blk.live_of_own hxo
  · obtain ⟨rfl, _, _, ho⟩ := inv h
    exact (memOwn b).2 ho
  · exact hne ((inv h).1.symm.trans (inv h').1)
  · have hx : m[i]? = some m[i] := by simp [hi]
    have hg : m.getD i .gone = m[i] := by simp [List.getD_eq_getElem?_getD, hi]
    have hb := okb h1 i _ hx
    rw [hg]
    generalize m[i] = x at hx hb
    cases x with
    | cells c sz rw_ =>
      simp only [okB, Bool.and_eq_true] at hb
      obtain ⟨hrw, hc⟩ := hb
      subst hrw
      exact .whole (hκ i (isOwn_iff.2 ⟨_, hx, rfl⟩)) hx rfl (fun j _ => by have := ren_ids hκ c hc j; simpa [List.getD_eq_getElem?_getD] using this)
    | map es ck =>
      refine .map (hκ i (isOwn_iff.2 ⟨_, hx, rfl⟩)) hx rfl fun j e e' he he' => ?_
      rw [he] at he'; cases he'
      have := List.all_eq_true.1 hb e (List.mem_of_getElem? he)
      simp only [Bool.and_eq_true] at this
      exact ⟨ren_id hκ _ this.1, ren_id hκ _ this.2, rfl⟩
    | gone => exact .gone
  · obtain ⟨rfl, _, _, _⟩ := inv h
    exact lifted _
  · have : m.length + (j - m.length) = j := by omega
    rw [this]
    exact lifted j
  · -- what is not owned is gone, ahead and behind
    have ho : isOwn m b = false := by
      cases h : isOwn m b with
      | false => rfl
      | true => exact absurd (hκ b h) (hk b)
    have gone : ∀ {l : List Blk}, okM l = true → isOwn l b = false → l.getD b .gone = .gone := fun {l} hl ho => by
      cases hx : l[b]? with
      | none => simp [List.getD_eq_getElem?_getD, hx]
      | some x =>
        have hb := okb hl b x hx
        rw [show l.getD b .gone = x by simp [List.getD_eq_getElem?_getD, hx]]
        cases x with
        | gone => rfl
        | map es ck => simp [isOwn, hx, Blk.own] at ho
        | cells c sz rw_ =>
          simp only [okB, Bool.and_eq_true] at hb
          simp [isOwn, hx, Blk.own, hb.1] at ho
    rw [gone h1 ho, gone h2 (by
      cases h : isOwn m' b with
      | false => rfl
      | true => rw [hown b hb h] at ho; cases ho)]

/-- What is called, with what. -/
def callOf (o : Oper) (a : List Value) : Option (FuncId × List Value) :=
  match o.op with
  | .call c => match c.callee with
    | .value g => if okConst g && c.args.toList.all okConst then match evalC a g with
        | .func (.func f) first captured => some (f, argsC a c.args first captured)
        | _ => none
      else none
    | _ => none
  | _ => none

theorem OpOk.callId {o : Oper} {a : List Value} {m m' : List Blk} {g : FuncId} {fn : Func} {args : List Value} {v : Value} (ho : callOf o a = some (g, args)) (hf : P.funcs[g]? = some fn) (hnum : (fn.name == "runtime.NumGoroutine") = false)
    (hbody : fn.body.isNone = false) (h1 : okM m = true) (h2 : okM m' = true) (h3 : ownKept m m' = true) (ha : okVs m args = true) (hv : okV m' v = true) (h : FnEq P g args m v m') : OpOk P o a m v m' ⟨ownIds m, ownIds m⟩ := by
  have D := call_id h1 h2 h3
  unfold callOf at ho
  split at ho
  · rename_i c hop
    split at ho
    · rename_i gop hcal
      split at ho
      · rename_i hc
        rw [Bool.and_eq_true] at hc
        split at ho
        · rename_i f' first captured hg
          cases ho
          obtain ⟨callee, xs, ts⟩ := c
          simp only at hcal hc h ha
          subst hcal
          have hκ : ∀ b, isOwn m b = true → idEmb m b = some (b, 0, false) := fun b hb => by simp [idEmb, hb]
          have lt : ∀ {l : List Blk} {b : Nat}, isOwn l b = true → b < l.length := fun h => by
            obtain ⟨x, hx, _⟩ := isOwn_iff.1 h
            exact (List.getElem?_eq_some_iff.1 hx).1
          refine OpOk.call hop hg hc.1 hc.2 hf hnum hbody rfl (fun i _ => ?_) D (lift_id (m := m') (fun b hb => ?_) v hv) h
          · have := ren_ids hκ _ ha i
            simpa [List.getD_eq_getElem?_getD] using this
          · unfold back
            split
            · rename_i hlt
              rw [hκ b ((ownKept_ok h3).2 b hlt hb)]
            · rw [if_pos (lt hb)]
              congr 1; omega
        · cases ho
      · cases ho
    · cases ho
  · cases ho

/-- A call that has nothing to do with memory. -/
theorem OpOk.callPlain {o : Oper} {a : List Value} {m : List Blk} {g : FuncId} {fn : Func} {args : List Value} {v : Value} (ho : callOf o a = some (g, args)) (hf : P.funcs[g]? = some fn) (hnum : (fn.name == "runtime.NumGoroutine") = false)
    (hbody : fn.body.isNone = false) (ha : pures args = true) (hv : pureV v = true) (h : FnEq P g args [] v []) : OpOk P o a m v m ⟨[], []⟩ := by
  unfold callOf at ho
  split at ho
  · rename_i c hop
    split at ho
    · rename_i gop hcal
      split at ho
      · rename_i hc
        rw [Bool.and_eq_true] at hc
        split at ho
        · rename_i f' first captured hg
          cases ho
          obtain ⟨callee, xs, ts⟩ := c
          simp only at hcal hc h ha
          subst hcal
          refine OpOk.call (κ := fun _ => none) (mf := []) (mf' := []) hop hg hc.1 hc.2 hf hnum hbody rfl (fun i hi => .pure (pures_get ha hi)) ?_ (.pure hv) h
          exact ⟨fun i b d h => by simp at h, fun i b d r h => by simp at h, fun i b d r h => by simp at h, by simp, by simp, fun i b h => by simp at h, fun i j b d r _ h => by simp at h,
            fun i hi => by simp at hi, Nat.le_refl _, by simp, fun i b h => by simp at h, fun j hj hj' => by simp at hj', fun b _ _ => rfl⟩
        · cases ho
      · cases ho
    · cases ho
  · cases ho

/-- The same, where functions are handed over that hold nothing. -/
theorem OpOk.callFree {o : Oper} {a : List Value} {m : List Blk} {g : FuncId} {fn : Func} {args : List Value} {v : Value} (ho : callOf o a = some (g, args)) (hf : P.funcs[g]? = some fn) (hnum : (fn.name == "runtime.NumGoroutine") = false)
    (hbody : fn.body.isNone = false) (ha : okVs [] args = true) (hv : plain v = true) (h : FnEq P g args [] v []) : OpOk P o a m v m ⟨[], []⟩ := by
  unfold callOf at ho
  split at ho
  · rename_i c hop
    split at ho
    · rename_i gop hcal
      split at ho
      · rename_i hc
        rw [Bool.and_eq_true] at hc
        split at ho
        · rename_i f' first captured hg
          cases ho
          obtain ⟨callee, xs, ts⟩ := c
          simp only at hcal hc h ha
          subst hcal
          refine OpOk.call (κ := fun _ => none) (mf := []) (mf' := []) hop hg hc.1 hc.2 hf hnum hbody rfl (fun i hi => by
            have := ren_ids (m := []) (κ := fun _ => none) (fun b hb => by simp [isOwn] at hb) _ ha i
            simpa [List.getD_eq_getElem?_getD] using this) ?_ (.plain hv) h
          exact ⟨fun i b d h => by simp at h, fun i b d r h => by simp at h, fun i b d r h => by simp at h, by simp, by simp, fun i b h => by simp at h, fun i j b d r _ h => by simp at h,
            fun i hi => by simp at hi, Nat.le_refl _, by simp, fun i b h => by simp at h, fun j hj hj' => by simp at hj', fun b _ _ => rfl⟩
        · cases ho
      · cases ho
    · cases ho
  · cases ho

/-- Locals that nothing leads to are dropped. -/
def gc (m : List Blk) (v : Value) (m' : List Blk) : List Blk :=
  if plain v && ((m'.take m.length).all fun | .cells c _ _ => plains c | .map .. => false | .gone => true) then m'.take m.length else m'

theorem gc_ok {f : FuncId} {args : List Value} {m m' : List Blk} {v : Value} (hl : m.length ≤ m'.length) (h : FnEq P f args m v m') : FnEq P f args m v (gc m v m') := by
  unfold gc
  split
  · rename_i hc
    rw [Bool.and_eq_true] at hc
    refine FnEq.drop (List.range m.length) h (fun i hi => by simp [hi]) List.nodup_range (by simp; omega) (.plain hc.1) (fun j b hj => ?_)
    have hj' : j < m.length := by
      have := (List.getElem?_eq_some_iff.1 hj).1
      simpa using this
    have : b = j := by
      have := (List.getElem?_eq_some_iff.1 hj).2
      simpa using this.symm
    subst this
    have e : (m'.take m.length).getD b .gone = m'.getD b .gone := by simp [List.getD_eq_getElem?_getD, hj']
    rw [e]
    have hb := List.all_eq_true.1 hc.2 (m'.getD b .gone) (by
      rw [← e]
      have : b < (m'.take m.length).length := by simp; omega
      simp [List.getD_eq_getElem?_getD, List.getElem?_eq_getElem this, -List.getElem_take])
    cases hx : m'.getD b .gone with
    | gone => exact .gone _
    | map es ck => rw [hx] at hb; simp at hb
    | cells c sz rw_ =>
      rw [hx] at hb
      exact .cells sz rw_ rfl fun i hi => .plain (plains_get hb hi)
  · exact h

def fic {β : Type} (v : Value) (k : Value → β) : β :=
  match v with
  | .int kd (.ofNat n) => nf n fun n' => k (.int kd (.ofNat n'))
  | .int kd (.negSucc n) => nf n fun n' => k (.int kd (.negSucc n'))
  | .bool true => k (.bool true)
  | .bool false => k (.bool false)
  | v => k v
theorem fic_eq {β : Type} (v : Value) (k : Value → β) : fic v k = k v := by
  unfold fic
  split <;> first | rfl | (rw [nf_eq])
def ficl {β : Type} : List Value → (List Value → β) → β
  | [], k => k []
  | x :: xs, k => fic x fun x' => ficl xs fun ys => k (x' :: ys)
theorem ficl_eq {β : Type} : ∀ (l : List Value) (k : List Value → β), ficl l k = k l
  | [], _ => rfl
  | x :: xs, k => by simp only [ficl]; rw [fic_eq, ficl_eq xs]
/-- As 'fv', numbers and truths laid bare too: where nothing is unknown. -/
def fvc {β : Type} (v : Value) (k : Value → β) : β :=
  match v with
  | .agg ⟨cs⟩ => ficl cs fun cs' => k (.agg ⟨cs'⟩)
  | .tuple ⟨vs⟩ => ficl vs fun vs' => k (.tuple ⟨vs'⟩)
  | v => fic v k
theorem fvc_eq {β : Type} (v : Value) (k : Value → β) : fvc v k = k v := by
  unfold fvc
  split <;> first | (rw [ficl_eq]) | (rw [fic_eq])

def vstepC (P : Program) : VS → Option VS
  | .norm todo a m => match todo with
    | .code (.region id ops draw) :: k => some (.reg k id ops draw a m 0 a m [])
    | td => match ctl a td with
      | some td' => some (.norm td' a m)
      | none => none
  | .reg k id ops draw a0 m0 i a m recs => match ops[i]? with
    | none => if Nat.beq i ops.size && (!draw || (ordOk ops recs && noSoft recs)) then some (.norm k a m) else none
    | some o => match wantedC ops o a with
      | some false => fl (put a o.dst (.chan none)) fun a' => some (.reg k id ops draw a0 m0 (i + 1) a' m (rec3 ⟨[], []⟩ m.length m.length :: recs))
      | some true => match opA P o a m with
        | some (v, m', fp) => fv v fun v => fvc v fun v' => fl (put a o.dst v') fun a' => fl m' fun m'' => some (.reg k id ops draw a0 m0 (i + 1) a' m'' (rec3 fp m.length m''.length :: recs))
        | none => none
      | none => none

theorem vstepC_eq (s : VS) : vstepC P s = vstep P s := by
  cases s with
  | norm todo a m => rfl
  | reg k id ops draw a0 m0 i a m recs =>
    simp only [vstepC, vstep, fv_eq, fvc_eq]
    cases ops[i]? with
    | none => rfl
    | some o =>
      cases hw : wantedC ops o a with
      | none => simp only [hw]
      | some b =>
        cases b with
        | false => simp only [hw]
        | true =>
          simp only [hw]
          cases opA P o a m with
          | none => rfl
          | some x => rfl

/-- Functions without a Go body, each with what the model has for it. -/
abbrev Exts := List (FuncId × (Array Value → Sem Value))
def ExtOk (P : Program) (X : Exts) : Prop := ∀ f e, (f, e) ∈ X → externOf P f = some e

def extD (P : Program) (X : Exts) (o : Oper) (a : List Value) : Option Value :=
  match o.op with
  | .call c => match c.callee with
    | .value (.func f) => match X.lookup f with
      | some e => if c.args.toList.all (plainOperand a) then match pureEval P (e (c.args.map (evalC a))) with
          | some v => if plain v then some v else none
          | none => none
        else none
      | none => none
    | _ => none
  | _ => none

theorem lookup_mem {f : FuncId} {e : Array Value → Sem Value} : ∀ {X : Exts}, X.lookup f = some e → (f, e) ∈ X
  | [], h => by cases h
  | (g, d) :: X, h => by
    simp only [List.lookup] at h
    split at h
    · rename_i hfg
      cases h
      have : f = g := by simpa using hfg
      subst this
      simp
    · exact List.mem_cons_of_mem _ (lookup_mem h)

theorem extD_ok {X : Exts} (hX : ExtOk P X) {o : Oper} {a : List Value} {m : List Blk} {v : Value} (h : extD P X o a = some v) : OpOk P o a m v m ⟨[], []⟩ := by
  unfold extD at h
  split at h
  · rename_i c ho
    split at h
    · rename_i f hcal
      split at h
      · rename_i e he
        split at h
        · rename_i hp
          split at h
          · rename_i v' hv
            split at h
            · rename_i hpv
              cases h
              obtain ⟨callee, xs, ts⟩ := c
              simp only at hcal hp hv
              subst hcal
              exact OpOk.extern ho rfl hp (hX _ _ (lookup_mem he)) hpv (fun w => run_of_pureEval hv w)
            · cases h
          · cases h
        · cases h
      · cases h
    · cases h
  · cases h

/-- A run, calls and all. -/
def evalF (P : Program) (X : Exts) : Nat → Func → VS → Option (Value × List Blk)
  | 0, _, _ => none
  | n + 1, fn, s => match retOf P fn s with
    | some v => some (v, s.mem)
    | none => match vstepC P s with
      | some s' => evalF P X n fn s'
      | none => match opAt s with
        | none => none
        | some o => match extD P X o s.slots with
          | some v => fv v fun v => fvc v fun v => evalF P X n fn (afterOp s o v s.mem ⟨[], []⟩)
          | none => match callOf o s.slots with
          | none => none
          | some (g, args) => match P.funcs[g]? with
            | none => none
            | some gn => if (gn.name == "runtime.NumGoroutine") || gn.body.isNone then none else
              match (match okVs [] args with
                | true => match evalF P X n gn (entry gn args []) with
                  | none => none
                  | some (v, _) => match plain v with
                    | true => some v
                    | false => none
                | false => none) with
              | some v => fv v fun v => fvc v fun v => evalF P X n fn (afterOp s o v s.mem ⟨[], []⟩)
              | none => match evalF P X n gn (entry gn args s.mem) with
                | none => none
                | some (v, m') => if Nat.ble s.mem.length m'.length then
                    fv v fun v => fvc v fun v => fl (gc s.mem v m') fun m' => if okM s.mem && okM m' && ownKept s.mem m' && okVs s.mem args && okV m' v then evalF P X n fn (afterOp s o v m' ⟨ownIds s.mem, ownIds s.mem⟩) else none
                  else none

theorem evalF_ok (hm : P.follows .mixedOrders = true) {X : Exts} (hX : ExtOk P X) : ∀ (n : Nat) {f : FuncId} {n0 : Nat} {fn : Func} {s : VS} {v : Value} {m' : List Blk}, P.funcs[f]? = some fn → evalF P X n fn s = some (v, m') → Runs P (.fn0 f) n0 s v m'
  | 0, _, _, _, _, _, _, _, h => by cases h
  | n + 1, f, n0, fn, s, v, m', hf, h => by
    unfold evalF at h
    split at h
    · rename_i hret
      cases h
      exact Runs.ret hf hret
    · split at h
      · rename_i s' hs
        rw [vstepC_eq] at hs
        exact Runs.step hm hs (evalF_ok hm hX n hf h)
      · split at h
        · cases h
        · rename_i o ho
          split at h
          · rename_i v1 hext
            rw [fv_eq, fvc_eq] at h
            exact Runs.op o ho (extD_ok hX hext) (evalF_ok hm hX n hf h)
          split at h
          · cases h
          · rename_i g args hcall
            split at h
            · cases h
            · rename_i gn hg
              split at h
              · cases h
              · rename_i hname
                rw [Bool.or_eq_true, not_or] at hname
                have hb : gn.body.isNone = false := by cases hbb : gn.body.isNone with | false => rfl | true => exact absurd hbb hname.2
                have hsome : gn.body.isSome = true := by cases hbb : gn.body <;> simp_all
                split at h
                · rename_i v1 hin
                  split at hin
                  · rename_i hpl
                    split at hin
                    · cases hin
                    · rename_i v2 m1 hev
                      split at hin
                      · rename_i hpv
                        cases hin
                        rw [fv_eq, fvc_eq] at h
                        have hr := evalF_ok (n0 := 0) hm hX n hg hev
                        have hfn := FnEq.pure (FnEq.of_runs (m := []) hg hsome hr) hpv
                        exact Runs.op o ho (OpOk.callFree hcall hg (by simpa using hname.1) hb hpl hpv hfn) (evalF_ok hm hX n hf h)
                      · cases hin
                  · cases hin
                · split at h
                  · cases h
                  · rename_i v1 m1 hev
                    split at h
                    · rename_i hle
                      rw [fv_eq, fvc_eq, fl_eq] at h
                      split at h
                      · rename_i hc
                        simp only [Bool.and_eq_true] at hc
                        have hr := evalF_ok (n0 := s.mem.length) hm hX n hg hev
                        have hfn := gc_ok (Nat.le_of_ble_eq_true hle) (FnEq.of_runs hg hsome hr)
                        exact Runs.op o ho (OpOk.callId hcall hg (by simpa using hname.1) hb hc.1.1.1.1 hc.1.1.1.2 hc.1.1.2 hc.1.2 hc.2 hfn) (evalF_ok hm hX n hf h)
                      · cases h
                    · cases h

/-- A function's contract, by a run. -/
theorem FnEq.eval {f : FuncId} (hm : P.follows .mixedOrders = true) {X : Exts} (hX : ExtOk P X) {fn : Func} {args : List Value} {v : Value} (n : Nat) (hf : P.funcs[f]? = some fn) (hb : fn.body.isSome = true) (hv : plain v = true)
    (h : (match evalF P X n fn (entry fn args []) with | some (u, _) => some u | none => none) = some v) : FnEq P f args [] v [] := by
  split at h
  · rename_i u m' he
    cases h
    exact FnEq.pure (FnEq.of_runs hf hb (evalF_ok hm hX n hf he)) hv
  · cases h

end

end

section
open Go.RowKit

section
variable {P : Program} {f : Fr} {n0 : Nat}

theorem FnEq.val {f : FuncId} {args : List Value} {m m' : List Blk} {v v' : Value} (h : FnEq P f args m v m') (e : v = v') : FnEq P f args m v' m' := e ▸ h

/-- On to the end. -/
theorem Runs.fin {s : VS} {v : Value} {fn : Func} (hm : P.follows .mixedOrders = true) (hf : f.ofFn P fn) (n : Nat) (h : retOf P fn (vadv P n s) = some v) : Runs P f n0 s v (vadv P n s).mem :=
  Runs.adv hm n (Runs.ret hf h)

/-- A result, and what is to be so of the memory that is left. -/
abbrev VQ := Value × (List Blk → Prop)
abbrev vq (v : Value) : VQ := (v, fun _ => True)
instance : Coe Value VQ := ⟨vq⟩
def RunsE (P : Program) (f : Fr) (n0 : Nat) (s : VS) (v : VQ) : Prop := ∃ m, Runs P f n0 s v.1 m ∧ v.2 m

theorem RunsE.fin {s : VS} {v : Value} {fn : Func} (hm : P.follows .mixedOrders = true) (hf : f.ofFn P fn) (n : Nat) (h : retOf P fn (vadv P n s) = some v) : RunsE P f n0 s v := ⟨_, Runs.fin hm hf n h, trivial⟩
theorem RunsE.adv {s : VS} {v : VQ} (hm : P.follows .mixedOrders = true) (n : Nat) (h : RunsE P f n0 (vadv P n s) v) : RunsE P f n0 s v := let ⟨m, h, q⟩ := h; ⟨m, Runs.adv hm n h, q⟩
theorem RunsE.branch {s : VS} {v : VQ} (b : Bool) (hs : condOf s = some b) (h1 : b = true → RunsE P f n0 (goC s true) v) (h0 : b = false → RunsE P f n0 (goC s false) v) : RunsE P f n0 s v := by
  cases b
  · obtain ⟨m, h, q⟩ := h0 rfl; exact ⟨m, Runs.cond false hs h, q⟩
  · obtain ⟨m, h, q⟩ := h1 rfl; exact ⟨m, Runs.cond true hs h, q⟩
theorem RunsE.cond {s : VS} {v : VQ} (b b' : Bool) (hs : condOf s = some b) (e : b = b') (h : RunsE P f n0 (goC s b') v) : RunsE P f n0 s v := by
  subst e; obtain ⟨m, h, q⟩ := h; exact ⟨m, Runs.cond b hs h, q⟩
theorem RunsE.guard {s : VS} {v : VQ} (d : Nat) (b : Bool) (hs : guardOf s = some (d, b)) (h1 : b = true → RunsE P f n0 (setV s d (.bool true)) v) (h0 : b = false → RunsE P f n0 (setV s d (.bool false)) v) : RunsE P f n0 s v := by
  cases b
  · obtain ⟨m, h, q⟩ := h0 rfl; exact ⟨m, Runs.guard d false hs (fun h => by cases h) (fun _ => h), q⟩
  · obtain ⟨m, h, q⟩ := h1 rfl; exact ⟨m, Runs.guard d true hs (fun _ => h) (fun h => by cases h), q⟩
theorem RunsE.spell {s : VS} {v : VQ} (d : Nat) (u u' : Value) (h : s.slots.getD d undef = u) (e : u = u') (hr : RunsE P f n0 (setV s d u') v) : RunsE P f n0 s v := by
  subst e; obtain ⟨m, hr, q⟩ := hr; exact ⟨m, Runs.spell d u h hr, q⟩
theorem RunsE.op {s : VS} {v : VQ} (o : Oper) {u : Value} {m1 : List Blk} {fp : Fp} (hs : opAt s = some o) (ho : OpOk P o s.slots s.mem u m1 fp) (hr : RunsE P f n0 (afterOp s o u m1 fp) v) : RunsE P f n0 s v := by
  obtain ⟨m, hr, q⟩ := hr; exact ⟨m, Runs.op o hs ho hr, q⟩

/-- What is called next: its number and what it gets. -/
def callAt (s : VS) : Option (FuncId × List Value) := match opAt s with
  | some o => callOf o s.slots
  | none => none
def afterCall (s : VS) (u : Value) : VS := match opAt s with
  | some o => fv u fun u' => afterOp s o u' s.mem ⟨[], []⟩
  | none => s

/-- A call that has nothing to do with memory, by its contract. -/
theorem RunsE.call {s : VS} {v : VQ} {u : Value} {g : FuncId} {gn : Func} (args : List Value) (hf : P.funcs[g]? = some gn) (hs : callAt s = some (g, args)) (hn : ((gn.name == "runtime.NumGoroutine") || gn.body.isNone) = false)
    (hp : (pures args && pureV u) = true) (h : FnEq P g args [] u []) (hr : RunsE P f n0 (afterCall s u) v) : RunsE P f n0 s v := by
  unfold callAt at hs
  unfold afterCall at hr
  split at hs
  · rename_i o ho
    simp only [ho, fv_eq] at hr
    rw [Bool.or_eq_false_iff] at hn
    rw [Bool.and_eq_true] at hp
    exact RunsE.op o ho (OpOk.callPlain hs hf hn.1 hn.2 hp.1 hp.2 h) hr
  · cases hs

/-- A call of a function without a Go body. -/
theorem RunsE.ext {s : VS} {v : VQ} {u : Value} {g : FuncId} {e : Array Value → Sem Value} (o : Oper) (xs : Array Operand) (ts : Array TypeId) (he : externOf P g = some e) (hs : opAt s = some o)
    (ho : o.op = .call { callee := .value (.func g), args := xs, argTypes := ts }) (hp : (xs.toList.all (plainOperand s.slots) && plain u) = true) (hv : ∀ w, (e (xs.map (evalC s.slots))).run P w = .ok u w)
    (hr : RunsE P f n0 (afterOp s o u s.mem ⟨[], []⟩) v) : RunsE P f n0 s v := by
  rw [Bool.and_eq_true] at hp
  exact RunsE.op o hs (OpOk.extern ho rfl hp.1 he hp.2 hv) hr

theorem FnEq.run {f : FuncId} {fn : Func} {args : List Value} {v : Value} (hf : P.funcs[f]? = some fn) (hb : fn.body.isSome = true) (hv : pureV v = true)
    (h : RunsE P (.fn0 f) 0 (entry fn args []) v) : FnEq P f args [] v [] := let ⟨_, h, _⟩ := h; FnEq.pureR (FnEq.of_runs hf hb h) hv

/-! ### From a contract to a statement -/
theorem sim_nil {ι : Map} {w : World} (hf : ∀ r c, ι.fro r = some c → ∃ t fz, w.heap[r]? = some (.cells c t fz)) (hg : GloOk ι.fro) : Sim ι (at_ []) w :=
  ⟨fun b => by simp [at_]; trivial, fun b b2 L L2 _ ho => by simp [at_, Blk.own] at ho, hf, fun b L r c ho => by simp [at_, Blk.own] at ho, hg⟩

/-- Of a function over plain values: the model's own calls. -/
theorem FnEq.calls {f : FuncId} {args : List Value} {v : Value} (h : FnEq P f args [] v []) (ha : plains args = true) (hv : plain v = true) (w : World) (hg : GloOk (fun _ => none) := by trivial) :
    Calls P f args.toArray w fun e w' => e = .returned v ∧ Below w.heap.size w w' := by
  refine (h ⟨fun _ => none, fun _ => none⟩ args.toArray w (by simp) (fun i => ?_) (sim_nil (fun r c h => by cases h) hg) (fun b hb => absurd rfl hb)).mono fun e w' he => ?_
  · have := RV.refls ⟨fun _ => none, fun _ => none⟩ args ha i
    simpa [List.getD_eq_getElem?_getD] using this
  · obtain ⟨v', ι', rfl, hv', _, _, hext⟩ := he
    rw [← hv'.eq_of_plain hv]
    exact ⟨rfl, hext.os, hext.tape, hext.output, hext.size, fun k hk => hext.frame k hk fun ⟨b, L, ho, _⟩ => by simp [at_, Blk.own] at ho⟩

end

theorem wrap_i64_of {n : Int} (h1 : -9223372036854775808 ≤ n) (h2 : n ≤ 9223372036854775807) : IntKind.i64.wrap n = n := by rw [IntKind.wrap_i64]; omega
end

section
open Go.RowKit

section
variable {P : Program} {f : Fr} {n0 : Nat}

/-- What is divided next: a remainder? the kind, the two numbers. -/
def divAt (s : VS) : Option (Bool × IntKind × Int × Int) := match opAt s with
  | some o => match o.op with
    | .binOp .quo _ x y _ => match evalC s.slots x, evalC s.slots y with
      | .int k n, .int k' d => if decide (k = k') && okConst x && okConst y then some (false, k, n, d) else none
      | _, _ => none
    | .binOp .rem _ x y _ => match evalC s.slots x, evalC s.slots y with
      | .int k n, .int k' d => if decide (k = k') && okConst x && okConst y then some (true, k, n, d) else none
      | _, _ => none
    | _ => none
  | none => none

def afterOne (s : VS) (u : Value) : VS := match opAt s with
  | some o => fv u fun u' => afterOp s o u' s.mem ⟨[], []⟩
  | none => s

theorem operand_int {a : List Value} {x : Operand} {k : IntKind} {n : Int} (h : evalC a x = .int k n) : plainOperand a x = true := by
  cases x with
  | tmp t =>
    have h' : a.getD t undef = .int k n := h
    show plain (a.getD t undef) = true
    rw [h']
    rfl
  | const v => rfl
  | global g => simp [evalC, undef] at h
  | func f => rfl

theorem OpOk.div {o : Oper} {a : List Value} {m : List Blk} {op : BinOp} {t ty : TypeId} {x y : Operand} {k : IntKind} {n d : Int} {r : Bool} (ho : o.op = .binOp op t x y ty) (hop : op = bif r then .rem else .quo) (hx : evalC a x = .int k n) (hy : evalC a y = .int k d) (hd : d ≠ 0) :
    OpOk P o a m (.int k (bif r then n.tmod d else k.wrap (n.tdiv d))) m ⟨[], []⟩ := by
  refine OpOk.plainOp ?_ (by unfold notSelect; rw [ho]) rfl ?_
  · rw [ho]
    simp [Op.operands, operand_int hx, operand_int hy]
  · unfold execOp
    rw [ho]
    subst hop
    cases r <;> simp only [binOp, hx, hy, Op.intDiv, hd, ne_eq, not_true_eq_false, if_false, cond_true, cond_false] <;> rfl

theorem RunsE.div {s : VS} {v : VQ} (r : Bool) (k : IntKind) (n d : Int) (hs : divAt s = some (r, k, n, d)) (hd : d ≠ 0) (hr : RunsE P f n0 (afterOne s (.int k (bif r then n.tmod d else k.wrap (n.tdiv d)))) v) : RunsE P f n0 s v := by
  unfold divAt at hs
  unfold afterOne at hr
  split at hs
  · rename_i o ho
    simp only [ho, fv_eq] at hr
    split at hs
    · rename_i t x y ty hop
      split at hs
      · rename_i k1 n1 k2 d2 hx hy
        split at hs
        · rename_i hk
          simp only [Bool.and_eq_true, decide_eq_true_eq] at hk
          obtain ⟨⟨hk, hcx⟩, hcy⟩ := hk
          subst hk
          cases hs
          exact RunsE.op o ho (OpOk.div (r := false) hop rfl hx hy hd) hr
        · cases hs
      · cases hs
    · rename_i t x y ty hop
      split at hs
      · rename_i k1 n1 k2 d2 hx hy
        split at hs
        · rename_i hk
          simp only [Bool.and_eq_true, decide_eq_true_eq] at hk
          obtain ⟨⟨hk, hcx⟩, hcy⟩ := hk
          subst hk
          cases hs
          exact RunsE.op o ho (OpOk.div (r := true) hop rfl hx hy hd) hr
        · cases hs
      · cases hs
    · cases hs
  · cases hs

/-- What is called next, of the functions without a body. -/
def extAt (s : VS) : Option (FuncId × Array Value) := match opAt s with
  | some o => match o.op with
    | .call ⟨.value (.func g), xs, _⟩ => if xs.toList.all (plainOperand s.slots) then some (g, ⟨xs.toList.map (evalC s.slots)⟩) else none
    | _ => none
  | none => none

theorem RunsE.extern {s : VS} {v : VQ} {u : Value} {g : FuncId} {e : Array Value → Sem Value} (args : Array Value) (he : externOf P g = some e) (hs : extAt s = some (g, args)) (hp : plain u = true) (hv : ∀ w, (e args).run P w = .ok u w)
    (hr : RunsE P f n0 (afterOne s u) v) : RunsE P f n0 s v := by
  unfold extAt at hs
  unfold afterOne at hr
  split at hs
  · rename_i o ho
    simp only [ho, fv_eq] at hr
    split at hs
    · rename_i g' xs ts hop
      split at hs
      · rename_i hall
        cases hs
        have e1 : (⟨xs.toList.map (evalC s.slots)⟩ : Array Value) = xs.map (evalC s.slots) := by
          apply Array.ext'; simp
        rw [e1] at hv
        exact RunsE.op o ho (OpOk.extern hop rfl hall he hp hv) hr
      · cases hs
    · cases hs
  · cases hs

/-- One operation over plain values, by what it gives. -/
theorem RunsE.plainOp {s : VS} {v : VQ} {u : Value} (o : Oper) (hs : opAt s = some o) (hops : (o.op.operands.toList.all (plainOperand s.slots) && notSelect o && plain u) = true) (h : pureEval P (execOp (evalC s.slots) o) = some (.value u))
    (hr : RunsE P f n0 (afterOne s u) v) : RunsE P f n0 s v := by
  unfold afterOne at hr
  simp only [hs, fv_eq] at hr
  simp only [Bool.and_eq_true] at hops
  exact RunsE.op o hs (OpOk.plainOp hops.1.1 hops.1.2 hops.2 h) hr

end

end

end Go.Dt
