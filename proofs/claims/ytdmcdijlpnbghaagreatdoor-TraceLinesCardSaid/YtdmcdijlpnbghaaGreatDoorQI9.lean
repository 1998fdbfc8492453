/- Several texts in one: Dt16, Dt17, Dt18. -/
import Derived.Test.YtdmcdijlpnbghaaGreatDoorQI8
import Derived.ChangeSame
import Derived.Carry
import Derived.WalkKit
import Derived.ProofKit
import Derived.OpenShut
namespace Go.Dt

section
open Go.RowKit Go.WideShapes Go.ChangeShapes Go.ChangeAt

/-- The ending of a row whose call changed nothing that was there: the results, the arguments as they read behind the call, the variables. -/
theorem ends_below {H : Type} {enc : TypeId × Value → H} {P : Program} {fn : Func} {sp : ChangeSpec} {ap fr ho ag : Bool} {W W' : World} {xs : Array Value} {r : Value} {ds gs : List (DataW H)} {pl qa qv : List MemPlace}
    (hw : DataW.Whole enc P fn.params.toList sp.vars ap W xs.toList ds gs pl) (hbl : Below W.heap.size W W') (hpl : pl = qa ++ qv)
    (hr : ∀ (b : Nat) (z : Nat → Bool) (hd : Bool), DataW.TrodAll enc P W' b z hd fn.resultTypes.toList (r.resultList fn.resultTypes.size) (sp.fn H (ds ++ gs)).results [])
    (ha : ∀ z : Nat → Bool, (∀ p ∈ pl, z p.block = true) → DataW.TrodAll enc P W' 0 z true fn.params.toList xs.toList (sp.fn H (ds ++ gs)).args qa)
    (hv : ∀ z : Nat → Bool, (∀ p ∈ pl, z p.block = true) → DataW.TrodVars enc P W' z sp.vars (sp.fn H (ds ++ gs)).vars qv)
    (hok : ∀ (j : Nat) (t : TypeId) (u : Value), fn.resultTypes[j]? = some t → (r.resultList fn.resultTypes.size)[j]? = some u → Value.okWide P W' .any 0 t u) :
    sp.post enc P fn ap fr ho ag W xs r W' := by
  have inW : ∀ p ∈ pl, (decide (p.block < W.heap.size)) = true := fun p hp => decide_eq_true (hw.lt p hp)
  have kept := hbl.frame (· ∈ pl)
  have whole := hw
  obtain ⟨_, _, _, _, _, hz, hn⟩ := whole
  have mem : ∀ p, p ∈ ([] ++ qa) ++ qv → p ∈ pl := fun p hp => by rw [hpl]; simpa using hp
  refine ⟨ds, gs, pl, [], qa, qv, hw, hr _ _ _, ha _ inW, hv _ inW, World.keptBut_mono (fun p hp => ⟨hp, ?_⟩) kept, fun _ => ⟨hok, _, _, _, ⟨[] ++ qa, qv, trodAll_append (ha _ fun _ _ => rfl) (hr _ _ _), hv _ fun _ _ => rfl, rfl, ?_, ?_⟩, ?_⟩⟩
  · rw [hpl] at hp
    exact .inr (List.mem_append.1 hp)
  · intro b off hp
    have hlt : (⟨b, off, none⟩ : Addr).block < W.heap.size := hw.lt _ (mem _ hp)
    rw [hbl.frozen hlt]
    exact hz b off (mem _ hp)
  · intro h
    have := hn h
    rw [hpl] at this
    simpa using this
  · exact fun p hp _ => mem p hp

end

section
open Go.RowKit

/-- A block of the callee's: a part of a caller's block, to be read (tight: slices into it end where they are long); a caller's block of plain values, to be read; a caller's own block; one of plain values. -/
inductive Ent where
  | win (b d n : Nat) (tight : Bool)
  | view (b : Nat)
  | own (b : Nat)
  | ownp (b : Nat)

def Ent.emb : Ent → Nat × Nat × Bool
  | .win b d _ _ => (b, d, true)
  | .view b => (b, 0, true)
  | .own b => (b, 0, false)
  | .ownp b => (b, 0, false)
def Ent.isOwn : Ent → Bool
  | .own _ | .ownp _ => true
  | _ => false
def Ent.blk (e : Ent) : Nat := e.emb.1

theorem Ent.own_emb : ∀ {e : Ent}, e.isOwn = true → e.emb = (e.blk, 0, false)
  | .win .., h => by cases h
  | .view _, h => by cases h
  | .own _, _ => rfl
  | .ownp _, _ => rfl
theorem Ent.emb_own : ∀ {e : Ent} {b d : Nat}, e.emb = (b, d, false) → e.isOwn = true ∧ d = 0 ∧ e.blk = b
  | .win .., _, _, h => by cases h
  | .view _, _, _, h => by cases h
  | .own _, _, _, h => by cases h; exact ⟨rfl, rfl, rfl⟩
  | .ownp _, _, _, h => by cases h; exact ⟨rfl, rfl, rfl⟩

def kap (E : List Ent) : Emb := fun i => (E[i]?).map Ent.emb

/-- Where the callee finds a place: block, offset, to be read only? tight? -/
def downP : List Ent → Nat → Nat → Nat → Option (Nat × Nat × Bool × Bool)
  | [], _, _, _ => none
  | .win b' d n t :: E, i, b, o => if Nat.beq b b' && Nat.ble d o && Nat.ble o (d + n) then some (i, o - d, true, t) else downP E (i + 1) b o
  | .view b' :: E, i, b, o => if Nat.beq b b' then some (i, o, true, false) else downP E (i + 1) b o
  | .own b' :: E, i, b, o => if Nat.beq b b' then some (i, o, false, false) else downP E (i + 1) b o
  | .ownp b' :: E, i, b, o => if Nat.beq b b' then some (i, o, false, false) else downP E (i + 1) b o

theorem downP_ok : ∀ {E F : List Ent} {k b o i o' : Nat} {r t : Bool}, downP E k b o = some (i, o', r, t) → (∀ j, E[j]? = F[k + j]?) → ∃ d, kap F i = some (b, d, r) ∧ o = d + o' ∧ (r = false → d = 0)
  | [], _, _, _, _, _, _, _, _, h, _ => by simp [downP] at h
  | e :: E, F, k, b, o, i, o', r, t, h, hF => by
    have hk : kap F k = some e.emb := by
      have := hF 0
      simp at this
      simp [kap, ← this]
    have hF' : ∀ j, E[j]? = F[k + 1 + j]? := fun j => by
      have := hF (j + 1)
      simp at this
      rw [this]; congr 1; omega
    cases e with
    | win b' d n t' =>
      simp only [downP] at h
      split at h
      · rename_i hc
        simp only [Bool.and_eq_true] at hc
        cases h
        have := Nat.eq_of_beq_eq_true hc.1.1
        subst this
        have := Nat.le_of_ble_eq_true hc.1.2
        exact ⟨d, hk, by omega, by simp⟩
      · exact downP_ok h hF'
    | view b' =>
      simp only [downP] at h
      split at h
      · rename_i hc
        cases h
        have := Nat.eq_of_beq_eq_true hc
        subst this
        exact ⟨0, hk, by omega, by simp⟩
      · exact downP_ok h hF'
    | own b' =>
      simp only [downP] at h
      split at h
      · rename_i hc
        cases h
        have := Nat.eq_of_beq_eq_true hc
        subst this
        exact ⟨0, hk, by omega, by simp⟩
      · exact downP_ok h hF'
    | ownp b' =>
      simp only [downP] at h
      split at h
      · rename_i hc
        cases h
        have := Nat.eq_of_beq_eq_true hc
        subst this
        exact ⟨0, hk, by omega, by simp⟩
      · exact downP_ok h hF'

mutual
/-- A caller's value in the callee's numbers. -/
def downV (E : List Ent) : Value → Value
  | .pointer (some ⟨b, o, none⟩) => match downP E 0 b o with
    | some (i, o', _, _) => .pointer (some ⟨i, o', none⟩)
    | none => undef
  | .slice (some ⟨b, o, none⟩) l c => match downP E 0 b o with
    | some (i, o', true, true) => .slice (some ⟨i, o', none⟩) l (bif Nat.ble l c then l else c)
    | some (i, o', true, false) => .slice (some ⟨i, o', none⟩) l c
    | some (i, o', false, _) => .slice (some ⟨i, o', none⟩) l c
    | none => undef
  | .map (some b) => match downP E 0 b 0 with
    | some (i, _, false, _) => .map (some i)
    | _ => undef
  | .func fn ⟨xs⟩ ⟨ys⟩ => .func fn ⟨downVs E xs⟩ ⟨downVs E ys⟩
  | .iface t v => bif Nat.blt t frzT then .iface t (downV E v) else .iface t v
  | .agg ⟨l⟩ => .agg ⟨downVs E l⟩
  | .tuple ⟨l⟩ => .tuple ⟨downVs E l⟩
  | .bool b => .bool b
  | .int k n => .int k n
  | .float k n => .float k n
  | .string s => .string s
  | .nilFunc => .nilFunc
  | .nilIface => .nilIface
  | .pointer none => .pointer none
  | .slice none l c => .slice none l c
  | .map none => .map none
  | _ => undef
def downVs (E : List Ent) : List Value → List Value
  | [] => []
  | v :: l => downV E v :: downVs E l
end

theorem downVs_length (E : List Ent) : ∀ l : List Value, (downVs E l).length = l.length
  | [] => rfl
  | v :: l => by simp [downVs, downVs_length E l]

mutual
theorem ren_down (E : List Ent) : ∀ v : Value, Ren (kap E) (downV E v) v
  | .pointer (some ⟨b, o, none⟩) => by
    simp only [downV]
    split
    · rename_i i o' r t h
      obtain ⟨d, hd, rfl, _⟩ := downP_ok (F := E) h (by simp)
      exact .ptr hd
    · exact .undef _
  | .slice (some ⟨b, o, none⟩) l c => by
    simp only [downV]
    split
    · rename_i i o' h
      obtain ⟨d, hd, rfl, _⟩ := downP_ok (F := E) h (by simp)
      refine .window hd ?_
      cases hb : Nat.ble l c with
      | true => exact Nat.le_of_ble_eq_true hb
      | false => exact Nat.le_refl _
    · rename_i i o' h
      obtain ⟨d, hd, rfl, _⟩ := downP_ok (F := E) h (by simp)
      exact .window hd (Nat.le_refl _)
    · rename_i i o' t h
      obtain ⟨d, hd, rfl, h0⟩ := downP_ok (F := E) h (by simp)
      have := h0 rfl
      subst this
      simpa using Ren.slice (o := o') (l := l) (c := c) hd
    · exact .undef _
  | .map (some b) => by
    simp only [downV]
    split
    · rename_i i o' t h
      obtain ⟨d, hd, _, h0⟩ := downP_ok (F := E) h (by simp)
      have := h0 rfl
      subst this
      exact .map hd
    · exact .undef _
  | .func fn ⟨xs⟩ ⟨ys⟩ => by
    simp only [downV]
    exact .func fn (by simp [downVs_length]) (by simp [downVs_length]) (by simpa using ren_downs E xs) (by simpa using ren_downs E ys)
  | .iface t v => by
    simp only [downV]
    cases ht : Nat.blt t frzT with
    | true => exact .iface t (Nat.lt_of_succ_le (Nat.le_of_ble_eq_true ht)) (ren_down E v)
    | false => exact .pure (by simp only [pureV, ht, cond_false])
  | .agg ⟨l⟩ => by simp only [downV]; exact .agg (by simp [downVs_length]) (by simpa using ren_downs E l)
  | .tuple ⟨l⟩ => by simp only [downV]; exact .tuple (by simp [downVs_length]) (by simpa using ren_downs E l)
  | .bool _ => .plain rfl
  | .int _ _ => .plain rfl
  | .float _ _ => .plain rfl
  | .string _ => .plain rfl
  | .nilFunc => .plain rfl
  | .nilIface => .plain rfl
  | .pointer none => .plain rfl
  | .slice none _ _ => .plain rfl
  | .map none => .plain rfl
  | .complex _ _ _ => .undef _
  | .chan _ => .undef _
  | .pointer (some ⟨_, _, some _⟩) => .undef _
  | .slice (some ⟨_, _, some _⟩) _ _ => .undef _
theorem ren_downs (E : List Ent) : ∀ l : List Value, ∀ i : Nat, Ren (kap E) ((downVs E l)[i]?.getD undef) (l[i]?.getD undef)
  | [], i => by simpa [downVs] using Ren.undef undef
  | v :: l, 0 => by simpa [downVs] using ren_down E v
  | v :: l, i + 1 => by simpa [downVs] using ren_downs E l i
end

/-- A callee's block, from the caller's memory. -/
def downB (E : List Ent) (m : List Blk) : Ent → Blk
  | .win b d n _ => match m[b]? with
    | some (.cells c _ _) => if Nat.ble (d + n) c.length then .cells (downVs E ((c.drop d).take n)) 0 false else .gone
    | _ => .gone
  | .view b => match m[b]? with
    | some (.cells c _ _) => .cells c 0 false
    | _ => .gone
  | .own b => match m[b]? with
    | some (.cells c sz true) => .cells (downVs E c) sz true
    | some (.map es ck) => .map (es.map fun e => { e with key := downV E e.key, val := downV E e.val }) ck
    | _ => .gone
  | .ownp b => match m[b]? with
    | some (.cells c sz true) => .cells c sz true
    | _ => .gone

/-- Where the caller finds what the callee hands back. -/
def upP (E : List Ent) (k k' n i : Nat) : Option Nat := back (kap E) k k' n i

mutual
def upV (κ : Nat → Option Nat) : Value → Value
  | .pointer (some ⟨b, o, none⟩) => match κ b with
    | some i => .pointer (some ⟨i, o, none⟩)
    | none => undef
  | .slice (some ⟨b, o, none⟩) l c => match κ b with
    | some i => .slice (some ⟨i, o, none⟩) l c
    | none => undef
  | .map (some b) => match κ b with
    | some i => .map (some i)
    | none => undef
  | .func fn ⟨xs⟩ ⟨ys⟩ => .func fn ⟨upVs κ xs⟩ ⟨upVs κ ys⟩
  | .iface t v => bif Nat.blt t frzT then .iface t (upV κ v) else .iface t v
  | .agg ⟨l⟩ => .agg ⟨upVs κ l⟩
  | .tuple ⟨l⟩ => .tuple ⟨upVs κ l⟩
  | .bool b => .bool b
  | .int k n => .int k n
  | .float k n => .float k n
  | .string s => .string s
  | .nilFunc => .nilFunc
  | .nilIface => .nilIface
  | .pointer none => .pointer none
  | .slice none l c => .slice none l c
  | .map none => .map none
  | _ => undef
def upVs (κ : Nat → Option Nat) : List Value → List Value
  | [] => []
  | v :: l => upV κ v :: upVs κ l
end

theorem upVs_length (κ : Nat → Option Nat) : ∀ l : List Value, (upVs κ l).length = l.length
  | [] => rfl
  | v :: l => by simp [upVs, upVs_length κ l]

mutual
theorem lift_up (κ : Nat → Option Nat) : ∀ v : Value, Lift κ v (upV κ v)
  | .pointer (some ⟨b, o, none⟩) => by
    simp only [upV]
    split
    · rename_i i h; exact .ptr h
    · exact .any _
  | .slice (some ⟨b, o, none⟩) l c => by
    simp only [upV]
    split
    · rename_i i h; exact .slice h
    · exact .any _
  | .map (some b) => by
    simp only [upV]
    split
    · rename_i i h; exact .map h
    · exact .any _
  | .func fn ⟨xs⟩ ⟨ys⟩ => by
    simp only [upV]
    exact .func fn (by simp [upVs_length]) (by simp [upVs_length]) (by simpa using lift_ups κ xs) (by simpa using lift_ups κ ys)
  | .iface t v => by
    simp only [upV]
    cases ht : Nat.blt t frzT with
    | true => exact .iface t (Nat.lt_of_succ_le (Nat.le_of_ble_eq_true ht)) (lift_up κ v)
    | false => exact .pure (by simp only [pureV, ht, cond_false])
  | .agg ⟨l⟩ => by simp only [upV]; exact .agg (by simp [upVs_length]) (by simpa using lift_ups κ l)
  | .tuple ⟨l⟩ => by simp only [upV]; exact .tuple (by simp [upVs_length]) (by simpa using lift_ups κ l)
  | .bool _ => .plain rfl
  | .int _ _ => .plain rfl
  | .float _ _ => .plain rfl
  | .string _ => .plain rfl
  | .nilFunc => .plain rfl
  | .nilIface => .plain rfl
  | .pointer none => .plain rfl
  | .slice none _ _ => .plain rfl
  | .map none => .plain rfl
  | .complex _ _ _ => .any _
  | .chan _ => .any _
  | .pointer (some ⟨_, _, some _⟩) => .any _
  | .slice (some ⟨_, _, some _⟩) _ _ => .any _
theorem lift_ups (κ : Nat → Option Nat) : ∀ l : List Value, ∀ i : Nat, Lift κ (l[i]?.getD undef) ((upVs κ l)[i]?.getD undef)
  | [], i => by simpa [upVs] using Lift.any undef
  | v :: l, 0 => by simpa [upVs] using lift_up κ v
  | v :: l, i + 1 => by simpa [upVs] using lift_ups κ l i
end

/-- A callee's block behind the call, in the caller's numbers; 'pl': its values are plain. -/
def upB (κ : Nat → Option Nat) (pl : Bool) : Blk → Blk
  | .cells c sz r => .cells (bif pl then c else upVs κ c) sz r
  | .map es ck => .map (es.map fun e => { e with key := upV κ e.key, val := upV κ e.val }) ck
  | .gone => .gone

theorem blift_up (κ : Nat → Option Nat) {pl : Bool} : ∀ {x : Blk}, (pl = true → ∀ c sz r, x = .cells c sz r → pures c = true) → BLift κ x (upB κ pl x)
  | .cells c sz r, h => by
    cases pl with
    | true =>
      have := h rfl c sz r rfl
      exact .cells sz r rfl fun i hi => .pure (pures_get this hi)
    | false =>
      refine .cells sz r (by simp [upVs_length]) fun i _ => ?_
      have := lift_ups κ c i
      simpa [List.getD_eq_getElem?_getD] using this
  | .map es ck, _ => by
    refine .map ck (by simp) fun i e e' he he' => ?_
    simp only [List.getElem?_map, he, Option.map_some, Option.some.injEq] at he'
    subst he'
    exact ⟨lift_up κ _, lift_up κ _, rfl⟩
  | .gone, _ => .gone _

/-- The caller's old blocks behind the call. -/
def upM (κ : Nat → Option Nat) (E : List Ent) (pl : List Nat) (mf' : List Blk) : Nat → List Blk → List Blk
  | _, [] => []
  | b, x :: l => (match E.findIdx? (fun e => e.isOwn && Nat.beq e.blk b) with
      | some i => upB κ (pl.contains i) (mf'.getD i .gone)
      | none => x) :: upM κ E pl mf' (b + 1) l
def upN (κ : Nat → Option Nat) (pl : List Nat) : Nat → List Blk → List Blk
  | _, [] => []
  | i, x :: l => upB κ (pl.contains i) x :: upN κ pl (i + 1) l

theorem upM_length {κ : Nat → Option Nat} {E : List Ent} {pl : List Nat} {mf' : List Blk} : ∀ (b : Nat) (l : List Blk), (upM κ E pl mf' b l).length = l.length
  | _, [] => rfl
  | b, x :: l => by simp [upM, upM_length (b + 1) l]
theorem upN_length {κ : Nat → Option Nat} {pl : List Nat} : ∀ (i : Nat) (l : List Blk), (upN κ pl i l).length = l.length
  | _, [] => rfl
  | i, x :: l => by simp [upN, upN_length (i + 1) l]
theorem upM_get {κ : Nat → Option Nat} {E : List Ent} {pl : List Nat} {mf' : List Blk} : ∀ (b : Nat) (l : List Blk) (j : Nat), j < l.length →
    (upM κ E pl mf' b l).getD j .gone = (match E.findIdx? (fun e => e.isOwn && Nat.beq e.blk (b + j)) with
      | some i => upB κ (pl.contains i) (mf'.getD i .gone)
      | none => l.getD j .gone)
  | _, [], j, h => by simp at h
  | b, x :: l, 0, _ => by simp [upM]
  | b, x :: l, j + 1, h => by
    have := upM_get (κ := κ) (E := E) (pl := pl) (mf' := mf') (b + 1) l j (by simpa using h)
    rw [show b + 1 + j = b + (j + 1) by omega] at this
    simpa [upM] using this
theorem upN_get {κ : Nat → Option Nat} {pl : List Nat} : ∀ (i : Nat) (l : List Blk) (j : Nat), j < l.length → (upN κ pl i l).getD j .gone = upB κ (pl.contains (i + j)) (l.getD j .gone)
  | _, [], j, h => by simp at h
  | i, x :: l, 0, _ => by simp [upN]
  | i, x :: l, j + 1, h => by
    have := upN_get (κ := κ) (pl := pl) (i + 1) l j (by simpa using h)
    rw [show i + 1 + j = i + (j + 1) by omega] at this
    simpa [upN] using this

def liveAt (m : List Blk) (b : Nat) : Bool := match m[b]? with
  | some x => x.live
  | none => false

/-- The own blocks are distinct from one another and from what is read. -/
def apartE : List Ent → Bool
  | [] => true
  | e :: E => (bif e.isOwn then E.all (fun e' => !Nat.beq e.blk e'.blk) else E.all (fun e' => !(e'.isOwn && Nat.beq e.blk e'.blk))) && apartE E

theorem apartE_ok : ∀ {E : List Ent}, apartE E = true → ∀ (i j : Nat) (e e' : Ent), i ≠ j → E[i]? = some e → E[j]? = some e' → e.isOwn = true → e.blk ≠ e'.blk
  | [], _, i, j, e, e', _, h, _, _ => by simp at h
  | x :: E, h, i, j, e, e', hne, hi, hj, ho => by
    simp only [apartE, Bool.and_eq_true] at h
    obtain ⟨h1, h2⟩ := h
    cases i with
    | zero =>
      simp at hi; subst hi
      rw [ho] at h1
      cases j with
      | zero => exact absurd rfl hne
      | succ j =>
        simp at hj
        have := List.all_eq_true.1 h1 e' (List.mem_of_getElem? hj)
        intro he
        simp [he] at this
    | succ i =>
      simp at hi
      cases j with
      | zero =>
        simp at hj; subst hj
        intro he
        cases hx : x.isOwn with
        | true =>
          rw [hx] at h1
          have := List.all_eq_true.1 h1 e (List.mem_of_getElem? hi)
          simp [he] at this
        | false =>
          rw [hx] at h1
          have := List.all_eq_true.1 h1 e (List.mem_of_getElem? hi)
          simp [he, ho] at this
      | succ j =>
        simp at hj
        exact apartE_ok h2 i j e e' (by omega) hi hj ho

def okE (E : List Ent) (m mf' : List Blk) : Bool :=
  apartE E && E.all (fun e => Nat.blt e.blk m.length && liveAt m e.blk) && Nat.ble E.length mf'.length &&
    (List.range mf'.length).all fun i => match E[i]? with
      | some e => !e.isOwn || ownOrGone (mf'.getD i .gone)
      | none => ownOrGone (mf'.getD i .gone)

def plainAt (m : List Blk) (b : Nat) : Prop := ∀ c sz r, m[b]? = some (.cells c sz r) → pures c = true
def Ent.plain : Ent → Bool
  | .view _ | .ownp _ => true
  | _ => false

def rdsE (E : List Ent) : List Nat := E.map Ent.blk
def wrsE (E : List Ent) : List Nat := (E.filter Ent.isOwn).map Ent.blk

def memE (E : List Ent) (pl : List Nat) (m mf' : List Blk) : List Blk :=
  upM (upP E E.length mf'.length m.length) E pl mf' 0 m ++ upN (upP E E.length mf'.length m.length) pl E.length (mf'.drop E.length)

theorem callData_of {E : List Ent} {pl : List Nat} {m mf' : List Blk} (hE : okE E m mf' = true) (hview : ∀ e, e ∈ E → e.plain = true → plainAt m e.blk) (hpl : ∀ i, i ∈ pl → plainAt mf' i) :
    CallData m (E.map (downB E m)) mf' (memE E pl m mf') (kap E) (rdsE E) (wrsE E) := by
  unfold okE at hE
  simp only [Bool.and_eq_true] at hE
  obtain ⟨⟨⟨hap, hall⟩, hle⟩, hown⟩ := hE
  have hle := Nat.le_of_ble_eq_true hle
  have entry : ∀ {i b d : Nat} {r : Bool}, kap E i = some (b, d, r) → ∃ e, E[i]? = some e ∧ e.emb = (b, d, r) := fun h => by
    unfold kap at h
    rw [Option.map_eq_some_iff] at h
    exact h
  have ent : ∀ {e : Ent}, e ∈ E → e.blk < m.length ∧ liveAt m e.blk = true := fun he => by
    have := List.all_eq_true.1 hall _ he
    simp only [Bool.and_eq_true] at this
    exact ⟨Nat.lt_of_succ_le (Nat.le_of_ble_eq_true this.1), this.2⟩
  have isown : ∀ {e : Ent} {b d : Nat}, e.emb = (b, d, false) → e.isOwn = true ∧ d = 0 ∧ e.blk = b := Ent.emb_own
  have downs : ∀ (j : Nat) (l : List Value), Ren (kap E) ((downVs E l).getD j undef) (l.getD j undef) := fun j l => by
    have := ren_downs E l j
    simpa [List.getD_eq_getElem?_getD] using this
  have lenf : (E.map (downB E m)).length = E.length := by simp
  have lenM : (memE E pl m mf').length = m.length + (mf'.length - E.length) := by simp [memE, upM_length, upN_length]
  have getM : ∀ b, b < m.length → (memE E pl m mf').getD b .gone = (upM (upP E E.length mf'.length m.length) E pl mf' 0 m).getD b .gone := fun b hb => by
    simp only [memE, List.getD_eq_getElem?_getD]
    rw [List.getElem?_append_left (by rw [upM_length]; exact hb)]
  have plOk : ∀ i, pl.contains i = true → ∀ c sz r, mf'.getD i .gone = .cells c sz r → pures c = true := fun i hi c sz r hc => by
    refine hpl i (by simpa using hi) c sz r ?_
    rw [List.getD_eq_getElem?_getD] at hc
    cases hx : mf'[i]? with
    | none => rw [hx] at hc; cases hc
    | some x => rw [hx] at hc; simp at hc; rw [hc]
  refine ⟨fun i b d h => ?_, fun i b d r h => ?_, fun i b d r h => ?_, fun b hb => ?_, fun b hb => ?_, fun i b h => ?_, fun i j b d r hne h h' => ?_, fun i hi => ?_, by rw [lenf]; exact hle, by rw [lenM, lenf], fun i b h => ?_, fun j hj hj' => ?_, fun b hb hk => ?_⟩
  · obtain ⟨e, _, he2⟩ := entry h
    exact (isown he2).2.1
  · obtain ⟨e, he, he2⟩ := entry h
    have hm := List.mem_of_getElem? he
    have hb : e.blk = b := by simp [Ent.blk, he2]
    refine ⟨by rw [lenf]; exact (List.getElem?_eq_some_iff.1 he).1, by rw [← hb]; exact (ent hm).1, ?_⟩
    rw [← hb]
    exact List.mem_map.2 ⟨e, hm, rfl⟩
  · obtain ⟨e, he, he2⟩ := entry h
    have hb : e.blk = b := by simp [Ent.blk, he2]
    have hl := (ent (List.mem_of_getElem? he)).2
    rw [hb] at hl
    unfold liveAt at hl
    rw [List.getD_eq_getElem?_getD]
    cases hx : m[b]? with
    | none => rw [hx] at hl; cases hl
    | some x => rw [hx] at hl; exact hl
  · obtain ⟨e, he, rfl⟩ := List.mem_map.1 hb
    exact (ent he).1
  · obtain ⟨e, he, rfl⟩ := List.mem_map.1 hb
    exact List.mem_map.2 ⟨e, (List.mem_filter.1 he).1, rfl⟩
  · obtain ⟨e, he, he2⟩ := entry h
    obtain ⟨h1, _, h3⟩ := isown he2
    exact List.mem_map.2 ⟨e, List.mem_filter.2 ⟨List.mem_of_getElem? he, h1⟩, h3⟩
  · obtain ⟨e, he, he2⟩ := entry h
    obtain ⟨e', he', he2'⟩ := entry h'
    obtain ⟨h1, _, h3⟩ := isown he2
    have hb : e'.blk = b := by simp [Ent.blk, he2']
    exact apartE_ok hap i j e e' hne he he' h1 (h3.trans hb.symm)
  · rw [lenf] at hi
    have he : E[i]? = some E[i] := by simp [hi]
    have hk : kap E i = some E[i].emb := by simp [kap, hi]
    have hg : (E.map (downB E m)).getD i .gone = downB E m E[i] := by simp [List.getD_eq_getElem?_getD, hi]
    rw [hg]
    have hv := hview E[i] (List.getElem_mem hi)
    generalize E[i] = e at hk hv
    cases e with
    | win b d n t =>
      simp only [downB]
      split
      · rename_i c sz r hb
        split
        · rename_i hfit
          have hfit := Nat.le_of_ble_eq_true hfit
          refine .window hk hb (by rw [downVs_length]; simp; omega) fun j hj => ?_
          rw [downVs_length] at hj
          have hj' : j < n := by simp at hj; omega
          have := downs j ((c.drop d).take n)
          have e2 : ((c.drop d).take n).getD j undef = c.getD (d + j) undef := by simp [List.getD_eq_getElem?_getD, hj']
          rwa [e2] at this
        · exact .gone
      · exact .gone
    | view b =>
      simp only [downB]
      split
      · rename_i c sz r hb
        have hp := hv rfl c sz r hb
        exact .window hk hb (by omega) fun j hj => by rw [Nat.zero_add]; exact .pure (pures_get hp hj)
      · exact .gone
    | own b =>
      simp only [downB]
      split
      · rename_i c sz hb
        exact .whole hk hb (by rw [downVs_length]) fun j _ => downs j c
      · rename_i es ck hb
        refine .map hk hb (by simp) fun j x y hx hy => ?_
        rw [List.getElem?_map, hy] at hx
        simp at hx
        subst hx
        exact ⟨ren_down E _, ren_down E _, rfl⟩
      · exact .gone
    | ownp b =>
      simp only [downB]
      split
      · rename_i c sz hb
        have hp := hv rfl c sz true hb
        exact .whole hk hb rfl fun j hj => .pure (pures_get hp hj)
      · exact .gone
  · obtain ⟨e, he, he2⟩ := entry h
    obtain ⟨h1, _, h3⟩ := isown he2
    have hm := List.mem_of_getElem? he
    have hb : b < m.length := by rw [← h3]; exact (ent hm).1
    have hi : i < E.length := (List.getElem?_eq_some_iff.1 he).1
    rw [getM b hb, upM_get 0 m b hb, lenf]
    have hfind : E.findIdx? (fun e => e.isOwn && Nat.beq e.blk (0 + b)) = some i := by
      rw [List.findIdx?_eq_some_iff_getElem]
      have hei : E[i] = e := (List.getElem?_eq_some_iff.1 he).2
      refine ⟨hi, by simp [hei, h1, h3], fun j hj => ?_⟩
      have hjl : j < E.length := by omega
      have := apartE_ok hap i j e E[j] (by omega) he (by simp [hjl]) h1
      rw [h3] at this
      intro hc
      simp only [Bool.and_eq_true] at hc
      have h4 := Nat.eq_of_beq_eq_true hc.2
      exact this (by omega)
    rw [hfind]
    refine ⟨blift_up _ (fun hc c sz r hx => plOk i hc c sz r hx), ?_⟩
    have := List.all_eq_true.1 hown i (by simp; omega)
    rw [he] at this
    simpa [h1] using this
  · rw [lenf] at hj
    have hgm : (memE E pl m mf').getD (m.length + (j - E.length)) .gone = upB (upP E E.length mf'.length m.length) (pl.contains j) (mf'.getD j .gone) := by
      simp only [memE]
      rw [List.getD_eq_getElem?_getD, List.getElem?_append_right (by rw [upM_length]; omega), upM_length, ← List.getD_eq_getElem?_getD, show m.length + (j - E.length) - m.length = j - E.length by omega,
        upN_get _ _ _ (by simp; omega), show E.length + (j - E.length) = j by omega]
      congr 1
      simp only [List.getD_eq_getElem?_getD, List.getElem?_drop, show E.length + (j - E.length) = j by omega]
    rw [lenf, hgm]
    refine ⟨blift_up _ (fun hc c sz r hx => plOk j hc c sz r hx), ?_⟩
    have := List.all_eq_true.1 hown j (by simp; omega)
    have hn : E[j]? = none := by simp; omega
    rw [hn] at this
    exact this
  · rw [getM b hb, upM_get 0 m b hb]
    have hfind : E.findIdx? (fun e => e.isOwn && Nat.beq e.blk (0 + b)) = none := by
      rw [List.findIdx?_eq_none_iff]
      intro e he
      cases hx : (e.isOwn && Nat.beq e.blk (0 + b)) with
      | false => rfl
      | true =>
        simp only [Bool.and_eq_true] at hx
        obtain ⟨i, hi⟩ := List.getElem?_of_mem he
        have h4 := Nat.eq_of_beq_eq_true hx.2
        have : kap E i = some (b, 0, false) := by
          rw [Nat.zero_add] at h4
          simp only [kap, hi, Option.map_some, Ent.own_emb hx.1, h4]
        exact absurd this (hk i)
    rw [hfind]

theorem noView {E : List Ent} {m : List Blk} (h : E.all (fun e => !e.plain) = true) : ∀ e, e ∈ E → e.plain = true → plainAt m e.blk := fun e he hp => by
  have := List.all_eq_true.1 h e he
  simp [hp] at this
theorem noPl {m : List Blk} : ∀ i, i ∈ ([] : List Nat) → plainAt m i := fun i h => by cases h

section
variable {P : Program} {f : Fr} {n0 : Nat}

/-- What is called next, in the callee's numbers. -/
def downAt (E : List Ent) (s : VS) : Option (FuncId × List Value × List Blk) := match callAt s with
  | some (g, args) => some (g, downVs E args, E.map (downB E s.mem))
  | none => none
def afterM (E : List Ent) (pl : List Nat) (s : VS) (u : Value) (mf' : List Blk) : VS := match opAt s with
  | some o => fv u fun u' => fl (memE E pl s.mem mf') fun m' => afterOp s o u' m' ⟨rdsE E, wrsE E⟩
  | none => s

/-- A call that reads or writes memory, by its contract; what comes back is lifted. -/
theorem RunsE.callM {s : VS} {v : VQ} {r u : Value} {g : FuncId} {gn : Func} {mf' : List Blk} (E : List Ent) (pl : List Nat) (vs : List Value) (mf : List Blk) (hf : P.funcs[g]? = some gn) (hs : downAt E s = some (g, vs, mf))
    (hn : ((gn.name == "runtime.NumGoroutine") || gn.body.isNone) = false) (hE : okE E s.mem mf' = true) (hview : ∀ e, e ∈ E → e.plain = true → plainAt s.mem e.blk) (hpl : ∀ i, i ∈ pl → plainAt mf' i)
    (hu : Lift (back (kap E) E.length mf'.length s.mem.length) r u) (h : FnEq P g vs mf r mf') (hr : RunsE P f n0 (afterM E pl s u mf') v) : RunsE P f n0 s v := by
  unfold downAt callAt at hs
  unfold afterM at hr
  cases ho : opAt s with
  | none => simp [ho] at hs
  | some o =>
    simp only [ho] at hs
    simp only [ho, fv_eq, fl_eq] at hr
    cases hc : callOf o s.slots with
    | none => simp [hc] at hs
    | some ga =>
      obtain ⟨g', args⟩ := ga
      simp only [hc, Option.some.injEq, Prod.mk.injEq] at hs
      obtain ⟨rfl, rfl, rfl⟩ := hs
      rw [Bool.or_eq_false_iff] at hn
      have hc' := hc
      unfold callOf at hc
      split at hc
      · rename_i c hop
        split at hc
        · rename_i gop hcal
          split at hc
          · rename_i hk
            rw [Bool.and_eq_true] at hk
            split at hc
            · rename_i f' first captured hg
              cases hc
              obtain ⟨callee, xs, ts⟩ := c
              simp only at hcal hk h
              subst hcal
              have D := callData_of hE hview hpl
              have hlen : (E.map (downB E s.mem)).length = E.length := by simp
              exact RunsE.op o ho (OpOk.call (κ := kap E) hop hg hk.1 hk.2 hf hn.1 hn.2 (by simp only [downVs_length]) (fun i _ => by
                have := ren_downs E (argsC s.slots xs first captured) i
                simpa [List.getD_eq_getElem?_getD] using this) D (by rw [hlen]; exact hu) h) hr
            · cases hc
          · cases hc
        · cases hc
      · cases hc

/-- What is behind the call in the blocks that were there is forgotten. -/
theorem FnEq.forget {f : FuncId} {args : List Value} {m m' : List Blk} {v : Value} (h : FnEq P f args m v m') (hv : plain v = true) : FnEq P f args m v (List.replicate m.length .gone) :=
  FnEq.drop (List.range m.length) h (fun i hi => by simp [hi]) List.nodup_range (by simp) (.plain hv) (fun j b hj => by
    have : (List.replicate m.length Blk.gone).getD j .gone = .gone := by
      rw [List.getD_eq_getElem?_getD, List.getElem?_replicate]
      split <;> rfl
    rw [this]
    exact .gone _)

/-- A function that only reads what it is given. -/
theorem FnEq.runRO {f : FuncId} {fn : Func} {args : List Value} {m : List Blk} {v : Value} (hf : P.funcs[f]? = some fn) (hb : fn.body.isSome = true) (hv : plain v = true)
    (h : RunsE P (.fn0 f) m.length (entry fn args m) v) : FnEq P f args m v (List.replicate m.length .gone) := by
  obtain ⟨m', h, _⟩ := h
  exact (FnEq.of_runs hf hb h).forget hv

end

end

section
open Go.RowKit

section
variable {P : Program} {f : Fr} {n0 : Nat}

/-- As far as the machine gets by itself. -/
def go (P : Program) (s : VS) : VS := vadv P 1000000 s

/-- A contract of a function over plain values. -/
structure Con (P : Program) (g : FuncId) (args : List Value) (u : Value) : Prop where
  eq : FnEq P g args [] u []
  fn : ∃ gn, P.funcs[g]? = some gn ∧ ((gn.name == "runtime.NumGoroutine") || gn.body.isNone) = false
  pl : (pures args && pureV u) = true

theorem Con.run {f : FuncId} {fn : Func} {args : List Value} {v : Value} (hf : P.funcs[f]? = some fn) (hn : ((fn.name == "runtime.NumGoroutine") || fn.body.isNone) = false) (hp : (pures args && pureV v) = true)
    (h : RunsE P (.fn0 f) 0 (entry fn args []) v) : Con P f args v where
  eq := FnEq.run hf (by
    rw [Bool.or_eq_false_iff] at hn
    cases hb : fn.body with
    | none => rw [hb] at hn; cases hn.2
    | some c => rfl) ((Bool.and_eq_true _ _).mp hp).2 h
  fn := ⟨fn, hf, hn⟩
  pl := hp

theorem Con.of {f : FuncId} {fn : Func} {args : List Value} {v : Value} (hf : P.funcs[f]? = some fn) (hn : ((fn.name == "runtime.NumGoroutine") || fn.body.isNone) = false) (hp : (pures args && pureV v) = true)
    (h : FnEq P f args [] v []) : Con P f args v := ⟨h, ⟨fn, hf, hn⟩, hp⟩

theorem Con.val {g : FuncId} {args args' : List Value} {u u' : Value} (h : Con P g args u) (ha : args = args') (hu : u = u') : Con P g args' u' := ha ▸ hu ▸ h

theorem R.fin {s : VS} {v : Value} {fn : Func} (hm : P.follows .mixedOrders = true) {g : FuncId} (hf : P.funcs[g]? = some fn) (h : retOf P fn (go P s) = some v) (hg : f.IsF g := by exact rfl) : RunsE P f n0 s v := RunsE.fin hm (hg.of hf) _ h

theorem R.call {s : VS} {v : VQ} {u : Value} {g : FuncId} {args : List Value} (hm : P.follows .mixedOrders = true) (c : Con P g args u) (hs : callAt (go P s) = some (g, args)) (hr : RunsE P f n0 (afterCall (go P s) u) v) : RunsE P f n0 s v :=
  let ⟨_, hf, hn⟩ := c.fn
  RunsE.adv hm _ (RunsE.call args hf hs hn c.pl c.eq hr)

theorem R.branch {s : VS} {v : VQ} (hm : P.follows .mixedOrders = true) (n' : Nat) (b : Bool) (hs : condOf (vadv P n' s) = some b) (h1 : b = true → RunsE P f n0 (goC (vadv P n' s) true) v) (h0 : b = false → RunsE P f n0 (goC (vadv P n' s) false) v) : RunsE P f n0 s v :=
  RunsE.adv hm n' (RunsE.branch b hs h1 h0)
theorem R.cond {s : VS} {v : VQ} (hm : P.follows .mixedOrders = true) (n' : Nat) (b b' : Bool) (e : b = b') (hs : condOf (vadv P n' s) = some b) (h : RunsE P f n0 (goC (vadv P n' s) b') v) : RunsE P f n0 s v :=
  RunsE.adv hm n' (RunsE.cond b b' hs e h)

def guardB (s : VS) : Option Bool := match guardOf s with
  | some (_, b) => some b
  | none => none
def setG (s : VS) (b : Bool) : VS := match guardOf s with
  | some (d, _) => setV s d (.bool b)
  | none => s

theorem R.guard {s : VS} {v : VQ} (hm : P.follows .mixedOrders = true) (n' : Nat) (b : Bool) (hs : guardB (vadv P n' s) = some b) (h1 : b = true → RunsE P f n0 (setG (vadv P n' s) true) v) (h0 : b = false → RunsE P f n0 (setG (vadv P n' s) false) v) : RunsE P f n0 s v := by
  refine RunsE.adv hm n' ?_
  unfold guardB at hs
  unfold setG at h1 h0
  split at hs
  · rename_i d b' hg
    cases hs
    have hg' : guardOf (vadv P n' s) = some (d, b) := hg
    simp only [hg] at h1 h0
    exact RunsE.guard d b hg' h1 h0
  · cases hs
theorem R.div {s : VS} {v : VQ} (hm : P.follows .mixedOrders = true) (n' : Nat) (r : Bool) (k : IntKind) (n d : Int) (hd : d ≠ 0) (hs : divAt (vadv P n' s) = some (r, k, n, d)) (hr : RunsE P f n0 (afterOne (vadv P n' s) (.int k (bif r then n.tmod d else k.wrap (n.tdiv d)))) v) : RunsE P f n0 s v :=
  RunsE.adv hm n' (RunsE.div r k n d hs hd hr)
theorem R.ext {s : VS} {v : VQ} {u : Value} {g : FuncId} {e : Array Value → Sem Value} (hm : P.follows .mixedOrders = true) (args : Array Value) (he : externOf P g = some e) (hp : plain u = true) (hv : ∀ w, (e args).run P w = .ok u w) (hs : extAt (go P s) = some (g, args))
    (hr : RunsE P f n0 (afterOne (go P s) u) v) : RunsE P f n0 s v :=
  RunsE.adv hm _ (RunsE.extern args he hs hp hv hr)

/-- A slot spelled otherwise. -/
theorem R.spell {s : VS} {v : VQ} (hm : P.follows .mixedOrders = true) (n' : Nat) (d : Nat) (u u' : Value) (e : u = u') (h : (vadv P n' s).slots.getD d undef = u) (hr : RunsE P f n0 (setV (vadv P n' s) d u') v) : RunsE P f n0 s v :=
  RunsE.adv hm n' (RunsE.spell d u u' h e hr)

/-- A contract of a function that is given memory. -/
structure ConM (P : Program) (g : FuncId) (args : List Value) (m : List Blk) (u : Value) (m' : List Blk) : Prop where
  eq : FnEq P g args m u m'
  fn : ∃ gn, P.funcs[g]? = some gn ∧ ((gn.name == "runtime.NumGoroutine") || gn.body.isNone) = false

/-- A function that only reads what it is given. -/
theorem ConM.reads {f : FuncId} {fn : Func} {args : List Value} {m : List Blk} {v : Value} (hf : P.funcs[f]? = some fn) (hn : ((fn.name == "runtime.NumGoroutine") || fn.body.isNone) = false) (hv : plain v = true)
    (h : RunsE P (.fn0 f) m.length (entry fn args m) v) : ConM P f args m v (List.replicate m.length .gone) where
  eq := FnEq.runRO hf (by
    rw [Bool.or_eq_false_iff] at hn
    cases hb : fn.body with
    | none => rw [hb] at hn; cases hn.2
    | some c => rfl) hv h
  fn := ⟨fn, hf, hn⟩

theorem R.callM {s : VS} {v : VQ} {r : Value} {g : FuncId} {vs : List Value} {mf mf' : List Blk} (hm : P.follows .mixedOrders = true) (E : List Ent) (c : ConM P g vs mf r mf') (hs : downAt E (go P s) = some (g, vs, mf)) (hE : okE E (go P s).mem mf' = true) (hview : E.all (fun e => !e.plain) = true)
    (hr : RunsE P f n0 (afterM E [] (go P s) (upV (back (kap E) E.length mf'.length (go P s).mem.length) r) mf') v) : RunsE P f n0 s v :=
  let ⟨_, hf, hn⟩ := c.fn
  RunsE.adv hm _ (RunsE.callM E [] vs mf hf hs hn hE (noView hview) noPl (lift_up _ _) c.eq hr)

end

/-! ### Equality of numbers, all at once -/
end

end Go.Dt
