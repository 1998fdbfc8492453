/- Several texts in one: DtG, DtH, DtI. -/
import Derived.Test.YtdmcdijlpnbghaaGreatDoorQI23
import Derived.Test.YtdmcdijlpnbghaaGreatDoorQI33
namespace Go.Dt

section
open Go.RowKit
set_option linter.unusedVariables false
set_option linter.unusedSimpArgs false

/-- But for the blocks bs, all that lay lies as it lay. -/
structure Turn (bs : List Nat) (W W' : World) : Prop where
  os : W'.os = W.os
  tape : W'.tape = W.tape
  output : W'.output = W.output
  size : W.heap.size ≤ W'.heap.size
  block : ∀ k, k < W.heap.size → k ∉ bs → W'.heap[k]? = W.heap[k]?
theorem Turn.refl (bs : List Nat) (W : World) : Turn bs W W := ⟨rfl, rfl, rfl, Nat.le_refl _, fun _ _ _ => rfl⟩
theorem Turn.trans {bs : List Nat} {A B C : World} (h : Turn bs A B) (k : Turn bs B C) : Turn bs A C :=
  ⟨k.os.trans h.os, k.tape.trans h.tape, k.output.trans h.output, Nat.le_trans h.size k.size, fun i hi hn => (k.block i (Nat.lt_of_lt_of_le hi h.size) hn).trans (h.block i hi hn)⟩
theorem Turn.below {bs : List Nat} {A B : World} (h : Below A.heap.size A B) : Turn bs A B := ⟨h.os, h.tape, h.output, h.size, fun k hk _ => h.block k hk⟩
theorem Turn.alloc {bs : List Nat} {A B : World} (h : Turn bs A B) (o : Obj) : Turn bs A (B.alloc o) := h.trans (.below ((Below.refl _ B).alloc (Nat.le_refl _) o))
theorem Turn.setCell {bs : List Nat} {A B : World} (h : Turn bs A B) {p : Addr} (hp : p.block ∈ bs) (u : Value) : Turn bs A (B.setCell p u) :=
  h.trans ⟨rfl, rfl, rfl, by simp [World.setCell], fun k hk hn => Below.heap_setCell _ _ _ _ (fun e => hn (e ▸ hp))⟩
theorem Turn.drew {bs : List Nat} {A B : World} (h : Turn bs A B) : Turn bs A B.drew := ⟨h.os, h.tape, h.output, h.size, h.block⟩
/-- What stands through an iterator's own steps. -/
def Abd (bs : List Nat) (J : World → Prop) : Prop := ∀ W W', J W → Turn bs W W' → J W'

/-- An iterator's word: in whatever later world it is called, it hands over these values, one by one, until a round says no more; it turns the blocks bs alone, which no round may turn. -/
def IterW (P : Program) (gi : FuncId) (cap : Array Value) (bs : List Nat) (xs : List (Array Value)) (w : World) : Prop :=
  ∀ (l : Nat) (J : Nat → World → Prop) (Jx : World → Prop) (W : World), Below w.heap.size w W → GloOk (froH W) → (∀ k, Abd bs (J k)) → Abd bs Jx →
    (∀ k x W1, xs[k]? = some x → J k W1 → YieldAt Fence.wide 0 P l x W1 fun e W' =>
      (e = .returned (.bool true) ∧ J (k + 1) W' ∧ GloOk (froH W') ∧ W1.heap.size ≤ W'.heap.size ∧ ∀ b, b ∈ bs → W'.heap[b]? = W1.heap[b]?) ∨ (e = .returned (.bool false) ∧ Jx W')) →
    J 0 W → Calls P gi (#[.func (.yield l) #[] #[]] ++ cap) W fun e W' => (∃ v, e = .returned v) ∧ (J xs.length W' ∨ Jx W')

theorem sim_gloH {ι : Map} {C : Cont} {w : World} (h : Sim ι C w) : GloOk (froH w) := GloOk.mono (fun r c hr => by
  obtain ⟨t, fz, hh⟩ := h.fro r c hr
  unfold froH
  rw [hh]) h.glo
/-- The rounds, one by one: a code that is not 0 leaves. -/
def foldB {X S : Type} (body : X → S → Option (Nat × S)) : List X → S → Option (Nat × S)
  | [], s => some (0, s)
  | x :: xs, s => match body x s with
    | none => none
    | some (0, s') => foldB body xs s'
    | some (c + 1, s') => some (c + 1, s')

def codeOf : Nat → Option Code
  | 0 => none
  | 1 => some .ret
  | c + 2 => some (.exit c)
def contOf (c : Nat) (k : List Item) : List Item := ((codeOf c).map Item.code).toList ++ k

theorem cut_le {ι ι' : Map} {n : Nat} (hle : ∀ b L, b < n → ι b = some L → ι' b = some L) (hf : ∀ r c, ι.fro r = some c → ι'.fro r = some c) : Le (Dt.cut n ι) ι' where
  loc := fun b L hL => by
    simp only [Dt.cut] at hL
    split at hL
    · exact hle b L (by assumption) hL
    · cases hL
  fro := hf
theorem RV.low {ι ι' : Map} {n : Nat} {v x : Value} (h : RV ι v x) (hb : bnd n v = true) (hle : ∀ b L, b < n → ι b = some L → ι' b = some L) (hf : ∀ r c, ι.fro r = some c → ι'.fro r = some c) : RV ι' v x :=
  (h.cut hb).mono (cut_le hle hf)

theorem DoneX.trans {D1 D2 D : List Nat} {n : Nat} {ι ι1 ι2 : Map} {C C1 C2 : Cont} {w w1 w2 : World} (h : DoneX D1 n ι C w ι1 C1 w1) (k : DoneX D2 n ι1 C1 w1 ι2 C2 w2)
    (hs : ∀ d, d < w.heap.size → d ∈ D1 ∨ d ∈ D2 → d ∈ D) : DoneX D n ι C w ι2 C2 w2 where
  le := fun b L hb hL => k.le b L hb (h.le b L hb hL)
  size := Nat.le_trans h.size k.size
  os := k.os.trans h.os
  tape := k.tape.trans h.tape
  output := k.output.trans h.output
  frame := fun x hx hn hD => (k.frame x (Nat.lt_of_lt_of_le hx h.size) (fun ho => (h.own x ho).elim hn (fun hge => absurd hx (Nat.not_lt.2 hge))) (fun hd => hD (hs x hx (.inr hd)))).trans (h.frame x hx hn (fun hd => hD (hs x hx (.inl hd))))
  own := fun x ho => (k.own x ho).elim (h.own x) (fun hge => .inr (Nat.le_trans h.size hge))
  live := fun x ho => (k.live x ho).elim (h.live x) (fun hge => .inr (Nat.le_trans h.size hge))
  lef := fun r c hr => k.lef r c (h.lef r c hr)
  fro := fun r c hr => by
    rcases k.fro r c hr with h1 | h1 | h1
    · exact h.fro r c h1
    · exact (h.own r h1).elim (fun h2 => .inr (.inl h2)) (fun h2 => .inr (.inr h2))
    · exact .inr (.inr (Nat.le_trans h.size h1))
theorem DoneX.weak {D D' : List Nat} {n n' : Nat} {ι ι' : Map} {C C' : Cont} {w w' : World} (h : DoneX D n ι C w ι' C' w') (hn : n' ≤ n) (hD : ∀ d, d < w.heap.size → d ∈ D → d ∈ D') : DoneX D' n' ι C w ι' C' w' :=
  ⟨fun b L hb => h.le b L (Nat.lt_of_lt_of_le hb hn), h.size, h.os, h.tape, h.output, fun k hk hn hd => h.frame k hk hn (fun hx => hd (hD k hk hx)), h.own, h.live, h.lef, h.fro⟩
theorem Ext.doneX {n : Nat} {ι ι' : Map} {C C' : Cont} {w w' : World} (h : Ext ι C w ι' C' w') (D : List Nat) : DoneX D n ι C w ι' C' w' :=
  ⟨fun b L _ hL => h.le b L hL, h.size, h.os, h.tape, h.output, fun k hk hn _ => h.frame k hk hn, h.own, h.live, h.le.fro, h.fro⟩
theorem putObj_doneX {n : Nat} (ι : Map) (C : Cont) (w : World) (l : Nat) (o : Obj) : DoneX [l] n ι C w ι C (w.putObj l o) :=
  ⟨fun _ _ _ h => h, by simp, rfl, rfl, rfl, fun k _ _ hd => World.putObj_heap_other (fun e => hd (by simp [e])), fun _ h => .inl h, fun _ h => .inl h, fun _ _ h => h, fun _ _ h => .inl h⟩
theorem Turn.doneX {bs : List Nat} {n : Nat} (ι : Map) (C : Cont) {w w' : World} (h : Turn bs w w') : DoneX bs n ι C w ι C w' :=
  ⟨fun _ _ _ h => h, h.size, h.os, h.tape, h.output, fun k hk _ hd => h.block k hk hd, fun _ h => .inl h, fun _ h => .inl h, fun _ _ h => h, fun _ _ h => .inl h⟩
/-- Blocks that nothing that is known looks at may turn. -/
theorem Sim.turn {ι : Map} {C : Cont} {w w' : World} {bs : List Nat} (h : Sim ι C w) (k : Turn bs w w') (hl : ∀ r, r ∈ bs → ¬ LiveR ι C r ∧ ι.fro r = none) : Sim ι C w' where
  blk := fun b => (h.blk b).keep (Le.refl ι) fun hlv L hL => by
    obtain ⟨L', hL', hlt⟩ := (h.blk b).loc hlv
    rw [hL] at hL'; cases hL'
    exact k.block _ hlt (fun hm => (hl _ hm).1 ⟨b, L, hlv, hL, rfl⟩)
  sep := h.sep
  fro := fun r c hr => by
    obtain ⟨t, fz, hh⟩ := h.fro r c hr
    exact ⟨t, fz, (k.block r (Array.getElem?_eq_some_iff.1 hh).1 (fun hm => by rw [(hl r hm).2] at hr; cases hr)).trans hh⟩
  apart := h.apart
  glo := h.glo

end

section
open Go.RowKit
set_option linter.unusedVariables false
set_option linter.unusedSimpArgs false

section
variable {P : Program} {f : FuncId} {n0 : Nat}

/-- What is known between two rounds. -/
structure Mid {S : Type} (M : S → List Blk) (ac : List Value) (n1 : Nat) (bs : List Nat) (l d0 : Nat) (ι : Map) (C : Cont) (w : World) (t : Array Value) (rec : Loop) (s : S) (ι1 : Map) (W : World) : Prop where
  rel : Rel ι1 ac (M s) t W
  done : DoneX (l :: bs) n1 ι C w ι1 (at_ (M s)) W
  hl : W.heap[l]? = some (.loop rec)
  hd : W.heap[d0]? = some (.deferred (some []))
  off : ∀ r, r ∈ bs → ¬ LiveR ι1 (at_ (M s)) r ∧ ι1.fro r = none

theorem Mid.turn {S : Type} {M : S → List Blk} {ac : List Value} {n1 : Nat} {bs : List Nat} {l d0 : Nat} {ι : Map} {C : Cont} {w : World} {t : Array Value} {rec : Loop} {s : S} {ι1 : Map} {W W' : World}
    (h : Mid M ac n1 bs l d0 ι C w t rec s ι1 W) (hw : ∀ r, r ∈ bs → r < w.heap.size) (hl : w.heap.size ≤ l) (hd : w.heap.size ≤ d0) (k : Turn bs W W') : Mid M ac n1 bs l d0 ι C w t rec s ι1 W' where
  rel := ⟨h.rel.size, h.rel.slots, h.rel.sim.turn k h.off, h.rel.dom⟩
  done := h.done.trans (k.doneX ι1 _) (fun d _ hx => hx.elim id (fun hb => List.mem_cons_of_mem _ hb))
  hl := (k.block l (Array.getElem?_eq_some_iff.1 h.hl).1 (fun hm => by have := hw l hm; omega)).trans h.hl
  hd := (k.block d0 (Array.getElem?_eq_some_iff.1 h.hd).1 (fun hm => by have := hw d0 hm; omega)).trans h.hd
  off := h.off

theorem outc_cases {todo : List Item} {c : Nat} (h : outc todo = some c) : (todo = [] ∧ c = 0) ∨ (∃ k, todo = .code .ret :: k ∧ c = 1) ∨ (∃ id k, todo = .code (.exit id) :: k ∧ exitTo id k = none ∧ c = 2 + id) := by
  unfold outc at h
  split at h
  · cases h; exact .inl ⟨rfl, rfl⟩
  · cases h; exact .inr (.inl ⟨_, rfl, rfl⟩)
  · split at h
    · rename_i he; cases h; exact .inr (.inr ⟨_, _, rfl, he, rfl⟩)
    · cases h
  · cases h

/-- The end of a round, however it ends. -/
theorem round_end {l : Nat} {rec : Loop} {b c : Frame} {cs : List Frame} {w : World} {a : Act} {todo : List Item} {cd : Nat} (hb : b.roundOf = some l) (hk : b.kind = .normal) (hh : w.heap[l]? = some (.loop rec)) (h : outc todo = some cd) :
    step P (lone (b.atR a todo) (c :: cs) w) = .next (lone (c.finish (.bool (codeOf cd).isNone)) cs (w.putObj l (.loop { rec with state := if (codeOf cd).isNone then .ready else .done, pending := codeOf cd }))) := by
  rcases outc_cases h with ⟨rfl, rfl⟩ | ⟨k, rfl, rfl⟩ | ⟨id, k, rfl, he, rfl⟩
  · exact stepR_round_end hb hk (run_endRound none hh)
  · exact stepR_round_ret hb hk (run_endRound (some .ret) hh)
  · have e : codeOf (2 + id) = some (.exit id) := by rw [Nat.add_comm]; rfl
    rw [e]
    exact stepR_round_exit hb hk he (run_endRound (some (.exit id)) hh)

/-- A ROUND. -/
theorem Mid.round {S : Type} {M : S → List Blk} {ac : List Value} {n1 : Nat} {bs : List Nat} {l d0 : Nat} {ι : Map} {C : Cont} {w : World} {t : Array Value} {rec : Loop} {s s' : S} {ι1 : Map} {W : World} {assign body : Code} {params : Array Tmp}
    (h : Mid M ac n1 bs l d0 ι C w t rec s ι1 W) (hbw : ∀ r, r ∈ bs → r < w.heap.size) (hlw : w.heap.size ≤ l) (hdw : w.heap.size ≤ d0) (hne : l ≠ d0)
    (hst : rec.state = .ready) (hpd : rec.pending = none) (hfn : rec.fn = f) (htm : rec.tmps = t) (hps : rec.params = params) (has : rec.assign = assign) (hbd : rec.body = body)
    (hac : bnds n1 ac = true) (args : List Value) (args' : Array Value) (hargs : args.length = args'.size) (hsz : args'.size = params.size) (hrv : ∀ i : Nat, RV ι1 (args.getD i undef) (args'.getD i undef))
    {a2 : List Value} {m2 : List Blk} {c : Nat}
    (h1 : GoF P f (fun _ _ => True) [.code assign, .beginRound, .code body] (setP params.toList args ac) (M s) [.beginRound, .code body] a2 m2)
    (h2 : RunsN P (.rd f) n1 [.code body] a2 m2 (.int .i64 c) (M s')) :
    YieldAt Fence.wide 0 P l args' W fun e W' => ∃ ι2, e = .returned (.bool (codeOf c).isNone) ∧ W.heap.size ≤ W'.heap.size ∧ (∀ r, r ∈ bs → W'.heap[r]? = W.heap[r]?) ∧
      Mid M ac n1 bs l d0 ι C w t { rec with state := if (codeOf c).isNone then .ready else .done, pending := codeOf c } s' ι2 W' := by
  have hlt0 : l < W.heap.size := (Array.getElem?_eq_some_iff.1 h.hl).1
  have hdt0 : d0 < W.heap.size := (Array.getElem?_eq_some_iff.1 h.hd).1
  have hy := run_yield (P := P) (args := args') h.hl (by rw [hps]; exact hsz)
  refine ⟨_, _, _, _, hy, trivial, fun cfr cs _ => ?_⟩
  obtain ⟨hs1, hs2⟩ := setP_rv params.toList args args'.toList ac t (by simp [hargs]) h.rel.size (fun i => by
    have := hrv i
    simpa [List.getD_eq_getElem?_getD] using this) h.rel.slots
  generalize htm1 : (rec.params.zip args').foldl (fun tmps (x : Nat × Value) => tmps.setIfInBounds x.1 x.2) rec.tmps = tm
  have htm' : tm = (params.toList.zip args'.toList).foldl (fun t (p : Nat × Value) => t.setIfInBounds p.1 p.2) t := by
    rw [← htm1, hps, htm, ← Array.foldl_toList, Array.toList_zip]
  have hrel1 : Rel ι1 (setP params.toList args ac) (M s) tm W := ⟨by rw [htm']; exact hs1, fun x => by rw [htm']; exact hs2 x, h.rel.sim, h.rel.dom⟩
  let b : Frame := { (default : Frame) with fn := rec.fn, kind := .normal, roundOf := some l }
  have hb0 : Frame.round l rec.fn tm rec.assign rec.body .normal = b.atR ⟨tm, []⟩ [.code assign, .beginRound, .code body] := by
    simp [Frame.round, Frame.atR, b, has, hbd]
  have no : ∀ {ι : Map} {C : Cont} {w : World} {o : Loop}, Sim ι C w → w.heap[l]? = some (.loop o) → ¬ OwnR ι C l := fun hs hh => not_own_loop hs hh
  have nod : ∀ {ι : Map} {C : Cont} {w : World}, Sim ι C w → w.heap[d0]? = some (.deferred (some [])) → ¬ OwnR ι C d0 := fun hs hh => not_own_def hs hh
  -- the assignment
  obtain ⟨t1, w1, ι2, s1, r1, _, e1, n1', l1⟩ := h1 ι1 tm W hrel1 trivial b (cfr :: cs) [] hfn rfl
  have hh1 : w1.heap[l]? = some (.loop rec) := (e1.frame _ hlt0 (no h.rel.sim h.hl)).trans h.hl
  have hd1 : w1.heap[d0]? = some (.deferred (some [])) := (e1.frame _ hdt0 (nod h.rel.sim h.hd)).trans h.hd
  have hlt1 : l < w1.heap.size := (Array.getElem?_eq_some_iff.1 hh1).1
  have hdt1 : d0 < w1.heap.size := (Array.getElem?_eq_some_iff.1 hd1).1
  have sb := stepR_beginRound (b := b) (a := ⟨t1, []⟩) (k := [.code body]) (cs := cfr :: cs) (P := P) rfl (run_beginRound hh1 hst)
  let w1' : World := w1.putObj l (.loop { rec with state := .busy })
  have hh1' : w1'.heap[l]? = some (.loop { rec with state := .busy }) := World.putObj_heap_same hlt1
  have hd1' : w1'.heap[d0]? = some (.deferred (some [])) := (World.putObj_heap_other (Ne.symm hne)).trans hd1
  have hsz1' : w1'.heap.size = w1.heap.size := by simp [w1']
  have hrel2 : Rel ι2 a2 m2 t1 w1' := r1.putObj hh1 (fun _ _ _ e => by cases e) (fun _ _ e => by cases e)
  -- the body
  obtain ⟨w2, fr, ι3, s2, ⟨t2, todo, cd, rfl, ho, hcv⟩, sim3, dom3, d3⟩ := h2 [] [] ι2 t1 w1' hrel2 b (cfr :: cs) hfn rfl rfl List.nodup_nil (fun d hd => by cases hd)
  have hcd : cd = c := by
    injection hcv with _ h
    exact (Int.ofNat.inj h).symm
  subst hcd
  have hh2 : w2.heap[l]? = some (.loop { rec with state := .busy }) := (d3.frame _ (by rw [hsz1']; exact hlt1) (no hrel2.sim hh1') (fun hx => by cases hx)).trans hh1'
  have hd2 : w2.heap[d0]? = some (.deferred (some [])) := (d3.frame _ (by rw [hsz1']; exact hdt1) (nod hrel2.sim hd1') (fun hx => by cases hx)).trans hd1'
  have hlt2 : l < w2.heap.size := (Array.getElem?_eq_some_iff.1 hh2).1
  have se := round_end (P := P) (b := b) (c := cfr) (cs := cs) (a := ⟨t2, []⟩) (todo := todo) rfl rfl hh2 ho
  -- all together
  let rec3 : Loop := { rec with state := if (codeOf cd).isNone then .ready else .done, pending := codeOf cd }
  let w3 : World := w2.putObj l (.loop rec3)
  have off2 : ∀ r, r ∈ bs → ¬ LiveR ι2 (at_ m2) r ∧ ι2.fro r = none := fun r hr => by
    have hrl : r < W.heap.size := Nat.lt_of_lt_of_le (hbw r hr) h.done.size
    obtain ⟨g1, g2⟩ := h.off r hr
    refine ⟨fun hl => (e1.live r hl).elim g1 (fun hge => by omega), ?_⟩
    cases hx : ι2.fro r with
    | none => rfl
    | some cc =>
      rcases e1.fro r cc hx with h3 | h3 | h3
      · rw [g2] at h3; cases h3
      · exact absurd (own_live h3) g1
      · omega
  have off3 : ∀ r, r ∈ bs → ¬ LiveR ι3 (at_ (M s')) r ∧ ι3.fro r = none := fun r hr => by
    have hrl : r < w1'.heap.size := by
      have h1 := Nat.lt_of_lt_of_le (hbw r hr) h.done.size
      have := e1.size
      rw [hsz1']; omega
    obtain ⟨g1, g2⟩ := off2 r hr
    refine ⟨fun hl => (d3.live r hl).elim g1 (fun hge => by omega), ?_⟩
    cases hx : ι3.fro r with
    | none => rfl
    | some cc =>
      rcases d3.fro r cc hx with h3 | h3 | h3
      · rw [g2] at h3; cases h3
      · exact absurd (own_live h3) g1
      · omega
  have dd1 : DoneX (l :: bs) n1 ι C w ι2 (at_ m2) w1 := h.done.trans (e1.doneX []) (fun d _ hx => hx.elim id (fun hb => by cases hb))
  have dd2 : DoneX (l :: bs) n1 ι C w ι2 (at_ m2) w1' := dd1.trans (putObj_doneX ι2 (at_ m2) w1 l _) (fun d _ hx => hx.elim id (fun hb => by rw [List.mem_singleton] at hb; simp [hb]))
  have dd3 : DoneX (l :: bs) n1 ι C w ι3 (at_ (M s')) w2 := dd2.trans d3 (fun d _ hx => hx.elim id (fun hb => by cases hb))
  have dd4 : DoneX (l :: bs) n1 ι C w ι3 (at_ (M s')) w3 := dd3.trans (putObj_doneX ι3 (at_ (M s')) w2 l _) (fun d _ hx => hx.elim id (fun hb => by rw [List.mem_singleton] at hb; simp [hb]))
  have hsz3 : W.heap.size ≤ w3.heap.size := by
    have a1 := e1.size
    have a2 := d3.size
    rw [hsz1'] at a2
    have a3 : w3.heap.size = w2.heap.size := by simp [w3]
    rw [a3]
    omega
  have keep : ∀ r, r ∈ bs → w3.heap[r]? = W.heap[r]? := fun r hr => by
    have hrw := hbw r hr
    have hrl : r < W.heap.size := Nat.lt_of_lt_of_le hrw h.done.size
    have hrne : r ≠ l := by omega
    have k1 : w3.heap[r]? = w2.heap[r]? := World.putObj_heap_other hrne
    have k2 : w2.heap[r]? = w1'.heap[r]? := d3.frame r (by rw [hsz1']; have := e1.size; omega) (fun ho => (off2 r hr).1 (own_live ho)) (fun hx => by cases hx)
    have k3 : w1'.heap[r]? = w1.heap[r]? := World.putObj_heap_other hrne
    have k4 : w1.heap[r]? = W.heap[r]? := e1.frame r hrl (fun ho => (h.off r hr).1 (own_live ho))
    rw [k1, k2, k3, k4]
  refine ⟨.returned (.bool (codeOf cd).isNone), w3, ⟨ι3, rfl, hsz3, keep, ⟨⟨h.rel.size, fun x => ?_, sim3.putObj hh2 (fun _ _ _ e => by cases e) (fun _ _ e => by cases e), dom3⟩, dd4, World.putObj_heap_same hlt2, ?_, off3⟩⟩, ?_⟩
  · exact (h.rel.slots x).low (bnds_get hac x) (fun b' L hb' hL => d3.le b' L hb' (e1.le _ _ hL)) (fun r cc hr => d3.lef r cc (e1.le.fro r cc hr))
  · exact (World.putObj_heap_other (Ne.symm hne)).trans hd2
  · rw [hb0]
    exact comesIn_wide.2 (Steps.trans (Steps.trans s1 (.one sb)) (Steps.trans s2 (.one se)))
end

end

section
open Go.RowKit
set_option linter.unusedVariables false
set_option linter.unusedSimpArgs false

section
variable {P : Program} {f : FuncId} {n0 : Nat}

theorem DoneX.own_off {D : List Nat} {n : Nat} {ι ι' : Map} {C C' : Cont} {w w' : World} (h : DoneX D n ι C w ι' C' w') (hD : ∀ d, d ∈ D → d < w.heap.size → OwnR ι C d) : DoneX [] n ι C w ι' C' w' :=
  ⟨h.le, h.size, h.os, h.tape, h.output, fun k hk hn _ => h.frame k hk hn (fun hx => hn (hD k hx hk)), h.own, h.live, h.lef, h.fro⟩

theorem at_take (m mi : List Blk) (b : Nat) : at_ m b = if b < m.length then at_ (m ++ mi) b else .gone := by
  simp only [at_, List.getD_eq_getElem?_getD]
  split
  · rename_i h; rw [List.getElem?_append_left h]
  · rename_i h; rw [List.getElem?_eq_none (by omega)]; rfl
theorem sim_take {ι : Map} {m mi : List Blk} {w : World} (h : Sim ι (at_ (m ++ mi)) w) (hbm : ∀ b, b < m.length → BBnd m.length (m.getD b .gone)) : Sim (Dt.cut m.length ι) (at_ m) w := by
  have hsub : ∀ {b : Nat} {L : Loc}, Dt.cut m.length ι b = some L → ι b = some L ∧ b < m.length := fun h => by
    simp only [Dt.cut] at h
    split at h
    · exact ⟨h, by assumption⟩
    · cases h
  have hin : ∀ {b : Nat}, b < m.length → at_ m b = at_ (m ++ mi) b := fun hb => by rw [at_take m mi, if_pos hb]
  have hout : ∀ {b : Nat}, ¬ b < m.length → at_ m b = .gone := fun hb => by rw [at_take m mi, if_neg hb]
  refine ⟨fun b => ?_, fun b b2 L L2 hne ho hl hL hL2 => ?_, h.fro, fun b L r c ho hL hr => ?_, h.glo⟩
  · by_cases hb : b < m.length
    · have := hbm b hb
      rw [hin hb]
      refine (h.blk b).cut hb ?_
      rw [← hin hb]; exact this
    · rw [hout hb]; trivial
  · obtain ⟨k1, k2⟩ := hsub hL
    obtain ⟨k3, k4⟩ := hsub hL2
    rw [hin k2] at ho
    rw [hin k4] at hl
    exact h.sep b b2 L L2 hne ho hl k1 k3
  · obtain ⟨k1, k2⟩ := hsub hL
    rw [hin k2] at ho
    exact h.apart b L r c ho k1 hr

theorem RunsN.range {X S : Type} (enc : X → List Value) (M : S → List Blk) {k : List Item} {g : Operand} {params : Array Tmp} {assign body : Code} {a ac : List Value} {m mi m' : List Blk} {v : Value} {gi : FuncId} {gn : Func} {capc : Array Value} {s0 s1 : S} {c n1 : Nat}
    (hg : evalC a g = .func (.func gi) #[] capc) (hcg : okConst g = true) (hgi : P.funcs[gi]? = some gn) (hnum : (gn.name == "runtime.NumGoroutine") = false) (hbd : gn.body.isSome = true)
    (hm : m = M s0 ++ mi) (hn0 : n0 ≤ n1) (hn1 : n1 ≤ (M s0).length) (hl : ac.length ≤ a.length) (hsub : ∀ x : Nat, ac.getD x undef = a.getD x undef ∨ ac.getD x undef = undef) (hac : bnds n1 ac = true)
    (hbm : ∀ b, b < (M s0).length → BBnd (M s0).length ((M s0).getD b .gone)) (xc : List X)
    (hiter : ∀ (ι : Map) (w : World) (cap' : Array Value), capc.size = cap'.size → (∀ i : Nat, RV ι (capc.getD i undef) (cap'.getD i undef)) → Sim ι (at_ m) w → ∃ xs bs, IterW P gi cap' bs xs w ∧ xs.length = xc.length ∧
      (∀ (k : Nat) (x' : Array Value), xs[k]? = some x' → ∃ x, xc[k]? = some x ∧ (enc x).length = x'.size ∧ x'.size = params.size ∧ (∀ i : Nat, i < (enc x).length → pureV ((enc x).getD i undef) = true) ∧ ∀ i : Nat, RV ι ((enc x).getD i undef) (x'.getD i undef)) ∧
      ∀ r, r ∈ bs → ∃ b L, (M s0).length ≤ b ∧ (at_ m b).own = true ∧ ι b = some L ∧ L.blk = r)
    (bodyF : X → S → Option (Nat × S))
    (hbody : ∀ x s c s', x ∈ xc → bodyF x s = some (c, s') → ∃ a2 m2, GoF P f (fun _ _ => True) [.code assign, .beginRound, .code body] (setP params.toList (enc x) ac) (M s) [.beginRound, .code body] a2 m2 ∧
      RunsN P (.rd f) n1 [.code body] a2 m2 (.int .i64 c) (M s'))
    (hfold : foldB bodyF xc s0 = some (c, s1)) (hk : RunsN P (.fn f) n0 (contOf c k) ac (M s1) v m') : RunsN P (.fn f) n0 (.code (.rangeFunc g params assign body) :: k) a m v m' := by
  intro D ds ι t w hr b cs hb hkd hB hD hj
  obtain ⟨hro, rfl⟩ := hB
  have hgv := rv_opR hr hcg
  rw [hg] at hgv
  generalize hgr : (act t).eval g = gr at hgv
  cases hgv with
  | @func _ _ first' _ cap' h1 h2 h3 h4 =>
    have hf0 : first' = #[] := Array.eq_empty_of_size_eq_zero h1.symm
    subst hf0
    cases hgb : gn.body with
    | none => rw [hgb] at hbd; cases hbd
    | some cd =>
      obtain ⟨xs, bs, hI, hxl, hxs, hbs⟩ := hiter ι w cap' h2 h4 hr.sim
      let l := w.heap.size + 1
      let d0 := w.heap.size
      let rec0 : Loop := { state := .ready, pending := none, fn := b.fn, tmps := t, params, assign, body, defers := w.heap.size }
      let w2 : World := (w.alloc (.deferred (some []))).alloc (.loop rec0)
      have hw0 : ∀ k, k < w.heap.size → w2.heap[k]? = w.heap[k]? := fun k hk => by
        simp only [w2, World.alloc, Array.getElem?_push, Array.size_push]
        rw [if_neg (by omega), if_neg (by omega)]
      have hwD : w2.heap[d0]? = some (.deferred (some [])) := by
        simp only [w2, d0, World.alloc, Array.getElem?_push, Array.size_push]
        rw [if_neg (by omega)]; simp
      have hwL : w2.heap[l]? = some (.loop rec0) := by
        show ((w.heap.push _).push _)[w.heap.size + 1]? = _
        have := Array.getElem?_push_size (xs := w.heap.push (.deferred (some []))) (x := .loop rec0)
        rw [Array.size_push] at this
        exact this
      have hw2s : w2.heap.size = w.heap.size + 2 := by
        show ((w.heap.push _).push _).size = _
        simp
      have hbel : Below w.heap.size w w2 := ⟨rfl, rfl, rfl, by rw [hw2s]; omega, hw0⟩
      have henter := stepR_rangeFunc (P := P) (b := b) (a := ⟨t, D.map mark⟩) (k := k) (cs := cs) (w := w) (g := g) (ps := params) (assign := assign) (body := body) (w₁ := w2) (w₁' := w2) (w₂ := w2) (l := l) (mark := [mark w.heap.size])
        (d := { target := .fn (.func gi) cap', args := #[.func (.yield l) #[] #[]] }) (f := gi) (args := #[.func (.yield l) #[] #[]] ++ cap') (by rw [hro]; exact run_enterLoop_outer (P := P) (w := w) b.fn t params assign body)
        (by
          have hev : (⟨t, D.map mark⟩ : Act).eval g = .func (.func gi) #[] cap' := by rw [← hgr]; exact congrFun (eval_actD t (D.map mark)) g
          simp only [resolve, hev, Deferred.ofValue, rangeCall]
          simp [Act.eval])
        (by
          simp only [invoke]
          unfold callFunc
          simp only [program, Sem.run_bind]
          show Result.andThen (.ok P w2) _ = _
          simp only [Result.andThen_ok, hgi, hnum, hgb]
          rfl)
      subst hm
      have own_bs : ∀ r, r ∈ bs → OwnR ι (at_ (M s0 ++ mi)) r := fun r hr2 => by
        obtain ⟨b2, L, _, ho, hL, he⟩ := hbs r hr2
        exact ⟨b2, L, ho, hL, he⟩
      have lt_bs : ∀ r, r ∈ bs → r < w.heap.size := fun r hr2 => by
        obtain ⟨b2, L, _, ho, hL, he⟩ := hbs r hr2
        obtain ⟨L', hL', hlt⟩ := (hr.sim.blk b2).loc (Blk.live_of_own ho)
        rw [hL] at hL'; cases hL'; rw [← he]; exact hlt
      have hsubc : ∀ {b : Nat} {L : Loc}, Dt.cut (M s0).length ι b = some L → ι b = some L ∧ b < (M s0).length := fun h => by
        simp only [Dt.cut] at h
        split at h
        · exact ⟨h, by assumption⟩
        · cases h
      have hinc : ∀ {b : Nat}, b < (M s0).length → at_ (M s0) b = at_ (M s0 ++ mi) b := fun hb => by rw [at_take (M s0) mi, if_pos hb]
      have hlv : ∀ {b : Nat}, (at_ (M s0) b).live = true → b < (M s0).length := fun {b} h => by
        rcases Nat.lt_or_ge b (M s0).length with h' | h'
        · exact h'
        · rw [at_take (M s0) mi, if_neg (by omega)] at h; cases h
      have hsimc : Sim (Dt.cut (M s0).length ι) (at_ (M s0)) w := sim_take hr.sim hbm
      have hoff : ∀ r, r ∈ bs → ¬ LiveR (Dt.cut (M s0).length ι) (at_ (M s0)) r ∧ (Dt.cut (M s0).length ι).fro r = none := fun r hr2 => by
        obtain ⟨b2, L, hge, ho, hL, rfl⟩ := hbs r hr2
        refine ⟨fun ⟨b3, L3, hl3, hL3, he3⟩ => ?_, ?_⟩
        · have hb3 := hlv hl3
          rw [hinc hb3] at hl3
          exact hr.sim.sep b2 b3 L L3 (by omega) ho hl3 hL (hsubc hL3).1 he3.symm
        · show ι.fro L.blk = none
          cases hx : ι.fro L.blk with
          | none => rfl
          | some cc => exact absurd rfl (hr.sim.apart b2 L _ cc ho hL hx)
      have hturn : Turn bs w w2 := ⟨rfl, rfl, rfl, by rw [hw2s]; omega, fun k hk _ => hw0 k hk⟩
      have hmid0 : Mid M ac n1 bs l d0 ι (at_ (M s0 ++ mi)) w t rec0 s0 (Dt.cut (M s0).length ι) w2 := by
        refine ⟨⟨Nat.le_trans hl hr.size, fun x => ?_, hsimc.turn hturn hoff, fun x hx => ?_⟩, ?_, hwL, hwD, hoff⟩
        · rcases hsub x with e | e
          · have := (hr.slots x)
            rw [← e] at this
            exact this.low (bnds_get hac x) (fun b2 L hb2 hL => by simp [Dt.cut, show b2 < (M s0).length by omega, hL]) (fun _ _ h => h)
          · rw [e]; exact .any _
        · cases hx2 : Dt.cut (M s0).length ι x with
          | none => exact absurd hx2 hx
          | some L => exact (hsubc hx2).2
        · refine ⟨fun b2 L hb2 hL => by simp [Dt.cut, show b2 < (M s0).length by omega, hL], by rw [hw2s]; omega, rfl, rfl, rfl, fun k hk _ _ => hw0 k hk, fun k ⟨b2, L, g1, g2, g3⟩ => ?_, fun k ⟨b2, L, g1, g2, g3⟩ => ?_, fun _ _ h => h, fun _ _ h => .inl h⟩
          · have := hlv (Blk.live_of_own g1)
            rw [hinc this] at g1
            exact .inl ⟨b2, L, g1, (hsubc g2).1, g3⟩
          · have := hlv g1
            rw [hinc this] at g1
            exact .inl ⟨b2, L, g1, (hsubc g2).1, g3⟩
      let recc : Loop := { rec0 with state := if (codeOf c).isNone then .ready else .done, pending := codeOf c }
      have hcall := hI l (fun kk W => ∃ s ι1, foldB bodyF (xc.drop kk) s = some (c, s1) ∧ Mid M ac n1 bs l d0 ι (at_ (M s0 ++ mi)) w t rec0 s ι1 W)
        (fun W => ∃ ι1, Mid M ac n1 bs l d0 ι (at_ (M s0 ++ mi)) w t recc s1 ι1 W) w2 hbel (sim_gloH hmid0.rel.sim)
        (fun kk W W' ⟨s, ι1, g1, g2⟩ hT => ⟨s, ι1, g1, g2.turn lt_bs (by omega) (by omega) hT⟩)
        (fun W W' ⟨ι1, g2⟩ hT => ⟨ι1, g2.turn lt_bs (by omega) (by omega) hT⟩)
        (fun kk x' W1 hx' ⟨s, ι1, g1, g2⟩ => by
          obtain ⟨x, hxk, hlx, hsz, hpx, hrv⟩ := hxs kk x' hx'
          have hdrop : xc.drop kk = x :: xc.drop (kk + 1) := by
            obtain ⟨hlt, rfl⟩ := List.getElem?_eq_some_iff.1 hxk
            exact List.drop_eq_getElem_cons hlt
          rw [hdrop, foldB] at g1
          cases hbx : bodyF x s with
          | none => rw [hbx] at g1; cases g1
          | some r =>
            obtain ⟨c', s'⟩ := r
            rw [hbx] at g1
            obtain ⟨a2, m2, b1, b2⟩ := hbody x s c' s' (List.mem_of_getElem? hxk) hbx
            have := g2.round (f := f) (assign := assign) (body := body) (params := params) lt_bs (by omega) (by omega) (by omega) rfl rfl hb rfl rfl rfl rfl hac (enc x) x' hlx hsz
              (fun i => by
              by_cases hi : i < (enc x).length
              · exact (hrv i).pure_move (fun r cc hr2 => g2.done.lef r cc hr2) (hpx i hi)
              · rw [show (enc x).getD i undef = undef by simp [List.getD_eq_getElem?_getD, List.getElem?_eq_none (Nat.le_of_not_lt hi)]]
                exact .any _) b1 b2
            obtain ⟨fn', tm', as', bd', y1, y2, y3⟩ := this
            refine ⟨fn', tm', as', bd', y1, y2, fun cfr cs' hroom => ?_⟩
            obtain ⟨e, w', ⟨ι2, rfl, hsz', hkeep, hmid⟩, hcomes⟩ := y3 cfr cs' hroom
            refine ⟨.returned (.bool (codeOf c').isNone), w', ?_, hcomes⟩
            cases c' with
            | zero => exact .inl ⟨rfl, ⟨s', ι2, g1, hmid⟩, sim_gloH hmid.rel.sim, hsz', hkeep⟩
            | succ c' =>
              cases g1
              have hn : (codeOf (c' + 1)).isNone = false := by cases c' <;> rfl
              refine .inr ⟨by rw [hn], ι2, hmid⟩)
        ⟨s0, _, hfold, hmid0⟩
      obtain ⟨e, w3, fr, ⟨⟨u, rfl⟩, hJ⟩, s2, hfr, hleave⟩ := hcall (b.atR { (⟨t, D.map mark⟩ : Act) with defers := [mark w.heap.size] ++ D.map mark } (.inRangeFunc l :: k) :: cs)
      have hmid : ∃ ι1, Mid M ac n1 bs l d0 ι (at_ (M s0 ++ mi)) w t recc s1 ι1 w3 := by
        rcases hJ with ⟨s, ι1, g1, g2⟩ | h
        · rw [hxl, List.drop_length, foldB] at g1
          cases g1
          exact ⟨ι1, g2⟩
        · exact h
      obtain ⟨ι1, hmid⟩ := hmid
      have s5 := step_leave_returned (P := P) (c := b.atR { (⟨t, D.map mark⟩ : Act) with defers := [mark w.heap.size] ++ D.map mark } (.inRangeFunc l :: k)) (cs := cs) hleave
      rw [finish_atR_inRangeFunc] at s5
      have hbusy : recc.state ≠ .busy := by
        simp only [recc]
        cases (codeOf c).isNone <;> simp
      have s6 := stepR_endRangeFunc (P := P) (b := b) (a := { (⟨t, D.map mark⟩ : Act) with defers := [mark w.heap.size] ++ D.map mark }) (k := k) (cs := cs) (run_endLoop hmid.hl hbusy)
      let w4 : World := w3.putObj l (.loop { recc with state := .exhausted })
      have hDfree : w.heap.size ∉ D := fun h => by have := hj.lt h; omega
      have d3 := hmid.done.trans (putObj_doneX ι1 (at_ (M s1)) w3 l (.loop { recc with state := .exhausted })) (D := l :: bs) (fun d _ hx => hx.elim id (fun hb => by rw [List.mem_singleton] at hb; simp [hb]))
      have hk3 : JM (w.heap.size :: D) ι1 w4 := fun d hd => by
        rcases List.mem_cons.1 hd with rfl | hd
        · exact (World.putObj_heap_other (show w.heap.size ≠ l by simp only [l]; omega)).trans hmid.hd
        · have hdl := hj.lt hd
          have hno := not_own_def hr.sim (hj d hd)
          exact (d3.frame d hdl hno (fun hx => by
            rcases List.mem_cons.1 hx with e | hx
            · simp only [l] at e; omega
            · exact hno (own_bs d hx))).trans (hj d hd)
      have hrel4 : Rel ι1 ac (M s1) t w4 := hmid.rel.putObj hmid.hl (fun _ _ _ e => by cases e) (fun _ _ e => by cases e)
      obtain ⟨w', fr', ι', s7, q1, q2, q3, q4⟩ := hk (w.heap.size :: D) ((w.heap.size :: D).map mark) ι1 t w4 hrel4 b cs hb hkd ⟨hro, rfl⟩ (List.nodup_cons.2 ⟨hDfree, hD⟩) hk3
      refine ⟨w', fr', ι', ?_, q1, q2, q3, ?_⟩
      · exact .head henter (Steps.trans s2 (.head s5 (.head s6 s7)))
      · have d4 : DoneX [] n0 ι (at_ (M s0 ++ mi)) w ι1 (at_ (M s1)) w4 := (d3.own_off (fun d hx hlt => by
          rcases List.mem_cons.1 hx with e | hx
          · simp only [l] at e; omega
          · exact own_bs d hx)).weak hn0 (fun _ _ h => h)
        exact d4.trans q4 (fun d hlt hx => hx.elim (fun h => by cases h) (fun h => by
          rcases List.mem_cons.1 h with e | h
          · omega
          · exact h))
end

end

end Go.Dt
