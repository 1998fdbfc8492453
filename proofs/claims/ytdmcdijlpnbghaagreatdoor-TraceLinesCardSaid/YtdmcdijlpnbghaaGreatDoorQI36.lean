/- Lifting: the ends of rounds; ranges over functions. -/
import Derived.Test.YtdmcdijlpnbghaaGreatDoorQI35
namespace Go.Dt
open Go.RowKit
set_option linter.unusedVariables false
set_option linter.unusedSimpArgs false

/-- How a round ends here. -/
def rndOf : VS → Option Nat
  | .norm todo _ _ => outc todo
  | _ => none
section
variable {P : Program} {f : FuncId} {n0 : Nat} {ρ : Type} {E : ρ → VQ} {s : VS} {T : Option ρ}
theorem Runs.rend {c : Nat} (h : rndOf s = some c) : Runs P (.rd f) n0 s (.int .i64 c) s.mem := by
  cases s with
  | reg => cases h
  | norm todo a m =>
    intro D ds ι t w hr b cs hb hk hB hD hj
    exact ⟨w, _, ι, Steps.refl _ _, ⟨t, todo, c, rfl, h, rfl⟩, hr.sim, hr.dom, DoneX.refl _ _ _ _ _⟩
/-- The end of a round. -/
theorem L.rend (hm : P.follows .mixedOrders = true) (c : Nat) {r0 : ρ} (h : rndOf (go P s) = some c) (e : (E r0).1 = .int .i64 c) (hq : (E r0).2 (go P s).mem) : LiftsF P (.rd f) n0 E s (some r0) := fun r hr => by
  cases hr
  refine ⟨(go P s).mem, ?_, hq⟩
  rw [e]
  exact Runs.adv hm _ (Runs.rend h)

/-- The same, its blocks numbered anew. -/
theorem L.rendG (hm : P.follows .mixedOrders = true) (n : Nat) (Es : List Ent) (cs : List (List Value)) (c : Nat) {r0 : ρ}
    (hE : okE Es (keepS [] (vadv P n s)).mem (Es.map (downB Es (keepS [] (vadv P n s)).mem)) = true) (hv : viewsB Es (keepS [] (vadv P n s)).mem = cs) (hcs : puresAll cs) (hfirst : firstE Es (keepS [] (vadv P n s)).mem n0 = true)
    (h : rndOf (gcS Es (keepS [] (vadv P n s))) = some c) (hs : isNormS (keepS [] (vadv P n s)) = true) (e : (E r0).1 = .int .i64 c) (hq : (E r0).2 (gcS Es (keepS [] (vadv P n s))).mem) : LiftsF P (.rd f) n0 E s (some r0) := fun r hr => by
  cases hr
  refine RunsE.adv hm n (RunsE.forget [] (RunsE.gc Es hE (views_okP hv hcs) hfirst hs ⟨_, ?_, hq⟩))
  rw [e]
  exact Runs.rend h
/-- What is asked of the arguments. -/
theorem L.dec {f : Fr} (c : Bool) (h : c = true → LiftsF P f n0 E s T) : LiftsF P f n0 E s (bif c then T else Option.none) := fun r hr => by
  cases c with
  | false => cases hr
  | true => exact h rfl r hr
theorem Con.liftR {E : ρ → Value} {f : FuncId} {fn : Func} {args : List Value} {o : Option ρ} (hf : P.funcs[f]? = some fn) (hn : ((fn.name == "runtime.NumGoroutine") || fn.body.isNone) = false) (hp : pures args = true) (hE : ∀ r, pureV (E r) = true)
    (h : Lifts P (.fn f) 0 E (entry fn args []) o) : ∀ r, o = some r → Con P f args (E r) := fun r hr => by
  have hb : fn.body.isSome = true := by
    rw [Bool.or_eq_false_iff] at hn
    cases hx : fn.body with
    | none => rw [hx] at hn; cases hn.2
    | some c => rfl
  obtain ⟨m', h, _⟩ := h r hr
  exact ⟨FnEq.pureR (FnEq.of_runsM hf hb h) (hE r), ⟨fn, hf, hn⟩, by rw [hp, hE r]; rfl⟩

/-- An iterator in the canonical machine's terms: its function, what it holds (from place q on), what it hands over. -/
structure IterC (P : Program) (gi : FuncId) (q : Nat) (capc : Array Value) (mi : List Blk) (np : Nat) {X : Type} (enc : X → List Value) (xc : List X) : Prop where
  fn : ∃ gn, P.funcs[gi]? = some gn ∧ ((gn.name == "runtime.NumGoroutine") || gn.body.isNone) = false
  len : ∀ x, (enc x).length = np
  pure : ∀ x, pures (enc x) = true
  it : ∀ (m0 : List Blk) (ι : Map) (w : World) (cap' : Array Value), m0.length = q → capc.size = cap'.size → (∀ i : Nat, RV ι (capc.getD i undef) (cap'.getD i undef)) → Sim ι (at_ (m0 ++ mi)) w → ∃ xs bs, IterW P gi cap' bs xs w ∧ xs.length = xc.length ∧
      (∀ (k : Nat) (x' : Array Value), xs[k]? = some x' → ∃ x, xc[k]? = some x ∧ (enc x).length = x'.size ∧ ∀ i : Nat, RV ι ((enc x).getD i undef) (x'.getD i undef)) ∧
      ∀ r, r ∈ bs → ∃ b L, q ≤ b ∧ (at_ (m0 ++ mi) b).own = true ∧ ι b = some L ∧ L.blk = r

structure Rng where
  g : Operand
  params : Array Tmp
  assign : Code
  body : Code
  k : List Item
  a : List Value
  m : List Blk
def rngOf : VS → Rng
  | .norm (.code (.rangeFunc g params assign body) :: k) a m => ⟨g, params, assign, body, k, a, m⟩
  | _ => ⟨.tmp 0, #[], .skip, .skip, [], [], []⟩
def isRng : VS → Bool
  | .norm (.code (.rangeFunc _ _ _ _) :: _) _ _ => true
  | _ => false
/-- A round's beginning: the loop's variables, the slots that are kept. -/
def rndS (ks : List Nat) (r : Rng) (x : List Value) (m : List Blk) : VS := fl (setP r.params.toList x (keepL ks 0 r.a)) fun a => .norm [.code r.assign, .beginRound, .code r.body] a m
def todoOf : VS → List Item
  | .norm todo _ _ => todo
  | _ => []
def bodyS (c : Code) : VS → VS
  | .norm _ a m => .norm [.code c] a m
  | s => s
def bndAll (q : Nat) : List Blk → Prop
  | [] => True
  | x :: l => BBnd q x ∧ bndAll q l
theorem bndAll_get {q : Nat} : ∀ {m : List Blk}, bndAll q m → ∀ b : Nat, BBnd q (m.getD b .gone)
  | [], _, b => by simp; exact .gone
  | x :: l, h, 0 => by simpa using h.1
  | x :: l, h, b + 1 => by simpa using bndAll_get h.2 b
mutual
theorem pureV_bnd (n : Nat) : ∀ v : Value, pureV v = true → bnd n v = true
  | .pointer none, _ => rfl
  | .pointer (some ⟨b, o, none⟩), h => by simp [pureV] at h
  | .pointer (some ⟨b, o, some p⟩), h => by simp [pureV] at h
  | .slice none _ _, _ => rfl
  | .slice (some ⟨b, o, none⟩) _ _, h => by simp [pureV] at h
  | .slice (some ⟨b, o, some p⟩) _ _, h => by simp [pureV] at h
  | .map none, _ => rfl
  | .map (some b), h => by simp [pureV] at h
  | .chan _, h => by simp [pureV] at h
  | .func _ ⟨xs⟩ ⟨ys⟩, h => by
    simp only [pureV, Bool.and_eq_true] at h
    simp only [bnd, Bool.and_eq_true]
    exact ⟨pures_bnds n xs h.1, pures_bnds n ys h.2⟩
  | .agg ⟨l⟩, h => by
    simp only [pureV] at h
    simp only [bnd]
    exact pures_bnds n l h
  | .tuple ⟨l⟩, h => by
    simp only [pureV, Bool.and_eq_true] at h
    simp only [bnd]
    exact pures_bnds n l h.2
  | .iface t v, h => by
    simp only [pureV] at h
    simp only [bnd]
    cases ht : Nat.blt t frzT with
    | true => rw [ht, cond_true] at h; exact pureV_bnd n v h
    | false => rfl
  | .bool _, _ => rfl
  | .int _ _, _ => rfl
  | .float _ _, _ => rfl
  | .complex _ _ _, _ => rfl
  | .string _, _ => rfl
  | .nilFunc, _ => rfl
  | .nilIface, _ => rfl
theorem pures_bnds (n : Nat) : ∀ l : List Value, pures l = true → bnds n l = true
  | [], _ => rfl
  | v :: l, h => by
    simp only [pures, Bool.and_eq_true] at h
    simp only [bnds, Bool.and_eq_true]
    exact ⟨pureV_bnd n v h.1, pures_bnds n l h.2⟩
end
theorem GoV.adv {J : Map → World → Prop} (hm : P.follows .mixedOrders = true) (hK : Keeps J) (hD : Drawn J) : ∀ (n : Nat) {s : VS} {todo' : List Item} {a' : List Value} {m' : List Blk}, GoV P f J (vadv P n s) todo' a' m' → GoV P f J s todo' a' m'
  | 0, _, _, _, _, h => h
  | n + 1, s, _, _, _, h => by
    unfold vadv at h
    split at h
    · rename_i s' hs
      exact GoV.step hm hK hD hs (GoV.adv hm hK hD n h)
    · exact h
theorem keepL_sub (ks : List Nat) (a : List Value) (x : Nat) : (keepL ks 0 a).getD x undef = a.getD x undef ∨ (keepL ks 0 a).getD x undef = undef := keepL_get ks 0 a x
theorem L.range {X S : Type} (enc : X → List Value) (M : S → List Blk) (hm : P.follows .mixedOrders = true) (n' : Nat) (ks : List Nat) (na n1 : Nat) {gi : FuncId} {capc : Array Value} {mi : List Blk} {xs : List X} (s0 : S) {bodyF : X → S → Option (Nat × S)} {T' : Nat → S → Option ρ}
    {q np : Nat} (hI0 : IterC P gi q capc mi np enc xs) (hq0 : (M s0).length = q) (hnp : (rngOf (vadv P n' s)).params.size = np) (hr : isRng (vadv P n' s) = true) (hg : evalC (rngOf (vadv P n' s)).a (rngOf (vadv P n' s)).g = .func (.func gi) #[] capc) (hcg : okConst (rngOf (vadv P n' s)).g = true)
    (hM : (rngOf (vadv P n' s)).m = M s0 ++ mi) (hn0 : Nat.ble n0 n1 = true) (hn1 : Nat.ble n1 (M s0).length = true) (hac : bnds n1 (keepL ks 0 (rngOf (vadv P n' s)).a) = true) (hbm : bndAll (M s0).length (M s0))
    (hA : ∀ x st, todoOf (vadv P na (rndS ks (rngOf (vadv P n' s)) (enc x) (M st))) = [.beginRound, .code (rngOf (vadv P n' s)).body])
    (hb : ∀ x st, LiftsF P (.rd f) n1 (fun r : Nat × S => (.int .i64 r.1, fun m => m = M r.2)) (bodyS (rngOf (vadv P n' s)).body (vadv P na (rndS ks (rngOf (vadv P n' s)) (enc x) (M st)))) (bodyF x st))
    (hk : ∀ c st, LiftsF P (.fn f) n0 E (.norm (contOf c (rngOf (vadv P n' s)).k) (keepL ks 0 (rngOf (vadv P n' s)).a) (M st)) (T' c st)) :
    LiftsF P (.fn f) n0 E s ((foldB bodyF xs s0).bind fun r => T' r.1 r.2) := fun r hr0 => by
  have hI : IterC P gi (M s0).length capc mi (rngOf (vadv P n' s)).params.size enc xs := by rw [hq0, hnp]; exact hI0
  clear hI0 hq0 hnp
  refine RunsE.adv hm n' ?_
  generalize vadv P n' s = s' at *
  cases s' with
  | reg => cases hr
  | norm todo a m =>
    match todo, hr with
    | .code (.rangeFunc g params assign body) :: k, _ =>
      simp only [rngOf] at *
      cases hf : foldB bodyF xs s0 with
      | none => rw [hf] at hr0; cases hr0
      | some q =>
        obtain ⟨c, s1⟩ := q
        rw [hf] at hr0
        obtain ⟨m', h, hq⟩ := hk c s1 r hr0
        obtain ⟨gn, hgi, hgn⟩ := hI.fn
        rw [Bool.or_eq_false_iff] at hgn
        have hbd : gn.body.isSome = true := by
          cases hx : gn.body with
          | none => rw [hx] at hgn; cases hgn.2
          | some c => rfl
        refine ⟨m', RunsN.range (f := f) enc M hg hcg hgi hgn.1 hbd hM (Nat.le_of_ble_eq_true hn0) (Nat.le_of_ble_eq_true hn1) (by rw [keepL_length]; exact Nat.le_refl _) (keepL_sub ks a) hac (fun b _ => bndAll_get hbm b) xs ?_ bodyF ?_ hf h, hq⟩
        · intro ι w cap' h1 h2 h3
          subst hM
          obtain ⟨xs', bs, i1, i2, i3, i4⟩ := hI.it (M s0) ι w cap' rfl h1 h2 h3
          refine ⟨xs', bs, i1, i2, fun k x' hx => ?_, i4⟩
          obtain ⟨x, j1, j2, j3⟩ := i3 k x' hx
          exact ⟨x, j1, j2, by rw [← j2]; exact hI.len x, fun i hi => pures_get (hI.pure x) hi, j3⟩
        · intro x st c' st' _ hbx
          have hA' := hA x st
          have hb' := hb x st _ hbx
          obtain ⟨m2, hr2, rfl⟩ := hb'
          cases hv : vadv P na (rndS ks ⟨g, params, assign, body, k, a, m⟩ (enc x) (M st)) with
          | reg => rw [hv] at hA'; cases hA'
          | norm todo2 a2 m3 =>
            rw [hv] at hA' hr2
            simp only [todoOf] at hA'
            subst hA'
            refine ⟨a2, m3, ?_, hr2⟩
            have hg0 : GoV P f (fun _ _ => True) (vadv P na (rndS ks ⟨g, params, assign, body, k, a, m⟩ (enc x) (M st))) [.beginRound, .code body] a2 m3 := by
              rw [hv]; exact GoF.refl _ _ _
            have := GoV.adv hm (fun _ _ _ _ _ _ _ _ h => h) (fun _ _ _ h => h) na hg0
            simp only [rndS, fl_eq] at this
            exact this
theorem BBnd.row (q sz : Nat) (b : Bool) {l : List Value} (h : pures l = true) : BBnd q (.cells l sz b) := .cells (pures_bnds q l h)
end
end Go.Dt
