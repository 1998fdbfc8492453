/- Several texts in one: Dt45, Dt46, Dt60. -/
import Derived.Test.YtdmcdijlpnbghaaGreatDoorQI17
import Derived.Lib.ConvBytes
namespace Go.Dt

section
open Go.RowKit
set_option linter.unusedVariables false

section
variable {P : Program} {f : Fr} {n0 : Nat} {ρ : Type} {E : ρ → VQ} {s : VS}
theorem L.callPO (hm : P.follows .mixedOrders = true) {U : Type} {G : Option U} {k : U → Option ρ} {g : FuncId} {vs : List Value} {mf : List Blk} (Es : List Ent) (pl : List Nat) (cs : List (List Value)) (eu : U → Value) (mu : U → List Blk) (c : ∀ u, G = some u → ConM P g vs mf (eu u) (mu u)) (hs : downAt Es (go P s) = some (g, vs, mf))
    (hE : ∀ u, okE Es (go P s).mem (mu u) = true) (hv : viewsB Es (go P s).mem = cs) (hcs : puresAll cs) (hpl : ∀ u, puresAll (plB pl (mu u)))
    (h : ∀ u, G = some u → LiftsF P f n0 E (afterM Es pl (go P s) (upV (back (kap Es) Es.length (mu u).length (go P s).mem.length) (eu u)) (mu u)) (k u)) : LiftsF P f n0 E s (G.bind k) := fun r hr => by
  cases hG : G with
  | none => rw [hG] at hr; cases hr
  | some u =>
    rw [hG] at hr
    obtain ⟨_, hf, hn⟩ := (c u hG).fn
    exact RunsE.adv hm _ (RunsE.callM Es pl vs mf hf hs hn (hE u) (views_okP hv hcs) (pl_okP (hpl u)) (lift_up _ _) (c u hG).eq (h u hG r hr))
end

end

section
open Go.RowKit Go.Instr
set_option linter.unusedVariables false
set_option linter.unusedSimpArgs false

section
variable {P : Program} {o : Oper} {a : List Value} {m : List Blk}
end
section
variable {P : Program} {f : Fr} {n0 : Nat} {ρ : Type} {E : ρ → VQ} {s : VS} {T : Option ρ}
end

end

section
set_option linter.unusedVariables false
set_option linter.unusedSimpArgs false

section
variable {P : Program} {f : Fr} {n0 : Nat}

/-- A slice of one's own within a struct in a box, given up. -/
theorem Runs.frzM {todo : List Item} {a : List Value} {m : List Blk} {v : Value} {m' : List Blk} (bx b off n cap sz szx : Nat) (c pre post : List Value) (hne : bx ≠ b) (hs : m[bx]? = some (.cells (pre ++ .slice (some ⟨b, off, none⟩) n cap :: post) szx true)) (hb : m[b]? = some (.cells c sz true))
    (hn : n ≤ cap) (l : List Value) (hp : pures l = true) (hfl : off + l.length ≤ c.length) (hl : (c.drop off).take l.length = l) (h0 : n = 0 → l = []) (h : Runs P f n0 (.norm todo a ((m.set bx (.cells (pre ++ Dt.frz n l :: post) szx true)).set b .gone)) v m') : Runs P f n0 (.norm todo a m) v m' := by
  have hblt : b < m.length := (List.getElem?_eq_some_iff.1 hb).1
  have hbg : at_ m b = .cells c sz true := by simp [at_, List.getD_eq_getElem?_getD, hb]
  intro D ds ι t w hr fr0 cs hb0 hk0 hB0 hD0 hj0
  have hB := hr.sim.blk b
  rw [hbg] at hB
  obtain ⟨L, c', te, fz, hL, hh, hfit, hrw, _, hcells⟩ := hB
  obtain ⟨rfl, hroom, hsz, hro⟩ := hrw rfl
  have hlb : ∀ r cc, ι.fro r = some cc → L.blk ≠ r := fun r cc h => hr.sim.apart b L r cc (by rw [hbg]; rfl) hL h
  let ι' : Map := ⟨ι.loc, fun r => if r = L.blk then some c' else ι.fro r⟩
  have hself : ι'.fro L.blk = some c' := by show (if L.blk = L.blk then some c' else _) = _; rw [if_pos rfl]
  have hle : Le ι ι' := ⟨fun _ _ h => h, fun r cc h => by
    show (if r = L.blk then some c' else ι.fro r) = some cc
    rw [if_neg (Ne.symm (hlb r cc h))]; exact h⟩
  have hcase : ∀ r cc, ι'.fro r = some cc → (r = L.blk ∧ cc = c') ∨ ι.fro r = some cc := fun r cc h => by
    have h : (if r = L.blk then some c' else ι.fro r) = some cc := h
    split at h
    · rename_i e; cases h; exact .inl ⟨e, rfl⟩
    · exact .inr h
  have hbxlt : bx < m.length := (List.getElem?_eq_some_iff.1 hs).1
  have hbx : at_ m bx = .cells (pre ++ .slice (some ⟨b, off, none⟩) n cap :: post) szx true := by simp [at_, List.getD_eq_getElem?_getD, hs]
  have hat : ∀ x, at_ ((m.set bx (.cells (pre ++ Dt.frz n l :: post) szx true)).set b .gone) x = if x = b then .gone else if x = bx then .cells (pre ++ Dt.frz n l :: post) szx true else at_ m x := fun x => by
    simp only [at_, List.getD_eq_getElem?_getD]
    by_cases hx : x = b
    · subst hx; simp [hblt]
    · rw [if_neg hx, List.getElem?_set_ne (Ne.symm hx)]
      by_cases hx2 : x = bx
      · subst hx2; simp [hbxlt]
      · rw [if_neg hx2, List.getElem?_set_ne (Ne.symm hx2)]
  have hown : ∀ x, (at_ ((m.set bx (.cells (pre ++ Dt.frz n l :: post) szx true)).set b .gone) x).own = true → (at_ m x).own = true ∧ x ≠ b := fun x ho => by
    rw [hat] at ho
    split at ho
    · cases ho
    · rename_i h1
      split at ho
      · rename_i h2; subst h2; rw [hbx]; exact ⟨rfl, h1⟩
      · exact ⟨ho, h1⟩
  have hlive : ∀ x, (at_ ((m.set bx (.cells (pre ++ Dt.frz n l :: post) szx true)).set b .gone) x).live = true → (at_ m x).live = true ∧ x ≠ b := fun x ho => by
    rw [hat] at ho
    split at ho
    · cases ho
    · rename_i h1
      split at ho
      · rename_i h2; subst h2; rw [hbx]; exact ⟨rfl, h1⟩
      · exact ⟨ho, h1⟩
  have ownSub : ∀ k, OwnR ι' (at_ ((m.set bx (.cells (pre ++ Dt.frz n l :: post) szx true)).set b .gone)) k → OwnR ι (at_ m) k := fun k ⟨x, K, ho, hK, hk⟩ => ⟨x, K, (hown x ho).1, hK, hk⟩
  have liveSub : ∀ k, LiveR ι' (at_ ((m.set bx (.cells (pre ++ Dt.frz n l :: post) szx true)).set b .gone)) k → LiveR ι (at_ m) k := fun k ⟨x, K, ho, hK, hk⟩ => ⟨x, K, (hlive x ho).1, hK, hk⟩
  have key : ∀ y, RV ι (.slice (some ⟨b, off, none⟩) n cap) y → RV ι' (Dt.frz n l) y := fun y hi => by
    cases hi with
    | slice0 p q =>
      have e := h0 rfl
      subst e
      exact .frzE q 0
    | @slice _ _ _ _ cap' L2 hL2 hcc hr2 =>
      rw [hL] at hL2; cases hL2
      refine .frz hself (by omega) hp (by omega) fun i hi => ?_
      have := (hcells (off + i) (by omega)).mono hle
      have e : l.getD i undef = c.getD (off + i) undef := by
        have e2 : l.getD i undef = ((c.drop off).take l.length).getD i undef := by rw [hl]
        rw [e2]
        simp [List.getD_eq_getElem?_getD, List.getElem?_take, hi, List.getElem?_drop]
      rw [e, Nat.add_assoc]; exact this
  have hrel : Rel ι' a ((m.set bx (.cells (pre ++ Dt.frz n l :: post) szx true)).set b .gone) t w := by
    refine ⟨hr.size, fun x => (hr.slots x).mono hle, ⟨fun x => ?_, fun x x2 K K2 hne ho hl hK hK2 => hr.sim.sep x x2 K K2 hne (hown x ho).1 (hlive x2 hl).1 hK hK2, fun r cc hcc => ?_, fun x K r cc ho hK hcc => ?_, GloOk.mono hle.fro hr.sim.glo⟩, fun x hx => by simpa using hr.dom x hx⟩
    · rw [hat]
      split
      · trivial
      · split
        · rename_i h1 h2
          subst h2
          have hX := hr.sim.blk x
          rw [hbx] at hX
          obtain ⟨L0, c0, t0, fz0, hL0, hh0, hfit0, hrw0, hro0, hcells0⟩ := hX
          refine ⟨L0, c0, t0, fz0, hL0, hh0, by simpa using hfit0, hrw0, hro0, fun i hi => ?_⟩
          have hi0 := hcells0 i (by simpa using hi)
          rcases Nat.lt_trichotomy i pre.length with g | g | g
          · have e1 : (pre ++ Dt.frz n l :: post).getD i undef = (pre ++ Value.slice (some ⟨b, off, none⟩) n cap :: post).getD i undef := by
              simp [List.getD_eq_getElem?_getD, List.getElem?_append_left g]
            rw [e1]; exact hi0.mono hle
          · subst g
            have e1 : (pre ++ Dt.frz n l :: post).getD pre.length undef = Dt.frz n l := by simp [List.getD_eq_getElem?_getD]
            have e2 : (pre ++ Value.slice (some ⟨b, off, none⟩) n cap :: post).getD pre.length undef = .slice (some ⟨b, off, none⟩) n cap := by simp [List.getD_eq_getElem?_getD]
            rw [e1]
            rw [e2] at hi0
            exact key _ hi0
          · have e1 : (pre ++ Dt.frz n l :: post).getD i undef = (pre ++ Value.slice (some ⟨b, off, none⟩) n cap :: post).getD i undef := by
              have : ∀ x : Value, (pre ++ x :: post)[i]? = post[i - pre.length - 1]? := fun x => by
                rw [List.getElem?_append_right (by omega)]
                obtain ⟨k, hk⟩ : ∃ k, i - pre.length = k + 1 := ⟨i - pre.length - 1, by omega⟩
                rw [hk]; simp
              simp [List.getD_eq_getElem?_getD, this]
            rw [e1]; exact hi0.mono hle
        · exact (hr.sim.blk x).keep hle fun _ _ _ => rfl
    · rcases hcase r cc hcc with ⟨rfl, rfl⟩ | h
      · exact ⟨te, (0, 0), hh⟩
      · exact hr.sim.fro r cc h
    · obtain ⟨ho1, hxb⟩ := hown x ho
      rcases hcase r cc hcc with ⟨rfl, rfl⟩ | h
      · exact hr.sim.sep x b K L hxb ho1 (by rw [hbg]; rfl) hK hL
      · exact hr.sim.apart x K r cc ho1 hK h
  obtain ⟨w', fr, ι'', h1, h2, h5, h6, h7⟩ := h D ds ι' t w hrel fr0 cs hb0 hk0 hB0 hD0 hj0
  refine ⟨w', fr, ι'', h1, h2, h5, h6, ⟨h7.le, h7.size, h7.os, h7.tape, h7.output, fun k hk hn => h7.frame k hk (fun ho => hn (ownSub k ho)), fun k ho => (h7.own k ho).imp (ownSub k) id, fun k ho => (h7.live k ho).imp (liveSub k) id,
    fun r cc hcc => h7.lef r cc (hle.fro r cc hcc), fun r cc hcc => ?_⟩⟩
  rcases h7.fro r cc hcc with h | h | h
  · rcases hcase r cc h with ⟨rfl, rfl⟩ | h
    · exact .inr (.inl ⟨b, L, by rw [hbg]; rfl, hL, rfl⟩)
    · exact .inl h
  · exact .inr (.inl (ownSub r h))
  · exact .inr (.inr h)

def frzB (bx b : Nat) (cs : List Value) (szx : Nat) : VS → VS
  | .norm todo a m => fl cs fun cs' => fl ((m.set bx (.cells cs' szx true)).set b .gone) fun m' => .norm todo a m'
  | s => s

section
variable {ρ : Type} {E : ρ → VQ} {s : VS} {T : Option ρ} {α : Type} [F : Flat α]
theorem L.frzM (hm : P.follows .mixedOrders = true) (n' bx b nn szx : Nat) (pre post : List Value) (xs : List α) (hnn : nn = xs.length) (hne : Nat.beq bx b = false) (hs : (vadv P n' s).mem[bx]? = some (.cells (pre ++ .slice (some ⟨b, 0, Option.none⟩) nn nn :: post) szx true)) (hb : (vadv P n' s).mem[b]? = some (ownB xs)) (hns : isNormS (vadv P n' s) = true)
    (h : LiftsF P f n0 E (frzB bx b (pre ++ lst xs :: post) szx (vadv P n' s)) T) : LiftsF P f n0 E s T := fun r hr => by
  subst hnn
  refine RunsE.adv hm n' ?_
  have h2 := h r hr
  generalize vadv P n' s = s' at *
  cases s' with
  | reg => cases hns
  | norm todo a m =>
    simp only [frzB, fl_eq] at h2
    obtain ⟨m', h2, q⟩ := h2
    exact ⟨m', Runs.frzM bx b 0 xs.length xs.length F.sz szx (rows xs) pre post (Nat.ne_of_beq_eq_false hne) hs hb (Nat.le_refl _) (rows xs) (rows_pure xs) (by omega) (by rw [List.drop_zero, List.take_length]) (fun h => by
      have : xs = [] := List.eq_nil_of_length_eq_zero h
      subst this; rfl) h2, q⟩
end
end

end

end Go.Dt
