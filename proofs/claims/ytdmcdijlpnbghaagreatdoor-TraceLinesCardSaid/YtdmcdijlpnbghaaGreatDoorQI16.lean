/- Several texts in one: Dt39, Dt40, Dt41. -/
import Derived.Test.YtdmcdijlpnbghaaGreatDoorQI15
namespace Go.Dt

section
open Go.RowKit
set_option linter.unusedVariables false
set_option linter.unusedSimpArgs false

section
variable {P : Program}
variable {α : Type} [F : Flat α]
variable {f : Fr} {n0 : Nat} {ρ : Type} {E : ρ → VQ} {s : VS} {T : Option ρ}
end

end

section
open Go.RowKit Go.Instr
set_option linter.unusedVariables false
set_option linter.unusedSimpArgs false

section
variable {P : Program} {f : Fr} {n0 : Nat}
theorem Runs.frpN {todo : List Item} {a : List Value} {m : List Blk} {v : Value} {m' : List Blk} (d b off sz : Nat) (c : List Value) (hs : a.getD d undef = .pointer (some ⟨b, off, none⟩)) (hb : m[b]? = some (.cells c sz true))
    (hp : pures c = true) (h : Runs P f n0 (.norm todo (a.set d (Dt.frp c off)) (m.set b .gone)) v m') : Runs P f n0 (.norm todo a m) v m' := by
  have hblt : b < m.length := (List.getElem?_eq_some_iff.1 hb).1
  have hbg : at_ m b = .cells c sz true := by simp [at_, List.getD_eq_getElem?_getD, hb]
  intro D ds ι t w hr fr0 cs hb0 hk0 hB0 hD0 hj0
  have hB := hr.sim.blk b
  rw [hbg] at hB
  obtain ⟨L, c', te, fz, hL, hh, hfit, hrw, _, hcells⟩ := hB
  obtain ⟨rfl, hroom, hsz, hro⟩ := hrw rfl
  have hlb : ∀ r cc, ι.fro r = some cc → L.blk ≠ r := fun r cc h => hr.sim.apart b L r cc (by rw [hbg]; rfl) hL h
  let ι' : Map := ⟨ι.loc, fun r => if r = L.blk then some c' else ι.fro r⟩
  have hself : ι'.fro L.blk = some c' := by show (if L.blk = L.blk then some c' else _) = _; rw [if_pos rfl]
  have hle : Le ι ι' := ⟨fun _ _ h => h, fun r cc h => by
    show (if r = L.blk then some c' else ι.fro r) = some cc
    rw [if_neg (Ne.symm (hlb r cc h))]; exact h⟩
  have hcase : ∀ r cc, ι'.fro r = some cc → (r = L.blk ∧ cc = c') ∨ ι.fro r = some cc := fun r cc h => by
    have h : (if r = L.blk then some c' else ι.fro r) = some cc := h
    split at h
    · rename_i e; cases h; exact .inl ⟨e, rfl⟩
    · exact .inr h
  have hat : ∀ x, at_ (m.set b .gone) x = if x = b then .gone else at_ m x := fun x => by
    simp only [at_, List.getD_eq_getElem?_getD]
    by_cases hx : x = b
    · subst hx; simp [hblt]
    · rw [if_neg hx, List.getElem?_set_ne (Ne.symm hx)]
  have ownSub : ∀ k, OwnR ι' (at_ (m.set b .gone)) k → OwnR ι (at_ m) k := fun k ⟨x, K, ho, hK, hk⟩ => by
    rw [hat] at ho
    split at ho
    · cases ho
    · exact ⟨x, K, ho, hK, hk⟩
  have liveSub : ∀ k, LiveR ι' (at_ (m.set b .gone)) k → LiveR ι (at_ m) k := fun k ⟨x, K, ho, hK, hk⟩ => by
    rw [hat] at ho
    split at ho
    · cases ho
    · exact ⟨x, K, ho, hK, hk⟩
  have hrel : Rel ι' (a.set d (Dt.frp c off)) (m.set b .gone) t w := by
    refine ⟨by simpa using hr.size, fun x => ?_, ⟨fun x => ?_, fun x x2 K K2 hne ho hl hK hK2 => ?_, fun r cc hcc => ?_, fun x K r cc ho hK hcc => ?_, GloOk.mono hle.fro hr.sim.glo⟩, fun x hx => by simpa using hr.dom x hx⟩
    · by_cases hx : d = x
      · subst hx
        by_cases hda : d < a.length
        · have hv := hr.slots d
          rw [hs] at hv
          rw [show (a.set d (Dt.frp c off)).getD d undef = Dt.frp c off by simp [List.getD_eq_getElem?_getD, hda]]
          obtain ⟨L2, hL2, he⟩ := hv.ptr_inv
          rw [hL] at hL2; cases hL2
          rw [he]
          exact .frp hself hp hfit fun i hi => (hcells i hi).mono hle
        · have e : (a.set d (Dt.frp c off)) = a := List.set_eq_of_length_le (by omega)
          rw [e]; exact (hr.slots d).mono hle
      · rw [show (a.set d (Dt.frp c off)).getD x undef = a.getD x undef by simp [List.getD_eq_getElem?_getD, List.getElem?_set_ne hx]]
        exact (hr.slots x).mono hle
    · rw [hat]
      split
      · trivial
      · exact (hr.sim.blk x).keep hle fun _ _ _ => rfl
    · rw [hat] at ho hl
      split at ho
      · cases ho
      · split at hl
        · cases hl
        · exact hr.sim.sep x x2 K K2 hne ho hl hK hK2
    · rcases hcase r cc hcc with ⟨rfl, rfl⟩ | h
      · exact ⟨te, (0, 0), hh⟩
      · exact hr.sim.fro r cc h
    · rw [hat] at ho
      split at ho
      · cases ho
      · rename_i hxb
        rcases hcase r cc hcc with ⟨rfl, rfl⟩ | h
        · exact hr.sim.sep x b K L hxb ho (by rw [hbg]; rfl) hK hL
        · exact hr.sim.apart x K r cc ho hK h
  obtain ⟨w', fr, ι'', h1, h2, h5, h6, h7⟩ := h D ds ι' t w hrel fr0 cs hb0 hk0 hB0 hD0 hj0
  refine ⟨w', fr, ι'', h1, h2, h5, h6, ⟨h7.le, h7.size, h7.os, h7.tape, h7.output, fun k hk hn => h7.frame k hk (fun ho => hn (ownSub k ho)), fun k ho => (h7.own k ho).imp (ownSub k) id, fun k ho => (h7.live k ho).imp (liveSub k) id,
    fun r cc hcc => h7.lef r cc (hle.fro r cc hcc), fun r cc hcc => ?_⟩⟩
  rcases h7.fro r cc hcc with h | h | h
  · rcases hcase r cc h with ⟨rfl, rfl⟩ | h
    · exact .inr (.inl ⟨b, L, by rw [hbg]; rfl, hL, rfl⟩)
    · exact .inl h
  · exact .inr (.inl (ownSub r h))
  · exact .inr (.inr h)

theorem RunsE.frpN {s : VS} {v : VQ} (d b off sz : Nat) (c : List Value) (hs : slotV d s = .pointer (some ⟨b, off, none⟩)) (hb : s.mem[b]? = some (.cells c sz true))
    (hp : pures c = true) (hns : isNormS s = true) (h : RunsE P f n0 (frzS d b (frp c off) s) v) : RunsE P f n0 s v := by
  obtain ⟨m', h, q⟩ := h
  cases s with
  | reg => cases hns
  | norm todo a m =>
    refine ⟨m', Runs.frpN d b off sz c hs hb hp ?_, q⟩
    simpa only [frzS, fv_eq, fl_eq] using h
end
section
variable {P : Program} {f : Fr} {n0 : Nat} {ρ : Type} {E : ρ → VQ} {s : VS} {T : Option ρ}
theorem L.frzP (hm : P.follows .mixedOrders = true) (n' d b off sz : Nat) (c : List Value) (hs : slotV d (vadv P n' s) = .pointer (some ⟨b, off, Option.none⟩)) (hb : (vadv P n' s).mem[b]? = some (.cells c sz true)) (hp : pures c = true) (hns : isNormS (vadv P n' s) = true)
    (h : LiftsF P f n0 E (frzS d b (frp c off) (vadv P n' s)) T) : LiftsF P f n0 E s T := fun r hr => RunsE.adv hm n' (RunsE.frpN d b off sz c hs hb hp hns (h r hr))
end
section
variable {P : Program} {o : Oper} {a : List Value} {m : List Blk}
end
section
variable {P : Program} {f : Fr} {n0 : Nat} {ρ : Type} {E : ρ → VQ} {s : VS} {T : Option ρ} {α : Type} [F : Flat α]
end

/-! ### A slice written out in full -/
section
variable {P : Program} {f : Fr} {n0 : Nat} {ρ : Type} {E : ρ → VQ} {s : VS} {T : Option ρ} {α : Type} [F : Flat α]
end

end

section
open Go.RowKit
set_option linter.unusedVariables false

section
variable {P : Program} {f : Fr} {n0 : Nat} {ρ : Type} {E : ρ → VQ} {s : VS} {T : Option ρ}
theorem L.callM (hm : P.follows .mixedOrders = true) {r0 : Value} {g : FuncId} {vs : List Value} {mf mf' : List Blk} (Es : List Ent) (c : ConM P g vs mf r0 mf') (hs : downAt Es (go P s) = some (g, vs, mf)) (hE : okE Es (go P s).mem mf' = true) (hview : Es.all (fun e => !e.plain) = true)
    (h : LiftsF P f n0 E (afterM Es [] (go P s) (upV (back (kap Es) Es.length mf'.length (go P s).mem.length) r0) mf') T) : LiftsF P f n0 E s T := fun r hr => R.callM hm Es c hs hE hview (h r hr)
end

end

end Go.Dt
