/- What the rows say of package variables, and what this is to the foundation; a row's contract over worlds that have the program's own variables, with what is listed. -/
import Derived.Test.YtdmcdijlpnbghaaGreatDoorRows
import Derived.Lib.LaidU8T
import Derived.PinnedBridge
import Derived.MakeChecks
import Derived.Stop.LaidErr
import Derived.Handed
import Derived.Test.YtdmcdijlpnbghaaGreatDoorQI24
namespace Go.Dt
open Go.RowKit Go.WideShapes Go.ChangeShapes Go.ChangeAt
set_option linter.unusedVariables false
section
variable {H : Type} {enc : TypeId × Value → H}
theorem returnsIn_shaped_and {a : Assume} {C : Checked} {os : Os} {f : FuncId} {fn : Func} {s : ChangeSpec} {conds : List PathCond} {apart fresh handsOn again : Bool} {X : World → Array Value → Prop}
    (hX : ∀ (w w' : World) (args : Array Value), w.heap = w'.heap → X w args → X w' args)
    (own : ownKnob C.prog.godebug = none) (started : os.Started) (noInit : C.prog.inits.idxOf? f = none) (hfn : C.prog.funcs[f]? = some fn)
    (witness : ∃ (w : World) (tape : Tape) (i : Input), w.os = os ∧ (w.forCall tape i).Shaped C.prog ∧ i.vars = [] ∧ Input.okWide C.prog (w.forCall tape i) .any w.heap.size f i ∧
      ((s.pre enc C.prog fn conds apart (w.forCall tape i).memory i.args ∧ X (w.forCall tape i).memory i.args) ∧ sizedMet enc C.prog fn (OpenSpec.ofChange s) apart (w.forCall tape i).memory i.args) ∧ a.holds C.prog (lone (Frame.enter C.prog f i.args .normal) [] (w.forCall tape i)))
    (contract : ∀ (W : World) (base : Nat) (args : Array Value) (ds gs : List (DataW H)) (before : List MemPlace), W.ShapedOpen C.prog →
      (∀ (j : Nat) t v, fn.params[j]? = some t → args[j]? = some v → Value.okWide C.prog W .any base t v) →
      DataW.Whole enc C.prog fn.params.toList s.vars apart W args.toList ds gs before → X W args →
      Calls C.prog f args W fun e W' => ∃ v, e = .returned v ∧ s.post enc C.prog fn apart fresh handsOn again W args v W') :
    ReturnsInHanded a C os f .any (fun w args => (s.pre enc C.prog fn conds apart w args ∧ X w args) ∧ sizedMet enc C.prog fn (OpenSpec.ofChange s) apart w args) (s.post enc C.prog fn apart fresh handsOn again) := by
  refine returnsInHanded_of_calls own started noInit witness ?_
  intro w tape i _ hsh _ hok hpre hholds
  obtain ⟨_, _, _, fn', hfn', _, _, _, _, hval⟩ := hok
  have e : fn' = fn := Option.some.inj (hfn'.symm.trans hfn)
  subst e
  obtain ⟨⟨⟨ds, gs, before, hw, hc⟩, hx⟩, hz⟩ := hpre
  have hw' := DataW.Whole.of_heap (w' := w.forCall tape i) (by rfl) hw
  refine (contract (w.forCall tape i) w.heap.size i.args ds gs before hsh hval hw' (hX _ _ _ (by rfl) hx)).mono fun e W' ⟨v, he, hp⟩ => ?_
  subst he
  exact ChangeSpec.post_blind hp
theorem shaped_int {P : Program} {W : World} (h : W.ShapedOpen P) {g : Nat} {z : Array Value} {t : TypeId} {k : IntKind} (hg : Nat.blt g P.globals.size = true) (h0 : (((begin P (fun _ _ => 0) default).world.heap[g]?).bind Obj.row?) = some (z, t))
    (hz : z.size = 1) (hb : P.buildable t = true) (hc : P.cellTypes P.depth t = some [t]) (hu : P.underlying t = some (.int k)) : ∃ m, froH W g = some #[.int k m] := by
  obtain ⟨cs, hh, hs, hr⟩ := h.1 g z t (Nat.le_of_ble_eq_true hg) h0
  obtain ⟨ts, h1, _, h2⟩ := hr hb
  rw [hc] at h1; cases h1
  have hsz : cs.size = 1 := by omega
  have e0 : cs[0]? = some (cs[0]'(by omega)) := Array.getElem?_eq_getElem (by omega)
  obtain ⟨u, hu1, hu2⟩ := h2 0 _ e0
  have : u = t := by simpa using hu1.symm
  subst this
  unfold Cell.ok at hu2
  rw [hu] at hu2
  obtain ⟨m, hm⟩ : ∃ m, cs[0]'(by omega) = .int k m := by
    generalize cs[0]'(by omega) = v at hu2
    cases v with
    | int k' n => obtain ⟨rfl, _⟩ := hu2; exact ⟨n, rfl⟩
    | _ => exact hu2.elim
  refine ⟨m, froH_of (w := W) (t := u) (fz := (0, 0)) ?_⟩
  rw [hh]
  have : cs = #[.int k m] := by
    apply Array.ext (by simp [hsz])
    intro i h1 h2
    have : i = 0 := by omega
    subst this
    exact hm
  rw [this]
theorem fro_of_var {P : Program} {W : World} {n : String} {g : Nat} {cs : Array Value} (hg : P.globalNamed n = some g) (h : W.var? P n = some cs) : froH W g = some cs := by
  simp only [World.var?, hg, Option.bind_some] at h
  split at h
  · rename_i hh; cases h; exact froH_of hh
  · cases h
theorem fro_cells {W : World} {g : Nat} {v : Value} (h : W.cell? ⟨g, 0, none⟩ = some v) : ∃ c, froH W g = some c := by
  unfold World.cell? at h
  split at h
  · rename_i hh; exact ⟨_, froH_of hh⟩
  · cases h
theorem cell_fro {W : World} {g i : Nat} {c : Array Value} {v : Value} (h : froH W g = some c) (hc : W.cell? ⟨g, i, none⟩ = some v) : c[i]? = some v := by
  obtain ⟨t, fz, hh⟩ := froH_ok h
  simp only [World.cell?, hh] at hc
  exact hc
end
end Go.Dt
namespace Go.Proofs.YtdmcdijlpnbghaaGreatDoor.Lf
open Go Go.Dt Go.Proofs Go.Shelf Go.RowKit
set_option linter.unusedVariables false
theorem starE : "*" ++ "errors.errorString" = "*errors.errorString" := by decide
theorem rowE (u : TypeId) (h : Tryz.prog.typeName? 3 u = some "*errors.errorString") : u = 167 :=
  typeName_ptr_named (nm := "errors.errorString") (by rw [starE]; kernel_rfl) (by kernel_rfl) (by decide) u (by rw [starE]; exact h)
theorem u8Extra : U8Extra Tryz.prog laysV_ren := ⟨by kernel_rfl, by kernel_rfl, by kernel_rfl, by kernel_rfl, by kernel_rfl, by kernel_rfl, by kernel_rfl⟩
/-- What a list of variables gives, where it names these. -/
theorem glo_of {W : World} (hsh : W.ShapedOpen Tryz.prog) {l : List (String × DataW Unit)} (h : laidMet Tryz.prog l W)
    (m1 : ("unicode/utf8.first", Rows.laid_unicode_utf8_first) ∈ l) (m2 : ("unicode/utf8.acceptRanges", Rows.laid_unicode_utf8_acceptRanges) ∈ l)
    (m3 : ∃ r, laidMet Tryz.prog (("strconv.ErrSyntax", Rows.laid_strconv_ErrSyntax) :: r) W) (m4 : ∃ r, laidMet Tryz.prog (("strconv.ErrRange", Rows.laid_strconv_ErrRange) :: r) W) : GloOk (froH W) := by
  have r1 := Lib.laidMet.reads h m1
  have r2 := Lib.laidMet.reads h m2
  rw [show (Rows.laid_unicode_utf8_first : DataW Unit) = Lib.firstData from Pinned.utf8First_eq] at r1
  rw [show (Rows.laid_unicode_utf8_acceptRanges : DataW Unit) = Lib.acceptData by kernel_rfl] at r2
  have hT : Lib.Utf8Tabs 0 1 W := utf8Tabs_of_readsT (U8Types.of196 laysV) u8Extra r1 r2
  obtain ⟨h1, h2⟩ := hT
  obtain ⟨c0, f0⟩ := fro_cells (h1 0 (by decide))
  obtain ⟨c1, f1⟩ := fro_cells (h2 0 (by decide)).1
  obtain ⟨q3, m3⟩ := m3
  obtain ⟨q4, m4⟩ := m4
  have g3 : Tryz.prog.globalNamed "strconv.ErrSyntax" = some 2 := by kernel_rfl
  have g4 : Tryz.prog.globalNamed "strconv.ErrRange" = some 3 := by kernel_rfl
  obtain ⟨a1, s1, hv1, _⟩ := laid_sentinel m3 g3 (by kernel_rfl) Tryz.underlying86 rowE Tryz.underlying167 Tryz.underlying169 rfl rfl Tryz.underlying9 (by kernel_rfl) (by kernel_rfl)
  obtain ⟨a2, s2, hv2, _⟩ := laid_sentinel m4 g4 (by kernel_rfl) Tryz.underlying86 rowE Tryz.underlying167 Tryz.underlying169 rfl rfl Tryz.underlying9 (by kernel_rfl) (by kernel_rfl)
  exact ⟨shaped_int (g := 4) (k := .i64) (t := 3) (z := #[.int .i64 0]) hsh (by kernel_rfl) (by kernel_rfl) rfl (by kernel_rfl) (by kernel_rfl) Tryz.underlying3,
    ⟨c0, f0, fun k hk => cell_fro f0 (h1 k hk)⟩, ⟨c1, f1, fun i hi => ⟨cell_fro f1 (h2 i hi).1, cell_fro f1 (h2 i hi).2⟩⟩, ⟨_, fro_of_var g3 hv1, .inr ⟨_, _, rfl⟩⟩, _, fro_of_var g4 hv2, .inr ⟨_, _, rfl⟩⟩
end Go.Proofs.YtdmcdijlpnbghaaGreatDoor.Lf
