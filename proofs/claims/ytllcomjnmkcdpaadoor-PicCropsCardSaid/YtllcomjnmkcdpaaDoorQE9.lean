/- Arguments of flat types (numbers, bools, structs and arrays of these): opened into their cells; all arguments, read again behind a call. -/
import Derived.Test.YtllcomjnmkcdpaaDoorQE8
import Derived.Deep.Slices
namespace Go.Dt
set_option linter.unusedVariables false
open Go.RowKit Go.WideShapes Go.ChangeShapes Go.ChangeAt

/-- A cell's kind. -/
inductive Sc where
  | int (k : IntKind)
  | bool

def ScOk : Sc → Value → Prop
  | .int k, v => ∃ n, v = .int k n ∧ (Lit.int k n).wf = true
  | .bool, v => ∃ b, v = .bool b

def FlatOk : List Sc → List Value → Prop
  | [], [] => True
  | s :: ss, v :: vs => ScOk s v ∧ FlatOk ss vs
  | _, _ => False

theorem FlatOk.length : ∀ {ss : List Sc} {vs : List Value}, FlatOk ss vs → ss.length = vs.length
  | [], [], _ => rfl
  | s :: ss, v :: vs, h => by simp [FlatOk.length h.2]
  | [], _ :: _, h => h.elim
  | _ :: _, [], h => h.elim
theorem FlatOk.append : ∀ {ss ss2 : List Sc} {vs vs2 : List Value}, FlatOk ss vs → FlatOk ss2 vs2 → FlatOk (ss ++ ss2) (vs ++ vs2)
  | [], _, [], _, _, h2 => h2
  | s :: ss, _, v :: vs, _, h, h2 => ⟨h.1, FlatOk.append h.2 h2⟩
  | [], _, _ :: _, _, h, _ => h.elim
  | _ :: _, _, [], _, h, _ => h.elim

section
variable {H : Type} {enc : TypeId × Value → H} {P : Program} {w : World} {base : Nat} {spare : Nat → Bool} {held : Bool}

/-- All arguments, read again where nothing that was there has turned. -/
theorem trodAll_stays (hl : laidOutB P = true) {W W' : World} (hb : Below W.heap.size W W') {z : Nat → Bool} : ∀ {ts : List TypeId} {vs : List Value} {ds : List (DataW H)} {ps : List MemPlace},
    ts.all (fun t => P.readableRec t && Nat.blt t P.types.size) = true → DataW.TrodAll enc P W 0 (fun _ => true) true ts vs ds ps → (∀ p ∈ ps, p.block < W.heap.size) → (∀ p ∈ ps, z p.block = true) → DataW.TrodAll enc P W' 0 z true ts vs ds ps
  | [], _, _, _, _, h, _, _ => by
    obtain ⟨rfl, rfl, rfl⟩ := trodAll_nil h
    exact trodAll_mk0
  | t :: ts, vs, ds, ps, ht, h, hlt, hz => by
    obtain ⟨v, vs', d, ds', p, q, rfl, rfl, rfl, h1, h2⟩ := trodAll_cons h
    simp only [List.all_cons, Bool.and_eq_true] at ht
    refine trodAll_cons_mk (WideElems.Trod_stays hl ht.1.1 (Nat.le_of_ble_eq_true ht.1.2) h1 (fun x hx => hb.same (hlt x (by simp [hx]))) (fun x hx => hz x (by simp [hx]))) ?_
    exact trodAll_stays hl hb ht.2 h2 (fun x hx => hlt x (by simp [hx])) (fun x hx => hz x (by simp [hx]))

end
end Go.Dt
