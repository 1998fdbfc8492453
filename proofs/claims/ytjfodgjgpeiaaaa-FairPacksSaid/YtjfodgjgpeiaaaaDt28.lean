/- Rows of zeros, of elements of several numbers. -/
import Derived.Test.YtjfodgjgpeiaaaaDt27
namespace Go.Dt
open Go.RowKit
set_option linter.unusedVariables false

section
variable {Φ : List Blk → Prop} {P : Program} {f : FuncId} {n0 : Nat}

theorem makeZ_ok {s : VS} {size : Nat} (l c : Int) (bytes : Nat) (hs : mkAt P s = some (l, c, size, bytes, List.replicate size (.int .i64 0))) (hsz : 0 < size) (h0 : 0 ≤ l) (hlc : l ≤ c) (hby : (bytes : Int) * c ≤ 281474976710656) (h63 : c ≤ 9223372036854775807) :
    ∃ o, opAt s = some o ∧ OpOk P o s.slots s.mem (.slice (some ⟨s.mem.length, 0, none⟩) l.toNat c.toNat) (s.mem ++ [.cells (row (c.toNat * size) fun _ => 0) size true]) ⟨[], []⟩ := by
  unfold mkAt at hs
  split at hs
  · rename_i o ho
    split at hs
    · rename_i t x y hop
      cases hc : (okConst x && okConst y) with
      | false => simp [hc] at hs
      | true =>
        rw [hc, cond_true] at hs
        rw [Bool.and_eq_true] at hc
        split at hs
        · rename_i e kl l' kc c' hu hx hy
          split at hs
          · rename_i i hi
            split at hs
            · rename_i zv hzv
              simp only [Option.some.injEq, Prod.mk.injEq] at hs
              obtain ⟨rfl, rfl, rfl, rfl, hzc⟩ := hs
              have hzs : zv.cells.size = i.size := by
                have := congrArg List.length hzc
                simpa using this
              refine ⟨o, ho, OpOk.makeSlice hop hc.1 hc.2 hx hy hu hi hzv h0 hlc hby h63 (by simp) ?_ (fun j hj => ?_) (by omega)⟩
              · rw [hzc]
                have : ∀ k, plains (List.replicate k (Value.int .i64 0)) = true := fun k => by
                  induction k with
                  | zero => rfl
                  | succ k ih => simp only [List.replicate_succ, plains, plain, ih]; rfl
                exact this _
              · have hj' : j < c'.toNat * i.size := by simpa using hj
                rw [List.getD_eq_getElem?_getD, rowV_get hj', Array.getD_eq_getD_getElem?, ← Array.getElem?_toList, hzc, hzs, List.getElem?_replicate, if_pos (Nat.mod_lt _ hsz)]
            · cases hs
          · cases hs
        · cases hs
    · cases hs
  · cases hs

theorem R.makeZ {s : VS} {v : Value} (hm : P.follows .mixedOrders = true) (n' : Nat) (size : Nat) (l c : Int) (bytes : Nat) (hs : mkAt P (vadv P n' s) = some (l, c, size, bytes, List.replicate size (.int .i64 0))) (hsz : 0 < size) (h0 : 0 ≤ l) (hlc : l ≤ c) (hby : (bytes : Int) * c ≤ 281474976710656) (h63 : c ≤ 9223372036854775807)
    (hr : RunsE P f n0 (afterAp (vadv P n' s) (.slice (some ⟨(vadv P n' s).mem.length, 0, none⟩) l.toNat c.toNat) ((vadv P n' s).mem ++ [.cells (row (c.toNat * size) fun _ => 0) size true]) ⟨[], []⟩) v) : RunsE P f n0 s v := by
  obtain ⟨o, ho, hok⟩ := makeZ_ok l c bytes hs hsz h0 hlc hby h63
  refine RunsE.adv hm n' (RunsE.op o ho hok ?_)
  unfold afterAp at hr
  simpa only [ho, fv_eq, fl_eq] using hr
theorem Q.makeZ {s : VS} {v : Value} (hm : P.follows .mixedOrders = true) (n' : Nat) (size : Nat) (l c : Int) (bytes : Nat) (hs : mkAt P (vadv P n' s) = some (l, c, size, bytes, List.replicate size (.int .i64 0))) (hsz : 0 < size) (h0 : 0 ≤ l) (hlc : l ≤ c) (hby : (bytes : Int) * c ≤ 281474976710656) (h63 : c ≤ 9223372036854775807)
    (hr : RunsQ Φ P f n0 (afterAp (vadv P n' s) (.slice (some ⟨(vadv P n' s).mem.length, 0, none⟩) l.toNat c.toNat) ((vadv P n' s).mem ++ [.cells (row (c.toNat * size) fun _ => 0) size true]) ⟨[], []⟩) v) : RunsQ Φ P f n0 s v := by
  obtain ⟨o, ho, hok⟩ := makeZ_ok l c bytes hs hsz h0 hlc hby h63
  refine RunsQ.adv hm n' (RunsQ.op o ho hok ?_)
  unfold afterAp at hr
  simpa only [ho, fv_eq, fl_eq] using hr
/-- As far as a state that is known, but for blocks that are left behind. -/
theorem R.atG {s st : VS} {v : Value} (hm : P.follows .mixedOrders = true) (n : Nat) (ks : List Nat) (E : List Ent) (cs : List (List Value)) (e : gcS E (keepS ks (vadv P n s)) = st)
    (hE : okE E (keepS ks (vadv P n s)).mem (E.map (downB E (keepS ks (vadv P n s)).mem)) = true) (hv : viewsB E (keepS ks (vadv P n s)).mem = cs) (hcs : plainsAll cs) (hfirst : firstE E (keepS ks (vadv P n s)).mem n0 = true) (hs : isNormS (keepS ks (vadv P n s)) = true)
    (h : RunsE P f n0 st v) : RunsE P f n0 s v :=
  RunsE.adv hm n (RunsE.forget ks (RunsE.gc E hE (views_ok hv hcs) hfirst hs (e ▸ h)))
theorem Q.atG {s st : VS} {v : Value} (hm : P.follows .mixedOrders = true) (n : Nat) (ks : List Nat) (E : List Ent) (cs : List (List Value)) (e : gcS E (keepS ks (vadv P n s)) = st)
    (hE : okE E (keepS ks (vadv P n s)).mem (E.map (downB E (keepS ks (vadv P n s)).mem)) = true) (hv : viewsB E (keepS ks (vadv P n s)).mem = cs) (hcs : plainsAll cs) (hfirst : firstE E (keepS ks (vadv P n s)).mem n0 = true) (hs : isNormS (keepS ks (vadv P n s)) = true)
    (h : RunsQ Φ P f n0 st v) : RunsQ Φ P f n0 s v :=
  RunsQ.adv hm n (RunsQ.forget ks (RunsQ.gc E hE (views_ok hv hcs) hfirst hs (e ▸ h)))

end
end Go.Dt
