/- Several texts in one: PF, PG, PH. -/
import Derived.Test.YtfkmhhbpomkakaaPE
namespace Go.Proofs.Ytfkmhhbpomkakaa.Pol

section
open Go Go.Dt Go.Proofs Go.Proofs.Ytfkmhhbpomkakaa.Clip Go.Proofs.Ytfkmhhbpomkakaa.Wide
set_option linter.unusedVariables false

section
variable (k : Int) (P : Cr → Bool)
def vert (a : Cr) : List Cr := if 0 ≤ farC k a then [a] else []
def edge (a b : Cr) : List Cr := if 0 ≤ farC k a then (if 0 ≤ farC k b then [] else [cutC k a b]) else (if 0 ≤ farC k b then [cutC k b a] else [])
theorem step_parts (a b : Cr) : stepAt k a b = vert k a ++ edge k a b := by
  unfold stepAt vert edge
  split <;> split <;> rfl
theorem edge_comm (a b : Cr) : edge k a b = edge k b a := by
  unfold edge
  split <;> split <;> rfl
def eN (a b : Cr) : Nat := (edge k a b).countP P
def vN (a : Cr) : Nat := (vert k a).countP P
theorem eN_comm (a b : Cr) : eN k P a b = eN k P b a := by unfold eN; rw [edge_comm]
def chain : List Cr → Nat
  | [] => 0
  | [_] => 0
  | a :: b :: l => eN k P a b + chain (b :: l)
def verts : List Cr → Nat
  | [] => 0
  | a :: l => vN k P a + verts l
def lastC (x : Cr) : List Cr → Cr
  | [] => x
  | y :: l => lastC y l
theorem chain_snoc (y z : Cr) : ∀ l : List Cr, chain k P (l ++ [y, z]) = chain k P (l ++ [y]) + eN k P y z
  | [] => by simp [chain]
  | [x] => by simp [chain]
  | x :: w :: l => by
    have h := chain_snoc y z (w :: l)
    show eN k P x w + chain k P ((w :: l) ++ [y, z]) = eN k P x w + chain k P ((w :: l) ++ [y]) + _
    rw [h]; omega
theorem chain_rev : ∀ l : List Cr, chain k P l.reverse = chain k P l
  | [] => rfl
  | [x] => rfl
  | x :: y :: l => by
    have h := chain_rev (y :: l)
    rw [List.reverse_cons, List.reverse_cons, List.append_assoc]
    show chain k P (l.reverse ++ [y, x]) = _
    rw [chain_snoc]
    rw [List.reverse_cons] at h
    show chain k P (l.reverse ++ [y]) + _ = eN k P x y + chain k P (y :: l)
    rw [h, eN_comm]; omega
theorem verts_append : ∀ l m : List Cr, verts k P (l ++ m) = verts k P l + verts k P m
  | [], m => by simp [verts]
  | a :: l, m => by
    show vN k P a + verts k P (l ++ m) = vN k P a + verts k P l + _
    rw [verts_append l m]; omega
theorem verts_rev : ∀ l : List Cr, verts k P l.reverse = verts k P l
  | [] => rfl
  | a :: l => by
    rw [List.reverse_cons, verts_append, verts_rev l]
    show verts k P l + (vN k P a + 0) = vN k P a + verts k P l
    omega
theorem lastC_snoc (y : Cr) : ∀ (l : List Cr) (x : Cr), lastC x (l ++ [y]) = y
  | [], x => rfl
  | z :: l, x => lastC_snoc y l z
theorem flat_count (ps : List Cr) : ∀ (d i : Nat) (x : Cr) (l : List Cr), i + (d + 1) = ps.length → ps.drop i = x :: l →
    (flat k ps (d + 1) i).countP P = verts k P (x :: l) + chain k P (x :: l) + eN k P (lastC x l) (ps.getD 0 c0)
  | 0, i, x, l, hi, hd => by
    have hl : l = [] := by
      have := congrArg List.length hd
      simp at this
      exact List.eq_nil_of_length_eq_zero (by omega)
    subst hl
    have hx : ps.getD i c0 = x := by
      have h := congrArg (fun l => l[0]?) hd
      simp only [List.getElem?_drop, Nat.add_zero, List.getElem?_cons_zero] at h
      rw [List.getD_eq_getElem?_getD, h]; rfl
    rw [flat_succ rfl, List.countP_append, step_parts, List.countP_append, hx, show (i + 1) % ps.length = 0 by rw [show i + 1 = ps.length by omega, Nat.mod_self]]
    show vN k P x + eN k P x (ps.getD 0 c0) + 0 = vN k P x + 0 + 0 + eN k P x (ps.getD 0 c0)
    omega
  | d + 1, i, x, l, hi, hd => by
    have hl := congrArg List.length hd
    simp at hl
    cases l with
    | nil => simp at hl; omega
    | cons y l =>
      have hd2 : ps.drop (i + 1) = y :: l := by
        have h := congrArg (List.drop 1) hd
        rw [List.drop_drop] at h
        simpa using h
      have hx : ps.getD i c0 = x := by
        have h := congrArg (fun l => l[0]?) hd
        simp only [List.getElem?_drop, Nat.add_zero, List.getElem?_cons_zero] at h
        rw [List.getD_eq_getElem?_getD, h]; rfl
      have hy : ps.getD (i + 1) c0 = y := by
        have h := congrArg (fun l => l[0]?) hd2
        simp only [List.getElem?_drop, Nat.add_zero, List.getElem?_cons_zero] at h
        rw [List.getD_eq_getElem?_getD, h]; rfl
      rw [flat_succ rfl, List.countP_append, step_parts, List.countP_append, hx, Nat.mod_eq_of_lt (show i + 1 < ps.length by omega), hy, flat_count ps d (i + 1) y l (by omega) hd2]
      show vN k P x + eN k P x y + _ = vN k P x + verts k P (y :: l) + (eN k P x y + chain k P (y :: l)) + eN k P (lastC y l) _
      omega
theorem at_count (ps : List Cr) : (atL k ps.reverse).countP P = (atL k ps).countP P := by
  cases ps with
  | nil => rfl
  | cons x l =>
    have e1 := flat_count k P (x :: l) l.length 0 x l (by simp) rfl
    have e2 : (atL k (x :: l)).countP P = verts k P (x :: l) + chain k P (x :: l) + eN k P (lastC x l) x := e1
    rw [e2]
    cases hr : (x :: l).reverse with
    | nil => exact absurd (congrArg List.length hr) (by simp)
    | cons y m =>
      have hlen : m.length = l.length := by
        have := congrArg List.length hr
        simp at this
        omega
      have e3 := flat_count k P (y :: m) m.length 0 y m (by simp) rfl
      have e4 : (atL k (y :: m)).countP P = verts k P (y :: m) + chain k P (y :: m) + eN k P (lastC y m) y := e3
      rw [e4, ← hr, verts_rev, chain_rev, eN_comm k P (lastC x l) x]
      have ends : ∀ (x : Cr) (l : List Cr) (y : Cr) (m : List Cr), (x :: l).reverse = y :: m → lastC y m = x := by
        intro x l y m h
        rw [List.reverse_cons] at h
        cases hl : l.reverse with
        | nil => rw [hl] at h; cases h; rfl
        | cons z t =>
          rw [hl] at h
          have h2 : z = y ∧ t ++ [x] = m := by simpa using h
          rw [← h2.2]; exact lastC_snoc x t y
      have f1 := ends x l y m hr
      have f2 : lastC x l = y := by
        have h := ends y m x l (by rw [← hr, List.reverse_reverse])
        exact h
      rw [f1, f2]
end

theorem has_count {ps : List Cr} {c : Cr} : ∀ (d i : Nat) (n : Int), i + d = ps.length → 0 ≤ n → n + d ≤ 1000000 → hasF ps c d i n = n + ((ps.drop i).countP (fun p => eqC p c) : Nat)
  | 0, i, n, hi, h0, h1 => by
    rw [List.drop_eq_nil_of_le (by omega)]
    show n = n + ((0 : Nat) : Int)
    omega
  | d + 1, i, n, hi, h0, h1 => by
    have hg : ps.getD i c0 = ps[i]'(by omega) := by rw [List.getD_eq_getElem?_getD, List.getElem?_eq_getElem (by omega)]; rfl
    rw [List.drop_eq_getElem_cons (show i < ps.length by omega)]
    unfold hasF
    rw [hg]
    cases h : eqC (ps[i]'(by omega)) c with
    | true =>
      rw [cond_true, has_count d (i + 1) _ (by omega) (by rw [wrap_i64_of (by omega) (by omega)]; omega) (by rw [wrap_i64_of (by omega) (by omega)]; omega), wrap_i64_of (by omega) (by omega), List.countP_cons_of_pos (p := fun p => eqC p c) h]
      omega
    | false =>
      rw [cond_false, has_count d (i + 1) n (by omega) h0 (by omega), List.countP_cons_of_neg (p := fun p => eqC p c) (by rw [h]; decide)]

end

section
open Go Go.Dt Go.Proofs Go.Proofs.Ytfkmhhbpomkakaa.Clip Go.Proofs.Ytfkmhhbpomkakaa.Wide
set_option linter.unusedVariables false
set_option linter.unusedSimpArgs false

theorem chk_rev {ps : List Cr} (h : chkE ps = 0) : chkE ps.reverse = 0 := by
  obtain ⟨h1, h2⟩ := chk_may h
  unfold chkE
  rw [if_neg (by rw [List.length_reverse]; omega), if_pos ((mF_all ps.reverse.length 0).2 fun j _ hj => ?_)]
  rw [List.length_reverse] at hj
  have e : ps.reverse.getD j c0 = ps.getD (ps.length - 1 - j) c0 := by
    rw [List.getD_eq_getElem?_getD, List.getD_eq_getElem?_getD, List.getElem?_reverse (by omega)]
  rw [e]
  exact h2 _ (by omega)
theorem back_step {ps : List Cr} {m : Nat} (h : m < ps.length) : (ps.drop m).reverse = (ps.drop (m + 1)).reverse ++ [ps.getD m c0] := by
  rw [List.drop_eq_getElem_cons h, List.reverse_cons, List.getD_eq_getElem?_getD, List.getElem?_eq_getElem h]
  rfl
def H5N (P : Program) (fn : Func) (k : Int) (ps : List Cr) (i : Int) : VS := puts [(6, num i)] (keepS [0, 1, 5, 6] (vadv P 21 (afterM [Ent.view 0] [] (go P (setG (vadv P 4 (setG (vadv P 10 (entry fn [num k, sl A0 ps.length] [.cells (crs ps) 0 false])) false)) false)) (Value.int IntKind.i64 0) [Blk.gone])))
def H5S (P : Program) (fn : Func) (k : Int) (ps o : List Cr) (L : Nat) (i : Int) : VS := puts [(5, sl A1 L), (6, num i)] (putM [.cells (crs ps) 0 false, .cells (crs o) 10 true] (keepS [0, 1, 5, 6] (vadv P 21 (afterM [Ent.view 0] [] (go P (setG (vadv P 4 (setG (vadv P 10 (entry fn [num k, sl A0 ps.length] [.cells (crs ps) 0 false])) false)) false)) (Value.int IntKind.i64 0) [Blk.gone]))))

theorem rev_loop {k : Int} {ps : List Cr} {v : Value} (hn : ps.length ≤ 16) (h : RunsE Try.prog 5 1 (H5S Try.prog Try.f5 k ps ps.reverse ps.reverse.length (-1)) v) : ∀ (m : Nat) (o : List Cr) (L : Nat), m ≤ ps.length → o = (ps.drop m).reverse → L = o.length → RunsE Try.prog 5 1 (H5S Try.prog Try.f5 k ps o L ((m : Int) - 1)) v := by
  intro m
  induction m with
  | zero =>
    intro o L hm ho hL
    have e : o = ps.reverse := ho
    subst e; subst hL
    exact h
  | succ m ih =>
    intro o L hm ho hL
    have hb : o.length ≤ 16 := by rw [ho, List.length_reverse, List.length_drop]; omega
    rw [show ((m + 1 : Nat) : Int) - 1 = m by omega]
    exact
      R.idx mixed 12 0 (0) (ps.length) 10 IntKind.i64 ((↑m : Int)) (m * 10) (by kernel_rfl) (by omega) (by omega) (by first | omega | simp) <|
      R.loadN mixed 0 10 0 (m * 10) (crs ps) [Value.int IntKind.i64 (ps.getD m c0).x, Value.int IntKind.i64 (ps.getD m c0).y, Value.int IntKind.i64 (ps.getD m c0).z, Value.int IntKind.i64 (ps.getD m c0).w, Value.int IntKind.i64 (ps.getD m c0).a, Value.int IntKind.i64 (ps.getD m c0).b, Value.int IntKind.i64 (ps.getD m c0).c, Value.int IntKind.i64 (ps.getD m c0).d, Value.int IntKind.i64 (ps.getD m c0).e, Value.int IntKind.i64 (ps.getD m c0).f] (by kernel_rfl) (by rw [crs_length]; omega) (by exact crs_get _ _ (by omega)) <|
      R.appGrow mixed 1 1 (0) (L) 10 80 2 (0) (1) (crs o) ([Value.int IntKind.i64 (ps.getD m c0).x, Value.int IntKind.i64 (ps.getD m c0).y, Value.int IntKind.i64 (ps.getD m c0).z, Value.int IntKind.i64 (ps.getD m c0).w, Value.int IntKind.i64 (ps.getD m c0).a, Value.int IntKind.i64 (ps.getD m c0).b, Value.int IntKind.i64 (ps.getD m c0).c, Value.int IntKind.i64 (ps.getD m c0).d, Value.int IntKind.i64 (ps.getD m c0).e, Value.int IntKind.i64 (ps.getD m c0).f]) (crs (o ++ [(ps.getD m c0)])) (by kernel_rfl) (by kernel_rfl) (by decide) (by rw [crs_length]; omega) (by exact Nat.le_refl _) (by rfl) (by omega) (by omega) (by subst hL; rw [crs_take]; exact crs_snoc o _) <|
      R.atG mixed 11 [0, 1, 5, 6] [.view 0, .ownp 3] [crs ps, crs (o ++ [(ps.getD m c0)])] (st := H5S Try.prog Try.f5 k ps (o ++ [(ps.getD m c0)]) (L + 1) (IntKind.i64.wrap ((m : Int) - 1))) (by kernel_rfl) (by kernel_rfl) (by kernel_rfl) ⟨crs_plains _, crs_plains _, trivial⟩ (by kernel_rfl) (by kernel_rfl) (by
        rw [wrap_i64_of (by omega) (by omega)]; exact ih _ _ (by omega) (by rw [ho]; exact (back_step (by omega)).symm) (by simp [hL]))
theorem rev_all {k : Int} {ps : List Cr} {v : Value} (hne : ps ≠ []) (hn : ps.length ≤ 16) (h : RunsE Try.prog 5 1 (H5S Try.prog Try.f5 k ps ps.reverse ps.reverse.length (-1)) v) {m : Nat} (hm : m + 1 = ps.length) : RunsE Try.prog 5 1 (H5N Try.prog Try.f5 k ps m) v := by
  exact
      R.idx mixed 12 0 (0) (ps.length) 10 IntKind.i64 ((↑m : Int)) (m * 10) (by kernel_rfl) (by omega) (by omega) (by first | omega | simp) <|
      R.loadN mixed 0 10 0 (m * 10) (crs ps) [Value.int IntKind.i64 (ps.getD m c0).x, Value.int IntKind.i64 (ps.getD m c0).y, Value.int IntKind.i64 (ps.getD m c0).z, Value.int IntKind.i64 (ps.getD m c0).w, Value.int IntKind.i64 (ps.getD m c0).a, Value.int IntKind.i64 (ps.getD m c0).b, Value.int IntKind.i64 (ps.getD m c0).c, Value.int IntKind.i64 (ps.getD m c0).d, Value.int IntKind.i64 (ps.getD m c0).e, Value.int IntKind.i64 (ps.getD m c0).f] (by kernel_rfl) (by rw [crs_length]; omega) (by exact crs_get _ _ (by omega)) <|
      R.atG mixed 13 [0, 1, 5, 6] [.view 0, .ownp 2] [crs ps, crs [(ps.getD m c0)]] (st := H5S Try.prog Try.f5 k ps [(ps.getD m c0)] 1 (IntKind.i64.wrap ((m : Int) - 1))) (by kernel_rfl) (by kernel_rfl) (by kernel_rfl) ⟨crs_plains _, crs_plains _, trivial⟩ (by kernel_rfl) (by kernel_rfl) (by
        rw [wrap_i64_of (by omega) (by omega)]; exact rev_loop hn h m _ _ (by omega) (by rw [back_step (by omega), List.drop_eq_nil_of_le (by omega)]; rfl) rfl)
def H5E (P : Program) (fn : Func) (k : Int) (ps ls ms : List Cr) (i : Int) : VS := puts [(11, num i)] (keepS [7, 9, 11] (vadv P 10 (goC (vadv P 23 (afterM [Ent.view 1] [0, 1] (go P (vadv P 7 (afterM [Ent.view 0] [0, 1] (go P (H5S P fn k ps ps.reverse ps.reverse.length (-1))) (upV (back (kap [Ent.view 0]) (List.length [Ent.view 0]) (List.length [Blk.cells (crs ps) 0 false, Blk.cells (crs ls) 10 true]) (go P (H5S P fn k ps ps.reverse ps.reverse.length (-1))).mem.length) (Value.tuple ⟨[sl A1 ls.length, Value.int IntKind.i64 0]⟩)) [Blk.cells (crs ps) 0 false, Blk.cells (crs ls) 10 true]))) (upV (back (kap [Ent.view 1]) (List.length [Ent.view 1]) (List.length [Blk.cells (crs ps.reverse) 0 false, Blk.cells (crs ms) 10 true]) (go P (vadv P 7 (afterM [Ent.view 0] [0, 1] (go P (H5S P fn k ps ps.reverse ps.reverse.length (-1))) (upV (back (kap [Ent.view 0]) (List.length [Ent.view 0]) (List.length [Blk.cells (crs ps) 0 false, Blk.cells (crs ls) 10 true]) (go P (H5S P fn k ps ps.reverse ps.reverse.length (-1))).mem.length) (Value.tuple ⟨[sl A1 ls.length, Value.int IntKind.i64 0]⟩)) [Blk.cells (crs ps) 0 false, Blk.cells (crs ls) 10 true]))).mem.length) (Value.tuple ⟨[sl A1 ms.length, Value.int IntKind.i64 0]⟩)) [Blk.cells (crs ps.reverse) 0 false, Blk.cells (crs ms) 10 true])) false)))

theorem has_same {k : Int} {ps ls ms : List Cr} (hn : ps.length ≤ 16) (h1 : atL k ps = ls) (h2 : atL k ps.reverse = ms) (c : Cr) : hasF ls c ls.length 0 0 = hasF ms c ms.length 0 0 := by
  have l1 := at_len h1
  have l2 := at_len h2
  rw [List.length_reverse] at l2
  rw [has_count _ 0 0 (by omega) (by omega) (by omega), has_count _ 0 0 (by omega) (by omega) (by omega), List.drop_zero, List.drop_zero, ← h1, ← h2, at_count]
theorem back_loop {k : Int} {ps ls ms : List Cr} (hn : ps.length ≤ 16) (h1 : atL k ps = ls) (h2 : atL k ps.reverse = ms) : ∀ (d i : Nat), i + d = ls.length → RunsE Try.prog 5 1 (H5E Try.prog Try.f5 k ps ls ms i) (.bool true) := by
  intro d
  have l1 := at_len h1
  have l2 := at_len h2
  rw [List.length_reverse] at l2
  induction d with
  | zero =>
    intro i hi
    exact R.cond mixed 6 (decide ((↑i : Int) < (↑ls.length : Int))) false (by simp; omega) (by kernel_rfl) <|
      R.call mixed (show Con Try.prog 15 [] (Value.bool true) from c_awake15) (by kernel_rfl) <|
      R.finIs mixed Try.func5 (Value.bool true) (by kernel_rfl) (by first | rfl | (exfalso; simp_all; done) | (exfalso; simp_all; omega))
  | succ d ih =>
    intro i hi
    have hs := has_same hn h1 h2 (ls.getD i c0)
    exact R.cond mixed 6 (decide ((↑i : Int) < (↑ls.length : Int))) true (by simp; omega) (by kernel_rfl) <|
      R.idx mixed 8 2 (0) (ls.length) 10 IntKind.i64 ((↑i : Int)) (i * 10) (by kernel_rfl) (by omega) (by omega) (by first | omega | simp) <|
      R.loadN mixed 0 10 2 (i * 10) (crs ls) [Value.int IntKind.i64 (ls.getD i c0).x, Value.int IntKind.i64 (ls.getD i c0).y, Value.int IntKind.i64 (ls.getD i c0).z, Value.int IntKind.i64 (ls.getD i c0).w, Value.int IntKind.i64 (ls.getD i c0).a, Value.int IntKind.i64 (ls.getD i c0).b, Value.int IntKind.i64 (ls.getD i c0).c, Value.int IntKind.i64 (ls.getD i c0).d, Value.int IntKind.i64 (ls.getD i c0).e, Value.int IntKind.i64 (ls.getD i c0).f] (by kernel_rfl) (by rw [crs_length]; omega) (by exact crs_get _ _ (by omega)) <|
      R.callP mixed [Ent.view 2] [] [crs ls] (show ConM Try.prog 23 [Value.slice (some ⟨0, 0, none⟩) ls.length ls.length, Value.agg ⟨[Value.int IntKind.i64 (ls.getD i c0).x, Value.int IntKind.i64 (ls.getD i c0).y, Value.int IntKind.i64 (ls.getD i c0).z, Value.int IntKind.i64 (ls.getD i c0).w, Value.int IntKind.i64 (ls.getD i c0).a, Value.int IntKind.i64 (ls.getD i c0).b, Value.int IntKind.i64 (ls.getD i c0).c, Value.int IntKind.i64 (ls.getD i c0).d, Value.int IntKind.i64 (ls.getD i c0).e, Value.int IntKind.i64 (ls.getD i c0).f]⟩] [Blk.cells (crs ls) 0 false] (Value.int IntKind.i64 (hasF ls (ls.getD i c0) ls.length 0 0)) [Blk.gone] from c_has23 (ps := ls) (c := ls.getD i c0) (by omega)) (by kernel_rfl) (by kernel_rfl) (by kernel_rfl) ⟨(by first | exact crs_plains _ | rfl), trivial⟩ trivial <|
      R.idx mixed 3 2 (0) (ls.length) 10 IntKind.i64 ((↑i : Int)) (i * 10) (by kernel_rfl) (by omega) (by omega) (by first | omega | simp) <|
      R.loadN mixed 0 10 2 (i * 10) (crs ls) [Value.int IntKind.i64 (ls.getD i c0).x, Value.int IntKind.i64 (ls.getD i c0).y, Value.int IntKind.i64 (ls.getD i c0).z, Value.int IntKind.i64 (ls.getD i c0).w, Value.int IntKind.i64 (ls.getD i c0).a, Value.int IntKind.i64 (ls.getD i c0).b, Value.int IntKind.i64 (ls.getD i c0).c, Value.int IntKind.i64 (ls.getD i c0).d, Value.int IntKind.i64 (ls.getD i c0).e, Value.int IntKind.i64 (ls.getD i c0).f] (by kernel_rfl) (by rw [crs_length]; omega) (by exact crs_get _ _ (by omega)) <|
      R.callP mixed [Ent.view 3] [] [crs ms] (show ConM Try.prog 23 [Value.slice (some ⟨0, 0, none⟩) ms.length ms.length, Value.agg ⟨[Value.int IntKind.i64 (ls.getD i c0).x, Value.int IntKind.i64 (ls.getD i c0).y, Value.int IntKind.i64 (ls.getD i c0).z, Value.int IntKind.i64 (ls.getD i c0).w, Value.int IntKind.i64 (ls.getD i c0).a, Value.int IntKind.i64 (ls.getD i c0).b, Value.int IntKind.i64 (ls.getD i c0).c, Value.int IntKind.i64 (ls.getD i c0).d, Value.int IntKind.i64 (ls.getD i c0).e, Value.int IntKind.i64 (ls.getD i c0).f]⟩] [Blk.cells (crs ms) 0 false] (Value.int IntKind.i64 (hasF ms (ls.getD i c0) ms.length 0 0)) [Blk.gone] from c_has23 (ps := ms) (c := ls.getD i c0) (by omega)) (by kernel_rfl) (by kernel_rfl) (by kernel_rfl) ⟨(by first | exact crs_plains _ | rfl), trivial⟩ trivial <|
      R.cond mixed 2 (hasF ls (ls.getD i c0) ls.length 0 0 != hasF ms (ls.getD i c0) ms.length 0 0) false (by rw [hs]; exact bne_self_eq_false _) (by kernel_rfl) <|
      R.at mixed 10 [7, 9, 11] (st := H5E Try.prog Try.f5 k ps ls ms (IntKind.i64.wrap ((i : Int) + 1))) (by kernel_rfl) (by rw [wrap_succ (by omega)]; exact ih (i + 1) (by omega))
theorem backS {k : Int} {ps ls ms : List Cr} (hk : 0 ≤ k ∧ k ≤ 6) (he : chkE ps = 0) (h1 : atL k ps = ls) (h2 : atL k ps.reverse = ms) (n1 : ls ≠ []) (n2 : ms ≠ []) : RunsE Try.prog 5 1 (H5S Try.prog Try.f5 k ps ps.reverse ps.reverse.length (-1)) (.bool true) := by
  have hlen : ls.length = ms.length := by
    have h := at_count k (fun _ => true) ps
    rw [h1, h2] at h
    simpa [List.countP_true] using h.symm
  exact
    R.callP mixed [Ent.view 0] [0, 1] [crs ps] (show ConM Try.prog 19 [Value.int IntKind.i64 k, Value.slice (some ⟨0, 0, none⟩) ps.length ps.length] [Blk.cells (crs ps) 0 false] (Value.tuple ⟨[sl A1 ls.length, Value.int IntKind.i64 0]⟩) [Blk.cells (crs ps) 0 false, Blk.cells (crs ls) 10 true] from c_At19S hk he h1 n1) (by kernel_rfl) (by kernel_rfl) (by kernel_rfl) ⟨(by first | exact crs_plains _ | rfl), trivial⟩ ⟨(by first | exact crs_plains _ | rfl), (by first | exact crs_plains _ | rfl), trivial⟩ <|
    R.callP mixed [Ent.view 1] [0, 1] [crs ps.reverse] (show ConM Try.prog 19 [Value.int IntKind.i64 k, Value.slice (some ⟨0, 0, none⟩) ps.reverse.length ps.reverse.length] [Blk.cells (crs ps.reverse) 0 false] (Value.tuple ⟨[sl A1 ms.length, Value.int IntKind.i64 0]⟩) [Blk.cells (crs ps.reverse) 0 false, Blk.cells (crs ms) 10 true] from c_At19S hk (chk_rev he) h2 n2) (by kernel_rfl) (by kernel_rfl) (by kernel_rfl) ⟨(by first | exact crs_plains _ | rfl), trivial⟩ ⟨(by first | exact crs_plains _ | rfl), (by first | exact crs_plains _ | rfl), trivial⟩ <|
    R.cond mixed 23 (bif bif 0 != 0 then true else 0 != 0 then true else (↑ls.length : Int) != (↑ms.length : Int)) false (by simp [hlen]) (by kernel_rfl) <|
    R.at mixed 10 [7, 9, 11] (st := H5E Try.prog Try.f5 k ps ls ms (0 : Nat)) (by kernel_rfl) (back_loop (chk_may he).1 h1 h2 ls.length 0 (by omega))
theorem backN {k : Int} {ps : List Cr} (hk : 0 ≤ k ∧ k ≤ 6) (he : chkE ps = 0) (h1 : atL k ps = []) (h2 : atL k ps.reverse = []) : RunsE Try.prog 5 1 (H5S Try.prog Try.f5 k ps ps.reverse ps.reverse.length (-1)) (.bool true) := by
  exact
    R.callP mixed [Ent.view 0] [0] [crs ps] (show ConM Try.prog 19 [Value.int IntKind.i64 k, Value.slice (some ⟨0, 0, none⟩) ps.length ps.length] [Blk.cells (crs ps) 0 false] (Value.tuple ⟨[Value.slice none 0 0, Value.int IntKind.i64 0]⟩) [Blk.cells (crs ps) 0 false] from c_At19Z hk he h1) (by kernel_rfl) (by kernel_rfl) (by kernel_rfl) ⟨(by first | exact crs_plains _ | rfl), trivial⟩ ⟨(by first | exact crs_plains _ | rfl), trivial⟩ <|
    R.callP mixed [Ent.view 1] [0] [crs ps.reverse] (show ConM Try.prog 19 [Value.int IntKind.i64 k, Value.slice (some ⟨0, 0, none⟩) ps.reverse.length ps.reverse.length] [Blk.cells (crs ps.reverse) 0 false] (Value.tuple ⟨[Value.slice none 0 0, Value.int IntKind.i64 0]⟩) [Blk.cells (crs ps.reverse) 0 false] from c_At19Z hk (chk_rev he) h2) (by kernel_rfl) (by kernel_rfl) (by kernel_rfl) ⟨(by first | exact crs_plains _ | rfl), trivial⟩ ⟨(by first | exact crs_plains _ | rfl), trivial⟩ <|
    R.call mixed (show Con Try.prog 15 [] (Value.bool true) from c_awake15) (by kernel_rfl) <|
    R.finIs mixed Try.func5 (Value.bool true) (by kernel_rfl) (by first | rfl | (exfalso; simp_all; done) | (exfalso; simp_all; omega))

end

section
open Go Go.Dt Go.Proofs Go.Proofs.Ytfkmhhbpomkakaa.Clip Go.Proofs.Ytfkmhhbpomkakaa.Wide
set_option linter.unusedVariables false
set_option linter.unusedSimpArgs false

theorem backA {k : Int} {a : Option Addr} {n : Nat} {c : List Value} (h : k < 0 ∨ 6 < k) : RunsE Try.prog 5 1 (entry Try.f5 [num k, .slice a n n] [.cells c 0 false]) (.bool true) := by
  rcases Decidable.em (k < 0) with h1 | h1
  · exact R.guardIs mixed 10 (decide (k < 0)) true (by simpa using h1) (by kernel_rfl) <| R.call mixed c_awake15 (by kernel_rfl) <| R.fin mixed Try.func5 (by kernel_rfl)
  · exact R.guardIs mixed 10 (decide (k < 0)) false (by simpa using h1) (by kernel_rfl) <| R.guardIs mixed 4 (bif false then true else decide (k > 6)) true (by simp; omega) (by kernel_rfl) <| R.call mixed c_awake15 (by kernel_rfl) <| R.fin mixed Try.func5 (by kernel_rfl)
theorem backB {k e : Int} {ps : List Cr} (hk : 0 ≤ k ∧ k ≤ 6) (he : chkE ps = e) (h0 : e ≠ 0) : RunsE Try.prog 5 1 (entry Try.f5 [num k, sl A0 ps.length] [.cells (crs ps) 0 false]) (.bool true) := by
  exact
    R.guardIs mixed 10 (decide (k < 0)) false (by simp; omega) (by kernel_rfl) <|
    R.guardIs mixed 4 (bif false then true else decide (k > 6)) false (by simp; omega) (by kernel_rfl) <|
    R.callP mixed [Ent.view 0] [] [crs ps] (show ConM Try.prog 20 [Value.slice (some ⟨0, 0, none⟩) ps.length ps.length] [Blk.cells (crs ps) 0 false] (Value.int IntKind.i64 e) [Blk.gone] from c_chk20.val (congrArg num he)) (by kernel_rfl) (by kernel_rfl) (by kernel_rfl) ⟨(by first | exact crs_plains _ | rfl), trivial⟩ trivial <|
    R.cond mixed 3 (bif false then true else e != 0) true (by simpa using h0) (by kernel_rfl) <|
    R.call mixed (show Con Try.prog 15 [] (Value.bool true) from c_awake15) (by kernel_rfl) <|
    R.finIs mixed Try.func5 (Value.bool true) (by kernel_rfl) (by first | rfl | (exfalso; simp_all; done) | (exfalso; simp_all; omega))
theorem backZ {k : Int} (hk : 0 ≤ k ∧ k ≤ 6) : RunsE Try.prog 5 1 (entry Try.f5 [num k, sl A0 0] [.cells [] 0 false]) (.bool true) := by
  have z : ConM Try.prog 19 [num k, sl A0 0] [.cells [] 0 false] (.tuple ⟨[.slice none 0 0, num 0]⟩) (List.replicate 1 .gone) := by
    have h := c_At19Z (ps := []) hk rfl rfl
    exact ⟨h.eq.forget rfl, h.fn⟩
  exact
    R.guardIs mixed 10 (decide (k < 0)) false (by simp; omega) (by kernel_rfl) <|
    R.guardIs mixed 4 (bif false then true else decide (k > 6)) false (by simp; omega) (by kernel_rfl) <|
    R.callP mixed [Ent.view 0] [] [[]] (show ConM Try.prog 20 [Value.slice (some ⟨0, 0, none⟩) 0 0] [Blk.cells [] 0 false] (Value.int IntKind.i64 0) [Blk.gone] from c_chk20 (ps := [])) (by kernel_rfl) (by kernel_rfl) (by kernel_rfl) ⟨(by first | exact crs_plains _ | rfl), trivial⟩ trivial <|
    R.callP mixed [Ent.view 0] [] [[]] (show ConM Try.prog 19 [Value.int IntKind.i64 k, Value.slice (some ⟨0, 0, none⟩) 0 0] [Blk.cells [] 0 false] (Value.tuple ⟨[Value.slice none 0 0, Value.int IntKind.i64 0]⟩) [Blk.gone] from (by first | exact z | exact c_At19nil hk)) (by kernel_rfl) (by kernel_rfl) (by kernel_rfl) ⟨(by first | exact crs_plains _ | rfl), trivial⟩ trivial <|
    R.callP mixed [Ent.view 0] [] [[]] (show ConM Try.prog 19 [Value.int IntKind.i64 k, Value.slice none 0 0] [Blk.cells [] 0 false] (Value.tuple ⟨[Value.slice none 0 0, Value.int IntKind.i64 0]⟩) [Blk.gone] from (by first | exact z | exact c_At19nil hk)) (by kernel_rfl) (by kernel_rfl) (by kernel_rfl) ⟨(by first | exact crs_plains _ | rfl), trivial⟩ trivial <|
    R.call mixed (show Con Try.prog 15 [] (Value.bool true) from c_awake15) (by kernel_rfl) <|
    R.finIs mixed Try.func5 (Value.bool true) (by kernel_rfl) (by first | rfl | (exfalso; simp_all; done) | (exfalso; simp_all; omega))
theorem backNil {k : Int} (hk : 0 ≤ k ∧ k ≤ 6) : RunsE Try.prog 5 1 (entry Try.f5 [num k, sl none 0] [.cells [] 0 false]) (.bool true) := by
  exact
    R.guardIs mixed 10 (decide (k < 0)) false (by simp; omega) (by kernel_rfl) <|
    R.guardIs mixed 4 (bif false then true else decide (k > 6)) false (by simp; omega) (by kernel_rfl) <|
    R.callP mixed [Ent.view 0] [] [[]] (show ConM Try.prog 20 [Value.slice none 0 0] [Blk.cells [] 0 false] (Value.int IntKind.i64 0) [Blk.gone] from c_chk20N) (by kernel_rfl) (by kernel_rfl) (by kernel_rfl) ⟨(by first | exact crs_plains _ | rfl), trivial⟩ trivial <|
    R.callP mixed [Ent.view 0] [] [[]] (show ConM Try.prog 19 [Value.int IntKind.i64 k, Value.slice none 0 0] [Blk.cells [] 0 false] (Value.tuple ⟨[Value.slice none 0 0, Value.int IntKind.i64 0]⟩) [Blk.gone] from c_At19nil hk) (by kernel_rfl) (by kernel_rfl) (by kernel_rfl) ⟨(by first | exact crs_plains _ | rfl), trivial⟩ trivial <|
    R.callP mixed [Ent.view 0] [] [[]] (show ConM Try.prog 19 [Value.int IntKind.i64 k, Value.slice none 0 0] [Blk.cells [] 0 false] (Value.tuple ⟨[Value.slice none 0 0, Value.int IntKind.i64 0]⟩) [Blk.gone] from c_At19nil hk) (by kernel_rfl) (by kernel_rfl) (by kernel_rfl) ⟨(by first | exact crs_plains _ | rfl), trivial⟩ trivial <|
    R.call mixed (show Con Try.prog 15 [] (Value.bool true) from c_awake15) (by kernel_rfl) <|
    R.finIs mixed Try.func5 (Value.bool true) (by kernel_rfl) (by first | rfl | (exfalso; simp_all; done) | (exfalso; simp_all; omega))
theorem backOK {k : Int} {ps : List Cr} (hk : 0 ≤ k ∧ k ≤ 6) (he : chkE ps = 0) (hne : ps ≠ []) : RunsE Try.prog 5 1 (entry Try.f5 [num k, sl A0 ps.length] [.cells (crs ps) 0 false]) (.bool true) := by
  have hn := (chk_may he).1
  have hp : 0 < ps.length := List.length_pos_iff.mpr hne
  obtain ⟨m, hm⟩ : ∃ m, m + 1 = ps.length := ⟨ps.length - 1, by omega⟩
  have hlen : (atL k ps.reverse).length = (atL k ps).length := by
    have h := at_count k (fun _ => true) ps
    simpa [List.countP_true] using h
  have fin : RunsE Try.prog 5 1 (H5S Try.prog Try.f5 k ps ps.reverse ps.reverse.length (-1)) (.bool true) := by
    cases h1 : atL k ps with
    | nil =>
      rw [h1] at hlen
      exact backN hk he h1 (List.eq_nil_of_length_eq_zero hlen)
    | cons c l =>
      rw [h1] at hlen
      exact backS hk he h1 rfl (by simp) (fun h => by rw [h] at hlen; cases hlen)
  have go1 := rev_all hne hn fin hm
  rw [show (m : Int) = IntKind.i64.wrap ((ps.length : Int) - 1) by rw [wrap_i64_of (by omega) (by omega)]; omega] at go1
  exact
    R.guardIs mixed 10 (decide (k < 0)) false (by simp; omega) (by kernel_rfl) <|
    R.guardIs mixed 4 (bif false then true else decide (k > 6)) false (by simp; omega) (by kernel_rfl) <|
    R.callP mixed [Ent.view 0] [] [crs ps] (show ConM Try.prog 20 [Value.slice (some ⟨0, 0, none⟩) ps.length ps.length] [Blk.cells (crs ps) 0 false] (Value.int IntKind.i64 0) [Blk.gone] from c_chk20.val (congrArg num he)) (by kernel_rfl) (by kernel_rfl) (by kernel_rfl) ⟨(by first | exact crs_plains _ | rfl), trivial⟩ trivial <|
    R.at mixed 21 [0, 1, 5, 6] (st := H5N Try.prog Try.f5 k ps (IntKind.i64.wrap ((ps.length : Int) - 1))) (by kernel_rfl) go1
theorem back_ (k : Int) (nil : Bool) (n : Nat) (f : Nat → Int) (hnil : nil = true → n = 0) (hn' : n ≤ maxLen) : FnEq Try.prog 5 [num k, slc nil 0 n] [.cells (row (n * 10) f) 0 false] (.bool true) (List.replicate 1 .gone) := by
  refine FnEq.runRO Try.func5 rfl rfl ?_
  rw [mkCrs_row]
  cases nil with
  | true =>
    have := hnil rfl
    subst this
    rcases Decidable.em (k < 0 ∨ 6 < k) with h | h
    · exact backA h
    · exact backNil (by omega)
  | false =>
    have hl := mkCrs_length n f
    generalize mkCrs n f = ps at hl
    subst hl
    rcases Decidable.em (k < 0 ∨ 6 < k) with h | h
    · exact backA h
    · have hk : 0 ≤ k ∧ k ≤ 6 := by omega
      rcases Decidable.em (chkE ps = 0) with he | he
      · cases ps with
        | nil => exact backZ hk
        | cons c l => exact backOK hk he (by simp)
      · exact backB hk rfl he

end

end Go.Proofs.Ytfkmhhbpomkakaa.Pol
