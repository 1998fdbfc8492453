/- Operations: the rest of the appends, slices made; all of them reckoned. -/
import Derived.Test.YtjfodgjgpeiaaaaDtB
namespace Go.Dt
open Go.Instr

section
variable {P : Program} {o : Oper} {a : List Value} {m : List Blk}

/-- Makes a new row of cells, and reads others; it may draw. -/
theorem OpOk.makesR {v : Value} {c : List Value} {sz : Nat} {rd : List Nat} (hrd : ∀ x, x ∈ rd → x < m.length)
    (h : ∀ (ι : Map) (t : Array Value) (w : World), (∀ x, x ∈ slotsOf o → RV ι (a.getD x undef) (t.getD x undef)) → (∀ b, b ∈ rd → BlkOk ι w b (m.getD b .gone)) → FroOk ι w →
      ∃ v' cr e n, c.length ≤ cr.size ∧ (∀ i, i < c.length → RV ι (c.getD i undef) (cr.getD i undef)) ∧
        (∀ ι', Le ι ι' → ι' m.length = some ⟨w.heap.size, 0, cr.size, sz, false⟩ → RV ι' v v') ∧
        (execOp (act t).eval o).run P w = .ok (.value v') { w with heap := w.heap.push (.cells cr e), drawn := n }) :
    OpOk P o a m v (m ++ [.cells c sz true]) ⟨rd, []⟩ where
  len := by simp
  sub := by simp
  rdlt := hrd
  same := fun b hb _ => getD_append_old _ _ hb
  run := fun ι t w hs hdom hsim next Q hn => by
    have hall : ∀ x, x ∈ rd → BlkOk ι w x (m.getD x .gone) := fun x hx => by have := hsim.blk x; simpa [Cont.only, isIn, hx, at_] using this
    obtain ⟨v', cr, e, n, h1, h2, h3, hr⟩ := h ι t w hs hall hsim.fro
    have hι : ι m.length = none := hdom m.length (Nat.le_refl _) (by simp)
    have hlen : (m ++ [Blk.cells c sz true]).length = m.length + 1 := by simp
    have hsub : ((at_ m).only (isIn rd)).only (isIn []) = (at_ m).only (isIn []) := by
      funext x; simp [Cont.only, isIn]
    obtain ⟨k1, k2, k3⟩ := new_row (w := w) (e := e) (sz := sz) (by rw [← hsub]; exact hsim.only _) hι h1 h2
    have := Sim.frame (C := (at_ m).only (isIn rd)) (C' := at_ (m ++ [.cells c sz true])) (D := (at_ (m ++ [.cells c sz true])).only (tch rd m.length (m ++ [Blk.cells c sz true]).length)) (R := isIn [])
      (T := tch [] m.length (m ++ [Blk.cells c sz true]).length) hsim (fun x hx => by simp [isIn] at hx) (by rw [hsub]; exact k1) k2 (fun x => by
        by_cases hx : x = m.length
        · subst hx
          have h1 : tch rd m.length (m ++ [Blk.cells c sz true]).length m.length = true := by simp [tch]
          have h2 : tch [] m.length (m ++ [Blk.cells c sz true]).length m.length = true := by simp [tch]
          simp only [Cont.only, h1, h2, if_true]
        · have h2 : tch [] m.length (m ++ [Blk.cells c sz true]).length x = false := by
            simp only [tch, hlen, List.contains_nil, Bool.false_or, Bool.and_eq_false_iff, decide_eq_false_iff_not]
            omega
          simp only [h2, Bool.false_eq_true, if_false]
          unfold Cont.only isIn
          by_cases hr : x ∈ rd
          · have h1 : tch rd m.length (m ++ [Blk.cells c sz true]).length x = true := by simp [tch, hr]
            rw [if_pos h1, if_pos (by simpa using hr)]
            exact getD_append_old _ _ (hrd x hr)
          · have h1 : tch rd m.length (m ++ [Blk.cells c sz true]).length x = false := by
              simp only [tch, hlen, Bool.or_eq_false_iff, Bool.and_eq_false_iff, decide_eq_false_iff_not, List.contains_eq_mem]
              exact ⟨hr, by omega⟩
            rw [h1, if_neg (by simp), if_neg (by simpa using hr)])
    have hE := this.2
    have hS := this.1
    exact wp_of_value hr (hn v' _ _ (h3 _ (upd_le hι) (upd_self _ _ _)) ⟨hE.le, hE.size, hE.os, hE.tape, hE.output, hE.frame, hE.own, hE.live, hE.fro⟩ ⟨hS.blk, hS.sep, hS.fro, hS.apart⟩ k3)

/-- An append onto nil. -/
theorem OpOk.appendNil {t tx e : TypeId} {s x : Operand} {i : TypeInfo} {z : Value} {n : Nat} {vs : List Value} {rd : List Nat} (ho : o.op = .call { callee := .builtin .append, args := #[s, x], argTypes := #[t, tx] }) (hcs : okConst s = true) (hcx : okConst x = true)
    (hs : evalC a s = .slice none 0 0) (hn : 0 < n) (hu : P.underlying t = some (.slice e)) (hk : (∃ e', P.underlying tx = some (.slice e')) ∨ P.underlying tx = some .string)
    (hi : P.info? e = some i) (hz : i.zero = some z) (hzs : z.cells.size = i.size) (h63 : n ≤ 9223372036854775807) (hby : 2 * n * i.bytes ≤ 281474976710656) (hx : SrcC P a m i.size x n vs rd) :
    OpOk P o a m (.slice (some ⟨m.length, 0, none⟩) n n) (m ++ [.cells vs i.size true]) ⟨rd, []⟩ :=
  OpOk.makesR hx.rdlt fun ι tt w hsl hbl hfro => by
    have hrs := rv_operand hsl (x := s) (by rw [ho]; simp [Op.operands, Call.operands]) hcs
    rw [hs] at hrs
    obtain ⟨news, hsrc, hlen, hrv⟩ := hx.real (tx := tx) hcx (by rw [ho]; simp [Op.operands, Call.operands]) hk hsl hbl hfro
    have hvl := hx.len
    generalize hy : (act tt).eval s = y at hrs
    cases hrs
    have hnc : Builtin.nextslicecap (0 + n) 0 * i.bytes ≤ 281474976710656 := by
      have := nextslicecap_le (need := 0 + n) (old := 0) (by omega)
      exact Nat.le_trans (Nat.mul_le_mul_right _ this) (by simpa using hby)
    have hrun := run_append_grow_src (P := P) w t tx o.type e i z hu hi hz none 0 0 [] (by simp [Builtin.firstCells]) ((act tt).eval x) n news hsrc (by omega) (by omega) hnc
    rw [← hy] at hrun
    have hge := grownCap_ge w (0 + n) 0 e
    generalize hgc : grownCap w (0 + n) 0 e = G at hrun hge
    rw [Nat.zero_add] at hge
    have hzc : (Builtin.zeroCells z.cells (G - (0 + n))).size = (G - n) * i.size := by simp [Builtin.zeroCells, hzs]
    have hcrs : (([] ++ news).toArray ++ Builtin.zeroCells z.cells (G - (0 + n))).size = G * i.size := by
      have e2 : G * i.size = n * i.size + (G - n) * i.size := by rw [← Nat.add_mul]; congr 1; omega
      simp only [Array.size_append, hzc, List.size_toArray, List.nil_append]
      omega
    refine ⟨_, ([] ++ news).toArray ++ Builtin.zeroCells z.cells (G - (0 + n)), e, w.drawn + 1, ?_, fun j hj => ?_, fun ι' hle hι' => ?_, run_append_call ho hrun⟩
    · rw [hcrs, hvl]; exact Nat.mul_le_mul_right _ hge
    · have : (([] ++ news).toArray ++ Builtin.zeroCells z.cells (G - (0 + n))).getD j undef = news.getD j undef := by
        have hlt : j < news.length := by omega
        simp only [Array.getD_eq_getD_getElem?]
        rw [Array.getElem?_append_left (by simpa using hlt)]
        simp [List.getD_eq_getElem?_getD]
      rw [this]
      exact hrv j hj
    · have := RV.slice (o := 0) (l := n) hι' hge (fun _ _ => by simp only [hcrs]; omega)
      simpa using this

/-- make. -/
theorem OpOk.makeSlice {t e : TypeId} {x y : Operand} {i : TypeInfo} {z : Value} {kl kc : IntKind} {l c : Int} {cs : List Value} (ho : o.op = .makeSlice t x y) (hcx : okConst x = true) (hcy : okConst y = true) (hx : evalC a x = .int kl l) (hy : evalC a y = .int kc c)
    (hu : P.underlying t = some (.slice e)) (hi : P.info? e = some i) (hz : i.zero = some z) (h0 : 0 ≤ l) (hlc : l ≤ c) (hby : (i.bytes : Int) * c ≤ 281474976710656) (h63 : c ≤ 9223372036854775807)
    (hcl : cs.length = c.toNat * i.size) (hzp : plains z.cells.toList = true) (hcs : ∀ j, j < cs.length → cs.getD j undef = z.cells.getD (j % z.cells.size) undef) (hz0 : 0 < z.cells.size) :
    OpOk P o a m (.slice (some ⟨m.length, 0, none⟩) l.toNat c.toNat) (m ++ [.cells cs i.size true]) ⟨[], []⟩ :=
  OpOk.makesR (by simp) fun ι tt w hsl _ _ => by
    have h1 := rv_operand hsl (x := x) (by rw [ho]; simp [Op.operands]) hcx
    have h2 := rv_operand hsl (x := y) (by rw [ho]; simp [Op.operands]) hcy
    rw [hx] at h1
    rw [hy] at h2
    have hrun := run_make (P := P) w t e i z hu hi hz kl kc l c h0 hlc hby h63
    refine ⟨.slice (some ⟨w.heap.size, 0, none⟩) l.toNat c.toNat, madeCells z.cells (c.toNat * i.size), e, w.drawn, by simp [madeCells, hcl], fun j hj => ?_, fun ι' hle hι' => ?_, ?_⟩
    · rw [hcs j hj]
      have hlt : j % z.cells.size < z.cells.size := Nat.mod_lt _ hz0
      have : (madeCells z.cells (c.toNat * i.size)).getD j undef = z.cells.getD (j % z.cells.size) undef := by
        have hj' : j < c.toNat * i.size := by omega
        simp [madeCells, hj', hlt]
      rw [this]
      have := RV.refl ι _ (plains_get hzp (i := j % z.cells.size) (by simpa using hlt))
      simpa [List.getD_eq_getElem?_getD] using this
    · have := RV.slice (o := 0) (l := l.toNat) hι' (Nat.le_refl c.toNat) (by simp)
      simpa using this
    · unfold execOp; rw [ho]
      simp only [h1.int_inv, h2.int_inv, Sem.run_bind, hrun, Result.andThen_ok, Sem.run_pure]
      rfl

/-- copy. -/
theorem OpOk.copy {t tx e : TypeId} {d x : Operand} {b off l cap n size sz : Nat} {c vs : List Value} {rd : List Nat} (ho : o.op = .call { callee := .builtin .copy, args := #[d, x], argTypes := #[t, tx] }) (hcd : okConst d = true) (hcx : okConst x = true)
    (hd : evalC a d = .slice (some ⟨b, off, none⟩) l cap) (hb : m[b]? = some (.cells c sz true)) (hfit : off + Nat.min n l * size ≤ c.length) (hu : P.underlying t = some (.slice e)) (hk : (∃ e', P.underlying tx = some (.slice e')) ∨ P.underlying tx = some .string)
    (hz : szC P e = some size) (hx : SrcC P a m size x n vs rd) (hns : ∀ s, evalC a x ≠ .string s) :
    OpOk P o a m (.int .i64 (Nat.min n l)) (m.set b (.cells (splice c off (vs.take (Nat.min n l * size))) sz true)) ⟨b :: rd, [b]⟩ := by
  have hblt : b < m.length := (List.getElem?_eq_some_iff.1 hb).1
  have hvl := hx.len
  have hmul : Nat.min n l * size ≤ n * size := Nat.mul_le_mul_right _ (Nat.min_le_left _ _)
  have htl : (vs.take (Nat.min n l * size)).length = Nat.min n l * size := by simp; omega
  refine OpOk.writesR (c := c) (by simp [List.getD_eq_getElem?_getD, hb]) hblt (by simp) (fun y hy => ?_) fun ι tt w L c' te hsl hbl hfro hL hh hroom' hsz hfit' hcells => ?_
  · simp at hy
    rcases hy with rfl | hy
    · exact hblt
    · exact hx.rdlt y hy
  · have hrs := rv_operand hsl (x := d) (by rw [ho]; simp [Op.operands, Call.operands]) hcd
    rw [hd] at hrs
    obtain ⟨news, hsrc, hlen, hrv, htake⟩ := hx.real2 (tx := tx) hcx (by rw [ho]; simp [Op.operands, Call.operands]) hk hsl (fun y hy => hbl y (by simp [hy])) hfro
    have hnl : (news.take (Nat.min n l * size)).length = Nat.min n l * size := by simp; omega
    have hf1 : off + (vs.take (Nat.min n l * size)).length ≤ c.length := by omega
    have hf2 : L.off + off + (news.take (Nat.min n l * size)).length ≤ c'.toList.length := by simp only [Array.length_toList]; omega
    have cells : ∀ k, k ≤ n → (Builtin.firstCells size k ((act tt).eval x)).run P w = .ok (news.take (k * size)).toArray w := fun k hkn => htake hns k hkn
    have hgo : ∃ base : Option Addr, (∃ cap', (act tt).eval d = .slice base l cap') ∧ (Nat.min n l = 0 ∨ base = some ⟨L.blk, L.off + off, none⟩) ∧ base.isSome = true := by
      generalize (act tt).eval d = y at hrs
      cases hrs with
      | slice0 p q => exact ⟨_, ⟨0, rfl⟩, .inl (Nat.min_eq_right (Nat.zero_le _)), rfl⟩
      | slice hL2 _ _ => rw [hL] at hL2; cases hL2; exact ⟨_, ⟨_, rfl⟩, .inr rfl, rfl⟩
    obtain ⟨base, ⟨cap', hy⟩, hbase, hsome⟩ := hgo
    have hst := run_storeCells (P := P) (w := w) (g := L.blk) (off := L.off + off) (vs := news.take (Nat.min n l * size)) hh (by simpa using hf2) (fun u hu => hsrc.one u (List.mem_of_mem_take hu))
    have hmin : Nat.min n l ≤ n := Nat.min_le_left _ _
    refine ⟨(splice c'.toList (L.off + off) (news.take (Nat.min n l * size))).toArray, by simpa using splice_length hf2, by rw [splice_length hf1]; exact hfit', fun j hj => ?_, _, ?_, .int _ _⟩
    · rw [splice_length hf1] at hj
      have g1 := splice_get hf1 j undef
      have g2 := splice_get hf2 (L.off + j) undef
      have g3 : (splice c'.toList (L.off + off) (news.take (Nat.min n l * size))).toArray.getD (L.off + j) undef = (splice c'.toList (L.off + off) (news.take (Nat.min n l * size))).getD (L.off + j) undef := by simp [List.getD_eq_getElem?_getD]
      rw [g1, g3, g2, htl, hnl]
      by_cases hin : off ≤ j ∧ j < off + Nat.min n l * size
      · rw [if_pos hin, if_pos (by omega)]
        have := hrv (j - off) (by omega)
        rw [show L.off + j - (L.off + off) = j - off by omega]
        have h1 : (vs.take (Nat.min n l * size)).getD (j - off) undef = vs.getD (j - off) undef := by simp [List.getD_eq_getElem?_getD, List.getElem?_take_of_lt (show j - off < Nat.min n l * size by omega)]
        have h2 : (news.take (Nat.min n l * size)).getD (j - off) undef = news.getD (j - off) undef := by simp [List.getD_eq_getElem?_getD, List.getElem?_take_of_lt (show j - off < Nat.min n l * size by omega)]
        rw [h1, h2]; exact this
      · rw [if_neg hin, if_neg (by omega)]
        have := hcells j hj
        simpa [List.getD_eq_getElem?_getD] using this
    · unfold execOp; rw [ho]
      have hlenof := hsrc.len w
      obtain ⟨ad, rfl⟩ := Option.isSome_iff_exists.1 hsome
      have hst' : (storeCells ad (news.take (Nat.min n l * size))).run P w = .ok () { w with heap := w.heap.setIfInBounds L.blk (.cells (splice c'.toList (L.off + off) (news.take (Nat.min n l * size))).toArray te (0, 0)) } := by
        rcases hbase with h0 | h0
        · have e0 : news.take (Nat.min n l * size) = [] := by rw [h0]; simp
          rw [e0]
          have e1 : (splice c'.toList (L.off + off) ([] : List Value)).toArray = c' := by simp [splice]
          rw [e1]
          have e2 : w.heap.setIfInBounds L.blk (.cells c' te (0, 0)) = w.heap := by
            apply Array.ext_getElem?
            intro k
            rw [Array.getElem?_setIfInBounds]
            have hlt := (Array.getElem?_eq_some_iff.1 hh).1
            by_cases hk : L.blk = k
            · subst hk; rw [if_pos rfl, if_pos hlt, hh]
            · rw [if_neg hk]
          rw [e2]
          rfl
        · cases h0; exact hst
      have hmin2 : min n l = Nat.min n l := rfl
      simp [resolve, invoke, builtin, Builtin.copy_, hy, run_underlying hu w, hlenof, run_szC hz w, cells _ hmin, hst', goInt]

/-! ### All of them, reckoned -/
def srcD (size : Nat) (a : List Value) (m : List Blk) (x : Operand) : Option (Nat × List Value × List Nat) :=
  match evalC a x with
  | .slice (some ⟨b, off, none⟩) n _ => match m[b]? with
    | some (.cells c _ _) => if Nat.ble (off + n * size) c.length then (if ((c.drop off).take (n * size)).all one then some (n, (c.drop off).take (n * size), [b]) else none) else none
    | _ => none
  | .slice none 0 _ => some (0, [], [])
  | _ => none

theorem srcD_ok {size n : Nat} {x : Operand} {vs : List Value} {rd : List Nat} (h : srcD size a m x = some (n, vs, rd)) : SrcC P a m size x n vs rd := by
  unfold srcD at h
  split at h
  · rename_i b off n' cap hx
    split at h
    · rename_i c sz rw_ hb
      split at h
      · rename_i hle
        split at h
        · rename_i hone
          cases h
          exact .sl hx hb (Nat.le_of_ble_eq_true hle) hone
        · cases h
      · cases h
    · cases h
  · rename_i hx; cases h; exact .nil hx
  · cases h

def isSliceT (P : Program) (t : TypeId) : Bool := match P.underlying t with
  | some (.slice _) => true
  | _ => false

def appendD (P : Program) (s x : Operand) (t tx : TypeId) (a : List Value) (m : List Blk) : Option Out :=
  if okConst s && okConst x && isSliceT P tx then match P.underlying t with
    | some (.slice e) => match P.info? e with
      | some i => match i.zero with
        | some z => if Nat.beq z.cells.size i.size then match srcD i.size a m x with
            | some (n, vs, rd) => match n with
              | 0 => match vs, evalC a s with
                | [], .slice base l cap => if Nat.ble l cap then some (.slice base l cap, m, ⟨rd, []⟩) else none
                | _, _ => none
              | n' + 1 => if Nat.ble (2 * (n' + 1) * i.bytes) 281474976710656 && Nat.ble (n' + 1) 9223372036854775807 then match evalC a s with
                | .slice none 0 0 => fvl vs fun vs => some (.slice (some ⟨m.length, 0, none⟩) (n' + 1) (n' + 1), m ++ [.cells vs i.size true], ⟨rd, []⟩)
                | .slice (some ⟨b, off, none⟩) l cap => match m[b]? with
                  | some (.cells c sz true) => if Nat.ble (l + (n' + 1)) cap then
                      if Nat.ble (off + (l + (n' + 1)) * i.size) c.length then fvl (splice c (off + l * i.size) vs) fun c' => some (.slice (some ⟨b, off, none⟩) (l + (n' + 1)) cap, m.set b (.cells c' sz true), ⟨b :: rd, [b]⟩) else none
                    else if Nat.beq l cap && Nat.beq sz i.size && Nat.ble (off + l * i.size) c.length && Nat.ble (2 * (l + (n' + 1)) * i.bytes) 281474976710656 && Nat.ble (l + (n' + 1)) 9223372036854775807 then
                      fvl ((c.drop off).take (l * i.size) ++ vs) fun c' => some (.slice (some ⟨m.length, 0, none⟩) (l + (n' + 1)) (l + (n' + 1)), m.set b .gone ++ [.cells c' i.size true], ⟨b :: rd, [b]⟩)
                    else none
                  | _ => none
                | _ => none
              else none
            | none => none
          else none
        | none => none
      | none => none
    | _ => none
  else none

def copyD (P : Program) (d x : Operand) (t tx : TypeId) (a : List Value) (m : List Blk) : Option Out :=
  if okConst d && okConst x && isSliceT P tx then match P.underlying t with
    | some (.slice e) => match szC P e with
      | some size => match srcD size a m x with
        | some (n, vs, rd) => match evalC a d with
          | .slice (some ⟨b, off, none⟩) l _ => match m[b]? with
            | some (.cells c sz true) => if Nat.ble (off + Nat.min n l * size) c.length then
                fvl (splice c off (vs.take (Nat.min n l * size))) fun c' => some (.int .i64 (Nat.min n l), m.set b (.cells c' sz true), ⟨b :: rd, [b]⟩) else none
            | _ => none
          | _ => none
        | none => none
      | none => none
    | _ => none
  else none

def repL (n : Nat) (z : List Value) : List Value := match n with
  | 0 => []
  | n + 1 => z ++ repL n z

theorem repL_length (z : List Value) : ∀ n, (repL n z).length = n * z.length
  | 0 => by simp [repL]
  | n + 1 => by rw [repL, List.length_append, repL_length z n, Nat.add_mul]; omega

theorem repL_get (z : List Value) (hz : 0 < z.length) : ∀ n j, j < (repL n z).length → (repL n z).getD j undef = z.getD (j % z.length) undef
  | 0, j, h => by simp [repL] at h
  | n + 1, j, h => by
    simp only [repL, List.getD_eq_getElem?_getD]
    by_cases hj : j < z.length
    · rw [List.getElem?_append_left hj, Nat.mod_eq_of_lt hj]
    · rw [List.getElem?_append_right (by omega)]
      have := repL_get z hz n (j - z.length) (by rw [repL, List.length_append] at h; omega)
      rw [List.getD_eq_getElem?_getD, List.getD_eq_getElem?_getD] at this
      rw [this, Nat.mod_eq_sub_mod (a := j) (by omega)]

def boundD (a : List Value) (x : Option Operand) (d : Nat) : Option (Nat × IntKind) :=
  match x with
  | none => some (d, .i64)
  | some y => if okConst y then match evalC a y with
      | .int k (.ofNat n) => some (n, k)
      | _ => none
    else none

def eqD (P : Program) (neq : Bool) (t : TypeId) (x y : Operand) (a : List Value) (m : List Blk) : Option Out :=
  match evalC a x, evalC a y with
  | .agg xs, .agg ys => if plainOperand a x && plainOperand a y && !P.eqGuardType P.depth t then match eqC P 10000 t (.agg xs) (.agg ys) with
      | some r => some (.bool (bif neq then !r else r), m, ⟨[], []⟩)
      | none => none
    else none
  | _, _ => none

def opE (P : Program) (o : Oper) (a : List Value) (m : List Blk) : Option Out :=
  match o.op with
  | .binOp .eql t x y _ => eqD P false t x y a m
  | .binOp .neq t x y _ => eqD P true t x y a m
  | .buildSlice t len ps => if ps.toList.all (fun p => okConst p.2) && ps.toList.all (fun p => notTuple (evalC a p.2)) then match bsCells P t len (partsC a ps) with
      | some (size, cs) => fvl cs.toList fun c => some (.slice (some ⟨m.length, 0, none⟩) len len, m ++ [.cells c size true], ⟨[], []⟩)
      | none => none
    else none
  | .slice t x lo hi none => if okConst x then match evalC a x with
      | .slice (some ⟨b, off, none⟩) len cap => match m[b]?, P.underlying t with
        | some (.cells _ sz rw_), some (.slice e) => match szC P e, boundD a lo 0, boundD a hi len with
          | some size, some (l, _), some (h, _) => if (!rw_ || Nat.beq sz size) && Nat.ble l h && Nat.ble h cap then some (.slice (some ⟨b, off + l * size, none⟩) (h - l) (cap - l), m, ⟨[b], []⟩) else none
          | _, _, _ => none
        | _, _ => none
      | .pointer (some ⟨b, off, none⟩) => match P.underlying t with
        | some (.array n e) => match szC P e, boundD a lo 0, boundD a hi n with
          | some size, some (l, _), some (h, _) => if Nat.ble l h && Nat.ble h n && Nat.blt l n then some (.slice (some ⟨b, off + l * size, none⟩) (h - l) (n - l), m, ⟨[], []⟩) else none
          | _, _, _ => none
        | _ => none
      | _ => none
    else none
  | .makeSlice t x y => if okConst x && okConst y then match evalC a x, evalC a y with
      | .int _ (.ofNat l), .int _ (.ofNat c) => match P.underlying t with
        | some (.slice e) => match P.info? e with
          | some i => match i.zero with
            | some z => if Nat.ble l c && Nat.ble (i.bytes * c) 281474976710656 && Nat.ble c 9223372036854775807 && plains z.cells.toList && Nat.beq z.cells.toList.length i.size && Nat.blt 0 i.size then
                fvl (repL c z.cells.toList) fun cs => some (.slice (some ⟨m.length, 0, none⟩) l c, m ++ [.cells cs i.size true], ⟨[], []⟩) else none
            | none => none
          | none => none
        | _ => none
      | _, _ => none
    else none
  | .call c => match c.callee with
      | .builtin .append => match c.args.toList, c.argTypes.toList with
        | [s, x], [t, tx] => appendD P s x t tx a m
        | _, _ => none
      | .builtin .copy => match c.args.toList, c.argTypes.toList with
        | [s, x], [t, tx] => copyD P s x t tx a m
        | _, _ => none
      | _ => none
  | _ => none

theorem appendD_ok {c : Call} {s x : Operand} {t tx : TypeId} {v : Value} {m' : List Blk} {fp : Fp} (ho : o.op = .call c) (hcal : c.callee = .builtin .append) (h1 : c.args.toList = [s, x]) (h2 : c.argTypes.toList = [t, tx])
    (h : appendD P s x t tx a m = some (v, m', fp)) : OpOk P o a m v m' fp := by
  have hc' : c = { callee := .builtin .append, args := #[s, x], argTypes := #[t, tx] } := by
    obtain ⟨callee, args, argTypes⟩ := c
    simp only at hcal h1 h2
    subst hcal
    have e1 : args = #[s, x] := by rw [← Array.toArray_toList (xs := args), h1]
    have e2 : argTypes = #[t, tx] := by rw [← Array.toArray_toList (xs := argTypes), h2]
    rw [e1, e2]
  rw [hc'] at ho
  unfold appendD at h
  split at h
  · rename_i hc
    simp only [Bool.and_eq_true] at hc
    have hk : (∃ e', P.underlying tx = some (.slice e')) ∨ P.underlying tx = some .string := by
      have := hc.2
      unfold isSliceT at this
      split at this
      · rename_i e' he; exact .inl ⟨e', he⟩
      · cases this
    split at h
    · rename_i e hu
      split at h
      · rename_i i hi
        split at h
        · rename_i z hz
          split at h
          · rename_i hzs
            have hzs := Nat.eq_of_beq_eq_true hzs
            split at h
            · rename_i n vs rd hsrc
              have hs := srcD_ok (P := P) hsrc
              split at h
              · split at h
                · rename_i hev
                  split at h
                  · rename_i hle
                    cases h
                    exact OpOk.append0 ho hc.1.1 hc.1.2 hev (Nat.le_of_ble_eq_true hle) hu hk hi hs
                  · cases h
                · cases h
              · rename_i n'
                split at h
                · rename_i hby
                  rw [Bool.and_eq_true] at hby
                  split at h
                  · rename_i hev
                    rw [fvl_eq] at h
                    cases h
                    exact OpOk.appendNil ho hc.1.1 hc.1.2 hev (Nat.succ_pos _) hu hk hi hz hzs (Nat.le_of_ble_eq_true hby.2) (Nat.le_of_ble_eq_true hby.1) hs
                  · rename_i b off l cap hev
                    split at h
                    · rename_i c0 sz hb
                      split at h
                      · rename_i hroom
                        split at h
                        · rename_i hfit
                          rw [fvl_eq] at h
                          cases h
                          exact OpOk.appendRoom ho hc.1.1 hc.1.2 hev hb (Nat.le_of_ble_eq_true hroom) (Nat.succ_pos _) (Nat.le_of_ble_eq_true hfit) hu hk hi hs
                        · cases h
                      · split at h
                        · rename_i hcond
                          simp only [Bool.and_eq_true] at hcond
                          rw [fvl_eq] at h
                          cases h
                          have h1 := Nat.eq_of_beq_eq_true hcond.1.1.1.1
                          have h2 := Nat.eq_of_beq_eq_true hcond.1.1.1.2
                          subst h1; subst h2
                          exact OpOk.appendGrow ho hc.1.1 hc.1.2 hev hb (Nat.succ_pos _) (Nat.le_of_ble_eq_true hcond.1.1.2) hu hk hi hz hzs (Nat.le_of_ble_eq_true hcond.2) (Nat.le_of_ble_eq_true hcond.1.2) hs
                        · cases h
                    · cases h
                  · cases h
                · cases h
            · cases h
          · cases h
        · cases h
      · cases h
    · cases h
  · cases h

theorem copyD_ok {c : Call} {s x : Operand} {t tx : TypeId} {v : Value} {m' : List Blk} {fp : Fp} (ho : o.op = .call c) (hcal : c.callee = .builtin .copy) (h1 : c.args.toList = [s, x]) (h2 : c.argTypes.toList = [t, tx])
    (h : copyD P s x t tx a m = some (v, m', fp)) : OpOk P o a m v m' fp := by
  have hc' : c = { callee := .builtin .copy, args := #[s, x], argTypes := #[t, tx] } := by
    obtain ⟨callee, args, argTypes⟩ := c
    simp only at hcal h1 h2
    subst hcal
    have e1 : args = #[s, x] := by rw [← Array.toArray_toList (xs := args), h1]
    have e2 : argTypes = #[t, tx] := by rw [← Array.toArray_toList (xs := argTypes), h2]
    rw [e1, e2]
  rw [hc'] at ho
  unfold copyD at h
  split at h
  · rename_i hc
    simp only [Bool.and_eq_true] at hc
    have hk : (∃ e', P.underlying tx = some (.slice e')) ∨ P.underlying tx = some .string := by
      have := hc.2
      unfold isSliceT at this
      split at this
      · rename_i e' he; exact .inl ⟨e', he⟩
      · cases this
    split at h
    · rename_i e hu
      split at h
      · rename_i size hz
        split at h
        · rename_i n vs rd hsrc
          have hs := srcD_ok (P := P) hsrc
          split at h
          · rename_i b off l cap hev
            split at h
            · rename_i c0 sz hb
              split at h
              · rename_i hle
                rw [fvl_eq] at h
                cases h
                refine OpOk.copy ho hc.1.1 hc.1.2 hev hb (Nat.le_of_ble_eq_true hle) hu hk hz hs (fun str hstr => ?_)
                unfold srcD at hsrc
                rw [hstr] at hsrc
                cases hsrc
              · cases h
            · cases h
          · cases h
        · cases h
      · cases h
    · cases h
  · cases h

theorem boundD_ok {x : Option Operand} {d n : Nat} {k : IntKind} (h : boundD a x d = some (n, k)) : (x = none ∧ n = d) ∨ ∃ y, x = some y ∧ okConst y = true ∧ evalC a y = .int k n := by
  unfold boundD at h
  split at h
  · cases h; exact .inl ⟨rfl, rfl⟩
  · rename_i y
    split at h
    · rename_i hc
      split at h
      · rename_i k' n' hy
        cases h
        exact .inr ⟨y, rfl, hc, hy⟩
      · cases h
    · cases h

theorem eqD_ok {neq : Bool} {t ty : TypeId} {x y : Operand} {v : Value} {m' : List Blk} {fp : Fp} (ho : o.op = .binOp (bif neq then .neq else .eql) t x y ty) (h : eqD P neq t x y a m = some (v, m', fp)) : OpOk P o a m v m' fp := by
  unfold eqD at h
  split at h
  · rename_i xs ys hx hy
    split at h
    · rename_i hc
      simp only [Bool.and_eq_true, Bool.not_eq_true'] at hc
      split at h
      · rename_i r hr
        cases h
        have := OpOk.eqAgg (m := m) ho (by cases neq <;> simp) hx hy hc.1.1 hc.1.2 hc.2 hr
        cases neq <;> simpa using this
      · cases h
    · cases h
  · cases h

theorem opE_ok {v : Value} {m' : List Blk} {fp : Fp} (h : opE P o a m = some (v, m', fp)) : OpOk P o a m v m' fp := by
  unfold opE at h
  split at h
  · rename_i t x y ty ho
    exact eqD_ok (neq := false) ho h
  · rename_i t x y ty ho
    exact eqD_ok (neq := true) ho h
  · rename_i t len ps ho
    split at h
    · rename_i hc
      simp only [Bool.and_eq_true] at hc
      split at h
      · rename_i size cs hb
        rw [fvl_eq] at h
        cases h
        exact OpOk.buildSlice ho hc.1 hc.2 hb
      · cases h
    · cases h
  · rename_i t x lo hi ho
    split at h
    · rename_i hc
      split at h
      · rename_i b off len cap hx
        split at h
        · rename_i c sz rw_ e hb hu
          split at h
          · rename_i size l kl hh kh hz hl hhi
            split at h
            · rename_i hcond
              simp only [Bool.and_eq_true, Bool.or_eq_true, Bool.not_eq_true'] at hcond
              cases h
              exact OpOk.sliceSl ho hc hx hb hu hz (fun hrw => by
                rcases hcond.1.1 with h | h
                · rw [hrw] at h; cases h
                · exact Nat.eq_of_beq_eq_true h) (boundD_ok hl) (boundD_ok hhi) (Nat.le_of_ble_eq_true hcond.1.2) (Nat.le_of_ble_eq_true hcond.2)
            · cases h
          · cases h
        · cases h
      · rename_i b off hx
        split at h
        · rename_i n e hu
          split at h
          · rename_i size l kl hh kh hz hl hhi
            split at h
            · rename_i hcond
              simp only [Bool.and_eq_true] at hcond
              cases h
              exact OpOk.sliceArr ho hc hx hu hz (boundD_ok hl) (boundD_ok hhi) (Nat.le_of_ble_eq_true hcond.1.1) (Nat.le_of_ble_eq_true hcond.1.2) (Nat.lt_of_succ_le (Nat.le_of_ble_eq_true hcond.2))
            · cases h
          · cases h
        · cases h
      · cases h
    · cases h
  · rename_i t x y ho
    split at h
    · rename_i hc
      rw [Bool.and_eq_true] at hc
      split at h
      · rename_i kl l kc c hx hy
        split at h
        · rename_i e hu
          split at h
          · rename_i i hi
            split at h
            · rename_i z hz
              split at h
              · rename_i hcond
                simp only [Bool.and_eq_true] at hcond
                rw [fvl_eq] at h
                cases h
                have hle := Nat.le_of_ble_eq_true hcond.1.1.1.1.1
                have hby := Nat.le_of_ble_eq_true hcond.1.1.1.1.2
                have h63 := Nat.le_of_ble_eq_true hcond.1.1.1.2
                have hzl := Nat.eq_of_beq_eq_true hcond.1.2
                have hz0 : 0 < z.cells.toList.length := by have := Nat.lt_of_succ_le (Nat.le_of_ble_eq_true hcond.2); omega
                exact OpOk.makeSlice (l := Int.ofNat l) (c := Int.ofNat c) ho hc.1 hc.2 hx hy hu hi hz (by simp) (by simpa using hle) (by
                    have : ((i.bytes * c : Nat) : Int) ≤ 281474976710656 := by omega
                    rwa [Int.natCast_mul] at this) (by simp; omega) (by rw [repL_length, hzl]; rfl) hcond.1.1.2 (fun j hj => by
                    have := repL_get z.cells.toList hz0 c j hj
                    rw [this]
                    simp [List.getD_eq_getElem?_getD]) (by simpa using hz0)
              · cases h
            · cases h
          · cases h
        · cases h
      · cases h
    · cases h
  · rename_i c ho
    split at h
    · rename_i hcal
      split at h
      · rename_i s x t tx h1 h2
        exact appendD_ok ho hcal h1 h2 h
      · cases h
    · rename_i hcal
      split at h
      · rename_i s x t tx h1 h2
        exact copyD_ok ho hcal h1 h2 h
      · cases h
    · cases h
  · cases h

/-- One operation, as far as it can be reckoned. -/
def opB (P : Program) (o : Oper) (a : List Value) (m : List Blk) : Option Out :=
  match opE P o a m with
  | some x => some x
  | none => opD P o a m

theorem opB_ok {v : Value} {m' : List Blk} {fp : Fp} (h : opB P o a m = some (v, m', fp)) : OpOk P o a m v m' fp := by
  unfold opB at h
  split at h
  · rename_i x hx; cases h; exact opE_ok hx
  · exact opD_ok h

end
end Go.Dt
