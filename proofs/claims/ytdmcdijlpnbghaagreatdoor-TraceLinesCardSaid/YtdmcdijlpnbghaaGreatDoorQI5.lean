/- Several texts in one: DtC, DtD, DtE. -/
import Derived.Test.YtdmcdijlpnbghaaGreatDoorQI4
import Derived.WideKeyRuns
namespace Go.Dt

section
open Go.Instr

section
variable {P : Program} {o : Oper} {a : List Value} {m : List Blk}

/-- Makes a new row of cells, and reads others; it may draw. -/
theorem OpOk.makesR {v : Value} {c : List Value} {sz : Nat} {rd : List Nat} (hrd : ∀ x, x ∈ rd → x < m.length)
    (h : ∀ (ι : Map) (t : Array Value) (w : World), (∀ x, x ∈ slotsOf o → RV ι (a.getD x undef) (t.getD x undef)) → (∀ b, b ∈ rd → BlkOk ι w b (m.getD b .gone)) → FroOk ι w →
      ∃ v' cr e n, c.length ≤ cr.size ∧ (∀ i, i < c.length → RV ι (c.getD i undef) (cr.getD i undef)) ∧
        (∀ ι', Le ι ι' → ι' m.length = some ⟨w.heap.size, 0, cr.size, sz, false⟩ → RV ι' v v') ∧
        (execOp (act t).eval o).run P w = .ok (.value v') { w with heap := w.heap.push (.cells cr e), drawn := n }) :
    OpOk P o a m v (m ++ [.cells c sz true]) ⟨rd, []⟩ where
  len := by simp
  sub := by simp
  rdlt := hrd
  same := fun b hb _ => getD_append_old _ _ hb
  run := fun ι t w hs hdom hsim next Q hn => by
    have hall : ∀ x, x ∈ rd → BlkOk ι w x (m.getD x .gone) := fun x hx => by have := hsim.blk x; simpa [Cont.only, isIn, hx, at_] using this
    obtain ⟨v', cr, e, n, h1, h2, h3, hr⟩ := h ι t w hs hall hsim.fro
    have hι : ι m.length = none := hdom m.length (Nat.le_refl _) (by simp)
    have hlen : (m ++ [Blk.cells c sz true]).length = m.length + 1 := by simp
    have hsub : ((at_ m).only (isIn rd)).only (isIn []) = (at_ m).only (isIn []) := by
      funext x; simp [Cont.only, isIn]
    obtain ⟨k1, k2, k3⟩ := new_row (w := w) (e := e) (sz := sz) (by rw [← hsub]; exact hsim.only _) hι h1 h2
    have := Sim.frame (C := (at_ m).only (isIn rd)) (C' := at_ (m ++ [.cells c sz true])) (D := (at_ (m ++ [.cells c sz true])).only (tch rd m.length (m ++ [Blk.cells c sz true]).length)) (R := isIn [])
      (T := tch [] m.length (m ++ [Blk.cells c sz true]).length) hsim (fun x hx => by simp [isIn] at hx) (by rw [hsub]; exact k1) k2 (fun x => by
        by_cases hx : x = m.length
        · subst hx
          have h1 : tch rd m.length (m ++ [Blk.cells c sz true]).length m.length = true := by simp [tch]
          have h2 : tch [] m.length (m ++ [Blk.cells c sz true]).length m.length = true := by simp [tch]
          simp only [Cont.only, h1, h2, if_true]
        · have h2 : tch [] m.length (m ++ [Blk.cells c sz true]).length x = false := by
            simp only [tch, hlen, List.contains_nil, Bool.false_or, Bool.and_eq_false_iff, decide_eq_false_iff_not]
            omega
          simp only [h2, Bool.false_eq_true, if_false]
          unfold Cont.only isIn
          by_cases hr : x ∈ rd
          · have h1 : tch rd m.length (m ++ [Blk.cells c sz true]).length x = true := by simp [tch, hr]
            rw [if_pos h1, if_pos (by simpa using hr)]
            exact getD_append_old _ _ (hrd x hr)
          · have h1 : tch rd m.length (m ++ [Blk.cells c sz true]).length x = false := by
              simp only [tch, hlen, Bool.or_eq_false_iff, Bool.and_eq_false_iff, decide_eq_false_iff_not, List.contains_eq_mem]
              exact ⟨hr, by omega⟩
            rw [h1, if_neg (by simp), if_neg (by simpa using hr)])
    have hE := this.2
    have hS := this.1
    exact wp_of_value hr (hn v' _ _ (h3 _ (upd_le hι) (upd_self _ _ _)) ⟨hE.le, hE.size, hE.os, hE.tape, hE.output, hE.frame, hE.own, hE.live, hE.fro⟩ ⟨hS.blk, hS.sep, hS.fro, hS.apart, hS.glo⟩ k3)

/-- An append onto nil. -/
theorem OpOk.appendNil {t tx e : TypeId} {s x : Operand} {i : TypeInfo} {z : Value} {n : Nat} {vs : List Value} {rd : List Nat} (ho : o.op = .call { callee := .builtin .append, args := #[s, x], argTypes := #[t, tx] }) (hcs : okConst s = true) (hcx : okConst x = true)
    (hs : evalC a s = .slice none 0 0) (hn : 0 < n) (hu : P.underlying t = some (.slice e)) (hk : (∃ e', P.underlying tx = some (.slice e')) ∨ P.underlying tx = some .string)
    (hi : P.info? e = some i) (hz : i.zero = some z) (hzs : z.cells.size = i.size) (h63 : n ≤ 9223372036854775807) (hby : 2 * n * i.bytes ≤ 281474976710656) (hx : SrcC P a m i.size x n vs rd) :
    OpOk P o a m (.slice (some ⟨m.length, 0, none⟩) n n) (m ++ [.cells vs i.size true]) ⟨rd, []⟩ :=
  OpOk.makesR hx.rdlt fun ι tt w hsl hbl hfro => by
    have hrs := rv_operand hsl (x := s) (by rw [ho]; simp [Op.operands, Call.operands]) hcs
    rw [hs] at hrs
    obtain ⟨news, hsrc, hlen, hrv⟩ := hx.real (tx := tx) hcx (by rw [ho]; simp [Op.operands, Call.operands]) hk hsl hbl hfro
    have hvl := hx.len
    generalize hy : (act tt).eval s = y at hrs
    cases hrs
    have hnc : Builtin.nextslicecap (0 + n) 0 * i.bytes ≤ 281474976710656 := by
      have := nextslicecap_le (need := 0 + n) (old := 0) (by omega)
      exact Nat.le_trans (Nat.mul_le_mul_right _ this) (by simpa using hby)
    have hrun := run_append_grow_src (P := P) w t tx o.type e i z hu hi hz none 0 0 [] (by simp [Builtin.firstCells]) ((act tt).eval x) n news hsrc (by omega) (by omega) hnc
    rw [← hy] at hrun
    have hge := grownCap_ge w (0 + n) 0 e
    generalize hgc : grownCap w (0 + n) 0 e = G at hrun hge
    rw [Nat.zero_add] at hge
    have hzc : (Builtin.zeroCells z.cells (G - (0 + n))).size = (G - n) * i.size := by simp [Builtin.zeroCells, hzs]
    have hcrs : (([] ++ news).toArray ++ Builtin.zeroCells z.cells (G - (0 + n))).size = G * i.size := by
      have e2 : G * i.size = n * i.size + (G - n) * i.size := by rw [← Nat.add_mul]; congr 1; omega
      simp only [Array.size_append, hzc, List.size_toArray, List.nil_append]
      omega
    refine ⟨_, ([] ++ news).toArray ++ Builtin.zeroCells z.cells (G - (0 + n)), e, w.drawn + 1, ?_, fun j hj => ?_, fun ι' hle hι' => ?_, run_append_call ho hrun⟩
    · rw [hcrs, hvl]; exact Nat.mul_le_mul_right _ hge
    · have : (([] ++ news).toArray ++ Builtin.zeroCells z.cells (G - (0 + n))).getD j undef = news.getD j undef := by
        have hlt : j < news.length := by omega
        simp only [Array.getD_eq_getD_getElem?]
        rw [Array.getElem?_append_left (by simpa using hlt)]
        simp [List.getD_eq_getElem?_getD]
      rw [this]
      exact hrv j hj
    · have := RV.slice (o := 0) (l := n) hι' hge (fun _ _ => by simp only [hcrs]; omega)
      simpa using this

/-- make. -/
theorem OpOk.makeSlice {t e : TypeId} {x y : Operand} {i : TypeInfo} {z : Value} {kl kc : IntKind} {l c : Int} {cs : List Value} (ho : o.op = .makeSlice t x y) (hcx : okConst x = true) (hcy : okConst y = true) (hx : evalC a x = .int kl l) (hy : evalC a y = .int kc c)
    (hu : P.underlying t = some (.slice e)) (hi : P.info? e = some i) (hz : i.zero = some z) (h0 : 0 ≤ l) (hlc : l ≤ c) (hby : (i.bytes : Int) * c ≤ 281474976710656) (h63 : c ≤ 9223372036854775807)
    (hcl : cs.length = c.toNat * i.size) (hzp : plains z.cells.toList = true) (hcs : ∀ j, j < cs.length → cs.getD j undef = z.cells.getD (j % z.cells.size) undef) (hz0 : 0 < z.cells.size) :
    OpOk P o a m (.slice (some ⟨m.length, 0, none⟩) l.toNat c.toNat) (m ++ [.cells cs i.size true]) ⟨[], []⟩ :=
  OpOk.makesR (by simp) fun ι tt w hsl _ _ => by
    have h1 := rv_operand hsl (x := x) (by rw [ho]; simp [Op.operands]) hcx
    have h2 := rv_operand hsl (x := y) (by rw [ho]; simp [Op.operands]) hcy
    rw [hx] at h1
    rw [hy] at h2
    have hrun := run_make (P := P) w t e i z hu hi hz kl kc l c h0 hlc hby h63
    refine ⟨.slice (some ⟨w.heap.size, 0, none⟩) l.toNat c.toNat, madeCells z.cells (c.toNat * i.size), e, w.drawn, by simp [madeCells, hcl], fun j hj => ?_, fun ι' hle hι' => ?_, ?_⟩
    · rw [hcs j hj]
      have hlt : j % z.cells.size < z.cells.size := Nat.mod_lt _ hz0
      have : (madeCells z.cells (c.toNat * i.size)).getD j undef = z.cells.getD (j % z.cells.size) undef := by
        have hj' : j < c.toNat * i.size := by omega
        simp [madeCells, hj', hlt]
      rw [this]
      have := RV.refl ι _ (plains_get hzp (i := j % z.cells.size) (by simpa using hlt))
      simpa [List.getD_eq_getElem?_getD] using this
    · have := RV.slice (o := 0) (l := l.toNat) hι' (Nat.le_refl c.toNat) (by simp)
      simpa using this
    · unfold execOp; rw [ho]
      simp only [h1.int_inv, h2.int_inv, Sem.run_bind, hrun, Result.andThen_ok, Sem.run_pure]
      rfl

/-- copy. -/
theorem OpOk.copy {t tx e : TypeId} {d x : Operand} {b off l cap n size sz : Nat} {c vs : List Value} {rd : List Nat} (ho : o.op = .call { callee := .builtin .copy, args := #[d, x], argTypes := #[t, tx] }) (hcd : okConst d = true) (hcx : okConst x = true)
    (hd : evalC a d = .slice (some ⟨b, off, none⟩) l cap) (hb : m[b]? = some (.cells c sz true)) (hfit : off + Nat.min n l * size ≤ c.length) (hu : P.underlying t = some (.slice e)) (hk : (∃ e', P.underlying tx = some (.slice e')) ∨ P.underlying tx = some .string)
    (hz : szC P e = some size) (hx : SrcC P a m size x n vs rd) (hns : ∀ s, evalC a x ≠ .string s) :
    OpOk P o a m (.int .i64 (Nat.min n l)) (m.set b (.cells (splice c off (vs.take (Nat.min n l * size))) sz true)) ⟨b :: rd, [b]⟩ := by
  have hblt : b < m.length := (List.getElem?_eq_some_iff.1 hb).1
  have hvl := hx.len
  have hmul : Nat.min n l * size ≤ n * size := Nat.mul_le_mul_right _ (Nat.min_le_left _ _)
  have htl : (vs.take (Nat.min n l * size)).length = Nat.min n l * size := by simp; omega
  refine OpOk.writesR (c := c) (by simp [List.getD_eq_getElem?_getD, hb]) hblt (by simp) (fun y hy => ?_) fun ι tt w L c' te hsl hbl hfro hL hh hroom' hsz hfit' hcells => ?_
  · simp at hy
    rcases hy with rfl | hy
    · exact hblt
    · exact hx.rdlt y hy
  · have hrs := rv_operand hsl (x := d) (by rw [ho]; simp [Op.operands, Call.operands]) hcd
    rw [hd] at hrs
    obtain ⟨news, hsrc, hlen, hrv, htake⟩ := hx.real2 (tx := tx) hcx (by rw [ho]; simp [Op.operands, Call.operands]) hk hsl (fun y hy => hbl y (by simp [hy])) hfro
    have hnl : (news.take (Nat.min n l * size)).length = Nat.min n l * size := by simp; omega
    have hf1 : off + (vs.take (Nat.min n l * size)).length ≤ c.length := by omega
    have hf2 : L.off + off + (news.take (Nat.min n l * size)).length ≤ c'.toList.length := by simp only [Array.length_toList]; omega
    have cells : ∀ k, k ≤ n → (Builtin.firstCells size k ((act tt).eval x)).run P w = .ok (news.take (k * size)).toArray w := fun k hkn => htake hns k hkn
    have hgo : ∃ base : Option Addr, (∃ cap', (act tt).eval d = .slice base l cap') ∧ (Nat.min n l = 0 ∨ base = some ⟨L.blk, L.off + off, none⟩) ∧ base.isSome = true := by
      generalize (act tt).eval d = y at hrs
      cases hrs with
      | slice0 p q => exact ⟨_, ⟨0, rfl⟩, .inl (Nat.min_eq_right (Nat.zero_le _)), rfl⟩
      | slice hL2 _ _ => rw [hL] at hL2; cases hL2; exact ⟨_, ⟨_, rfl⟩, .inr rfl, rfl⟩
    obtain ⟨base, ⟨cap', hy⟩, hbase, hsome⟩ := hgo
    have hst := run_storeCells (P := P) (w := w) (g := L.blk) (off := L.off + off) (vs := news.take (Nat.min n l * size)) hh (by simpa using hf2) (fun u hu => hsrc.one u (List.mem_of_mem_take hu))
    have hmin : Nat.min n l ≤ n := Nat.min_le_left _ _
    refine ⟨(splice c'.toList (L.off + off) (news.take (Nat.min n l * size))).toArray, by simpa using splice_length hf2, by rw [splice_length hf1]; exact hfit', fun j hj => ?_, _, ?_, .int _ _⟩
    · rw [splice_length hf1] at hj
      have g1 := splice_get hf1 j undef
      have g2 := splice_get hf2 (L.off + j) undef
      have g3 : (splice c'.toList (L.off + off) (news.take (Nat.min n l * size))).toArray.getD (L.off + j) undef = (splice c'.toList (L.off + off) (news.take (Nat.min n l * size))).getD (L.off + j) undef := by simp [List.getD_eq_getElem?_getD]
      rw [g1, g3, g2, htl, hnl]
      by_cases hin : off ≤ j ∧ j < off + Nat.min n l * size
      · rw [if_pos hin, if_pos (by omega)]
        have := hrv (j - off) (by omega)
        rw [show L.off + j - (L.off + off) = j - off by omega]
        have h1 : (vs.take (Nat.min n l * size)).getD (j - off) undef = vs.getD (j - off) undef := by simp [List.getD_eq_getElem?_getD, List.getElem?_take_of_lt (show j - off < Nat.min n l * size by omega)]
        have h2 : (news.take (Nat.min n l * size)).getD (j - off) undef = news.getD (j - off) undef := by simp [List.getD_eq_getElem?_getD, List.getElem?_take_of_lt (show j - off < Nat.min n l * size by omega)]
        rw [h1, h2]; exact this
      · rw [if_neg hin, if_neg (by omega)]
        have := hcells j hj
        simpa [List.getD_eq_getElem?_getD] using this
    · unfold execOp; rw [ho]
      have hlenof := hsrc.len w
      obtain ⟨ad, rfl⟩ := Option.isSome_iff_exists.1 hsome
      have hst' : (storeCells ad (news.take (Nat.min n l * size))).run P w = .ok () { w with heap := w.heap.setIfInBounds L.blk (.cells (splice c'.toList (L.off + off) (news.take (Nat.min n l * size))).toArray te (0, 0)) } := by
        rcases hbase with h0 | h0
        · have e0 : news.take (Nat.min n l * size) = [] := by rw [h0]; simp
          rw [e0]
          have e1 : (splice c'.toList (L.off + off) ([] : List Value)).toArray = c' := by simp [splice]
          rw [e1]
          have e2 : w.heap.setIfInBounds L.blk (.cells c' te (0, 0)) = w.heap := by
            apply Array.ext_getElem?
            intro k
            rw [Array.getElem?_setIfInBounds]
            have hlt := (Array.getElem?_eq_some_iff.1 hh).1
            by_cases hk : L.blk = k
            · subst hk; rw [if_pos rfl, if_pos hlt, hh]
            · rw [if_neg hk]
          rw [e2]
          rfl
        · cases h0; exact hst
      have hmin2 : min n l = Nat.min n l := rfl
      simp [resolve, invoke, builtin, Builtin.copy_, hy, run_underlying hu w, hlenof, run_szC hz w, cells _ hmin, hst', goInt]

/-! ### All of them, reckoned -/
def srcD (size : Nat) (a : List Value) (m : List Blk) (x : Operand) : Option (Nat × List Value × List Nat) :=
  match evalC a x with
  | .slice (some ⟨b, off, none⟩) n _ => match m[b]? with
    | some (.cells c _ _) => if Nat.ble (off + n * size) c.length then (if ((c.drop off).take (n * size)).all one then some (n, (c.drop off).take (n * size), [b]) else none) else none
    | _ => none
  | .slice none 0 _ => some (0, [], [])
  | _ => none

theorem srcD_ok {size n : Nat} {x : Operand} {vs : List Value} {rd : List Nat} (h : srcD size a m x = some (n, vs, rd)) : SrcC P a m size x n vs rd := by
  unfold srcD at h
  split at h
  · rename_i b off n' cap hx
    split at h
    · rename_i c sz rw_ hb
      split at h
      · rename_i hle
        split at h
        · rename_i hone
          cases h
          exact .sl hx hb (Nat.le_of_ble_eq_true hle) hone
        · cases h
      · cases h
    · cases h
  · rename_i hx; cases h; exact .nil hx
  · cases h

def isSliceT (P : Program) (t : TypeId) : Bool := match P.underlying t with
  | some (.slice _) => true
  | _ => false

def appendD (P : Program) (s x : Operand) (t tx : TypeId) (a : List Value) (m : List Blk) : Option Out :=
  if okConst s && okConst x && isSliceT P tx then match P.underlying t with
    | some (.slice e) => match P.info? e with
      | some i => match i.zero with
        | some z => if Nat.beq z.cells.size i.size then match srcD i.size a m x with
            | some (n, vs, rd) => match n with
              | 0 => match vs, evalC a s with
                | [], .slice base l cap => if Nat.ble l cap then some (.slice base l cap, m, ⟨rd, []⟩) else none
                | _, _ => none
              | n' + 1 => if Nat.ble (2 * (n' + 1) * i.bytes) 281474976710656 && Nat.ble (n' + 1) 9223372036854775807 then match evalC a s with
                | .slice none 0 0 => fvl vs fun vs => some (.slice (some ⟨m.length, 0, none⟩) (n' + 1) (n' + 1), m ++ [.cells vs i.size true], ⟨rd, []⟩)
                | .slice (some ⟨b, off, none⟩) l cap => match m[b]? with
                  | some (.cells c sz true) => if Nat.ble (l + (n' + 1)) cap then
                      if Nat.ble (off + (l + (n' + 1)) * i.size) c.length then fvl (splice c (off + l * i.size) vs) fun c' => some (.slice (some ⟨b, off, none⟩) (l + (n' + 1)) cap, m.set b (.cells c' sz true), ⟨b :: rd, [b]⟩) else none
                    else if Nat.beq l cap && Nat.beq sz i.size && Nat.ble (off + l * i.size) c.length && Nat.ble (2 * (l + (n' + 1)) * i.bytes) 281474976710656 && Nat.ble (l + (n' + 1)) 9223372036854775807 then
                      fvl ((c.drop off).take (l * i.size) ++ vs) fun c' => some (.slice (some ⟨m.length, 0, none⟩) (l + (n' + 1)) (l + (n' + 1)), m.set b .gone ++ [.cells c' i.size true], ⟨b :: rd, [b]⟩)
                    else none
                  | _ => none
                | _ => none
              else none
            | none => none
          else none
        | none => none
      | none => none
    | _ => none
  else none

def copyD (P : Program) (d x : Operand) (t tx : TypeId) (a : List Value) (m : List Blk) : Option Out :=
  if okConst d && okConst x && isSliceT P tx then match P.underlying t with
    | some (.slice e) => match szC P e with
      | some size => match srcD size a m x with
        | some (n, vs, rd) => match evalC a d with
          | .slice (some ⟨b, off, none⟩) l _ => match m[b]? with
            | some (.cells c sz true) => if Nat.ble (off + Nat.min n l * size) c.length then
                fvl (splice c off (vs.take (Nat.min n l * size))) fun c' => some (.int .i64 (Nat.min n l), m.set b (.cells c' sz true), ⟨b :: rd, [b]⟩) else none
            | _ => none
          | _ => none
        | none => none
      | none => none
    | _ => none
  else none

def repL (n : Nat) (z : List Value) : List Value := match n with
  | 0 => []
  | n + 1 => z ++ repL n z

theorem repL_length (z : List Value) : ∀ n, (repL n z).length = n * z.length
  | 0 => by simp [repL]
  | n + 1 => by rw [repL, List.length_append, repL_length z n, Nat.add_mul]; omega

theorem repL_get (z : List Value) (hz : 0 < z.length) : ∀ n j, j < (repL n z).length → (repL n z).getD j undef = z.getD (j % z.length) undef
  | 0, j, h => by simp [repL] at h
  | n + 1, j, h => by
    simp only [repL, List.getD_eq_getElem?_getD]
    by_cases hj : j < z.length
    · rw [List.getElem?_append_left hj, Nat.mod_eq_of_lt hj]
    · rw [List.getElem?_append_right (by omega)]
      have := repL_get z hz n (j - z.length) (by rw [repL, List.length_append] at h; omega)
      rw [List.getD_eq_getElem?_getD, List.getD_eq_getElem?_getD] at this
      rw [this, Nat.mod_eq_sub_mod (a := j) (by omega)]

def boundD (a : List Value) (x : Option Operand) (d : Nat) : Option (Nat × IntKind) :=
  match x with
  | none => some (d, .i64)
  | some y => if okConst y then match evalC a y with
      | .int k (.ofNat n) => some (n, k)
      | _ => none
    else none

def eqD (P : Program) (neq : Bool) (t : TypeId) (x y : Operand) (a : List Value) (m : List Blk) : Option Out :=
  match evalC a x, evalC a y with
  | .agg xs, .agg ys => if plainOperand a x && plainOperand a y && !P.eqGuardType P.depth t then match eqC P 10000 t (.agg xs) (.agg ys) with
      | some r => some (.bool (bif neq then !r else r), m, ⟨[], []⟩)
      | none => none
    else none
  | _, _ => none

def opE (P : Program) (o : Oper) (a : List Value) (m : List Blk) : Option Out :=
  match o.op with
  | .binOp .eql t x y _ => eqD P false t x y a m
  | .binOp .neq t x y _ => eqD P true t x y a m
  | .buildSlice t len ps => if ps.toList.all (fun p => okConst p.2) && ps.toList.all (fun p => notTuple (evalC a p.2)) then match bsCells P t len (partsC a ps) with
      | some (size, cs) => fvl cs.toList fun c => some (.slice (some ⟨m.length, 0, none⟩) len len, m ++ [.cells c size true], ⟨[], []⟩)
      | none => none
    else none
  | .slice t x lo hi none => if okConst x then match evalC a x with
      | .slice (some ⟨b, off, none⟩) len cap => match m[b]?, P.underlying t with
        | some (.cells _ sz rw_), some (.slice e) => match szC P e, boundD a lo 0, boundD a hi len with
          | some size, some (l, _), some (h, _) => if (!rw_ || Nat.beq sz size) && Nat.ble l h && Nat.ble h cap then some (.slice (some ⟨b, off + l * size, none⟩) (h - l) (cap - l), m, ⟨[b], []⟩) else none
          | _, _, _ => none
        | _, _ => none
      | .pointer (some ⟨b, off, none⟩) => match P.underlying t with
        | some (.array n e) => match szC P e, boundD a lo 0, boundD a hi n with
          | some size, some (l, _), some (h, _) => if Nat.ble l h && Nat.ble h n && Nat.blt l n then some (.slice (some ⟨b, off + l * size, none⟩) (h - l) (n - l), m, ⟨[], []⟩) else none
          | _, _, _ => none
        | _ => none
      | _ => none
    else none
  | .makeSlice t x y => if okConst x && okConst y then match evalC a x, evalC a y with
      | .int _ (.ofNat l), .int _ (.ofNat c) => match P.underlying t with
        | some (.slice e) => match P.info? e with
          | some i => match i.zero with
            | some z => if Nat.ble l c && Nat.ble (i.bytes * c) 281474976710656 && Nat.ble c 9223372036854775807 && plains z.cells.toList && Nat.beq z.cells.toList.length i.size && Nat.blt 0 i.size then
                fvl (repL c z.cells.toList) fun cs => some (.slice (some ⟨m.length, 0, none⟩) l c, m ++ [.cells cs i.size true], ⟨[], []⟩) else none
            | none => none
          | none => none
        | _ => none
      | _, _ => none
    else none
  | .call c => match c.callee with
      | .builtin .append => match c.args.toList, c.argTypes.toList with
        | [s, x], [t, tx] => appendD P s x t tx a m
        | _, _ => none
      | .builtin .copy => match c.args.toList, c.argTypes.toList with
        | [s, x], [t, tx] => copyD P s x t tx a m
        | _, _ => none
      | _ => none
  | _ => none

theorem appendD_ok {c : Call} {s x : Operand} {t tx : TypeId} {v : Value} {m' : List Blk} {fp : Fp} (ho : o.op = .call c) (hcal : c.callee = .builtin .append) (h1 : c.args.toList = [s, x]) (h2 : c.argTypes.toList = [t, tx])
    (h : appendD P s x t tx a m = some (v, m', fp)) : OpOk P o a m v m' fp := by
  have hc' : c = { callee := .builtin .append, args := #[s, x], argTypes := #[t, tx] } := by
    obtain ⟨callee, args, argTypes⟩ := c
    simp only at hcal h1 h2
    subst hcal
    have e1 : args = #[s, x] := by rw [← Array.toArray_toList (xs := args), h1]
    have e2 : argTypes = #[t, tx] := by rw [← Array.toArray_toList (xs := argTypes), h2]
    rw [e1, e2]
  rw [hc'] at ho
  unfold appendD at h
  split at h
  · rename_i hc
    simp only [Bool.and_eq_true] at hc
    have hk : (∃ e', P.underlying tx = some (.slice e')) ∨ P.underlying tx = some .string := by
      have := hc.2
      unfold isSliceT at this
      split at this
      · rename_i e' he; exact .inl ⟨e', he⟩
      · cases this
    split at h
    · rename_i e hu
      split at h
      · rename_i i hi
        split at h
        · rename_i z hz
          split at h
          · rename_i hzs
            have hzs := Nat.eq_of_beq_eq_true hzs
            split at h
            · rename_i n vs rd hsrc
              have hs := srcD_ok (P := P) hsrc
              split at h
              · split at h
                · rename_i hev
                  split at h
                  · rename_i hle
                    cases h
                    exact OpOk.append0 ho hc.1.1 hc.1.2 hev (Nat.le_of_ble_eq_true hle) hu hk hi hs
                  · cases h
                · cases h
              · rename_i n'
                split at h
                · rename_i hby
                  rw [Bool.and_eq_true] at hby
                  split at h
                  · rename_i hev
                    rw [fvl_eq] at h
                    cases h
                    exact OpOk.appendNil ho hc.1.1 hc.1.2 hev (Nat.succ_pos _) hu hk hi hz hzs (Nat.le_of_ble_eq_true hby.2) (Nat.le_of_ble_eq_true hby.1) hs
                  · rename_i b off l cap hev
                    split at h
                    · rename_i c0 sz hb
                      split at h
                      · rename_i hroom
                        split at h
                        · rename_i hfit
                          rw [fvl_eq] at h
                          cases h
                          exact OpOk.appendRoom ho hc.1.1 hc.1.2 hev hb (Nat.le_of_ble_eq_true hroom) (Nat.succ_pos _) (Nat.le_of_ble_eq_true hfit) hu hk hi hs
                        · cases h
                      · split at h
                        · rename_i hcond
                          simp only [Bool.and_eq_true] at hcond
                          rw [fvl_eq] at h
                          cases h
                          have h1 := Nat.eq_of_beq_eq_true hcond.1.1.1.1
                          have h2 := Nat.eq_of_beq_eq_true hcond.1.1.1.2
                          subst h1; subst h2
                          exact OpOk.appendGrow ho hc.1.1 hc.1.2 hev hb (Nat.succ_pos _) (Nat.le_of_ble_eq_true hcond.1.1.2) hu hk hi hz hzs (Nat.le_of_ble_eq_true hcond.2) (Nat.le_of_ble_eq_true hcond.1.2) hs
                        · cases h
                    · cases h
                  · cases h
                · cases h
            · cases h
          · cases h
        · cases h
      · cases h
    · cases h
  · cases h

theorem copyD_ok {c : Call} {s x : Operand} {t tx : TypeId} {v : Value} {m' : List Blk} {fp : Fp} (ho : o.op = .call c) (hcal : c.callee = .builtin .copy) (h1 : c.args.toList = [s, x]) (h2 : c.argTypes.toList = [t, tx])
    (h : copyD P s x t tx a m = some (v, m', fp)) : OpOk P o a m v m' fp := by
  have hc' : c = { callee := .builtin .copy, args := #[s, x], argTypes := #[t, tx] } := by
    obtain ⟨callee, args, argTypes⟩ := c
    simp only at hcal h1 h2
    subst hcal
    have e1 : args = #[s, x] := by rw [← Array.toArray_toList (xs := args), h1]
    have e2 : argTypes = #[t, tx] := by rw [← Array.toArray_toList (xs := argTypes), h2]
    rw [e1, e2]
  rw [hc'] at ho
  unfold copyD at h
  split at h
  · rename_i hc
    simp only [Bool.and_eq_true] at hc
    have hk : (∃ e', P.underlying tx = some (.slice e')) ∨ P.underlying tx = some .string := by
      have := hc.2
      unfold isSliceT at this
      split at this
      · rename_i e' he; exact .inl ⟨e', he⟩
      · cases this
    split at h
    · rename_i e hu
      split at h
      · rename_i size hz
        split at h
        · rename_i n vs rd hsrc
          have hs := srcD_ok (P := P) hsrc
          split at h
          · rename_i b off l cap hev
            split at h
            · rename_i c0 sz hb
              split at h
              · rename_i hle
                rw [fvl_eq] at h
                cases h
                refine OpOk.copy ho hc.1.1 hc.1.2 hev hb (Nat.le_of_ble_eq_true hle) hu hk hz hs (fun str hstr => ?_)
                unfold srcD at hsrc
                rw [hstr] at hsrc
                cases hsrc
              · cases h
            · cases h
          · cases h
        · cases h
      · cases h
    · cases h
  · cases h

theorem boundD_ok {x : Option Operand} {d n : Nat} {k : IntKind} (h : boundD a x d = some (n, k)) : (x = none ∧ n = d) ∨ ∃ y, x = some y ∧ okConst y = true ∧ evalC a y = .int k n := by
  unfold boundD at h
  split at h
  · cases h; exact .inl ⟨rfl, rfl⟩
  · rename_i y
    split at h
    · rename_i hc
      split at h
      · rename_i k' n' hy
        cases h
        exact .inr ⟨y, rfl, hc, hy⟩
      · cases h
    · cases h

theorem eqD_ok {neq : Bool} {t ty : TypeId} {x y : Operand} {v : Value} {m' : List Blk} {fp : Fp} (ho : o.op = .binOp (bif neq then .neq else .eql) t x y ty) (h : eqD P neq t x y a m = some (v, m', fp)) : OpOk P o a m v m' fp := by
  unfold eqD at h
  split at h
  · rename_i xs ys hx hy
    split at h
    · rename_i hc
      simp only [Bool.and_eq_true, Bool.not_eq_true'] at hc
      split at h
      · rename_i r hr
        cases h
        have := OpOk.eqAgg (m := m) ho (by cases neq <;> simp) hx hy hc.1.1 hc.1.2 hc.2 hr
        cases neq <;> simpa using this
      · cases h
    · cases h
  · cases h

theorem opE_ok {v : Value} {m' : List Blk} {fp : Fp} (h : opE P o a m = some (v, m', fp)) : OpOk P o a m v m' fp := by
  unfold opE at h
  split at h
  · rename_i t x y ty ho
    exact eqD_ok (neq := false) ho h
  · rename_i t x y ty ho
    exact eqD_ok (neq := true) ho h
  · rename_i t len ps ho
    split at h
    · rename_i hc
      simp only [Bool.and_eq_true] at hc
      split at h
      · rename_i size cs hb
        rw [fvl_eq] at h
        cases h
        exact OpOk.buildSlice ho hc.1 hc.2 hb
      · cases h
    · cases h
  · rename_i t x lo hi ho
    split at h
    · rename_i hc
      split at h
      · rename_i b off len cap hx
        split at h
        · rename_i c sz rw_ e hb hu
          split at h
          · rename_i size l kl hh kh hz hl hhi
            split at h
            · rename_i hcond
              simp only [Bool.and_eq_true, Bool.or_eq_true, Bool.not_eq_true'] at hcond
              cases h
              exact OpOk.sliceSl ho hc hx hb hu hz (fun hrw => by
                rcases hcond.1.1 with h | h
                · rw [hrw] at h; cases h
                · exact Nat.eq_of_beq_eq_true h) (boundD_ok hl) (boundD_ok hhi) (Nat.le_of_ble_eq_true hcond.1.2) (Nat.le_of_ble_eq_true hcond.2)
            · cases h
          · cases h
        · cases h
      · rename_i b off hx
        split at h
        · rename_i n e hu
          split at h
          · rename_i size l kl hh kh hz hl hhi
            split at h
            · rename_i hcond
              simp only [Bool.and_eq_true] at hcond
              cases h
              exact OpOk.sliceArr ho hc hx hu hz (boundD_ok hl) (boundD_ok hhi) (Nat.le_of_ble_eq_true hcond.1.1) (Nat.le_of_ble_eq_true hcond.1.2) (Nat.lt_of_succ_le (Nat.le_of_ble_eq_true hcond.2))
            · cases h
          · cases h
        · cases h
      · cases h
    · cases h
  · rename_i t x y ho
    split at h
    · rename_i hc
      rw [Bool.and_eq_true] at hc
      split at h
      · rename_i kl l kc c hx hy
        split at h
        · rename_i e hu
          split at h
          · rename_i i hi
            split at h
            · rename_i z hz
              split at h
              · rename_i hcond
                simp only [Bool.and_eq_true] at hcond
                rw [fvl_eq] at h
                cases h
                have hle := Nat.le_of_ble_eq_true hcond.1.1.1.1.1
                have hby := Nat.le_of_ble_eq_true hcond.1.1.1.1.2
                have h63 := Nat.le_of_ble_eq_true hcond.1.1.1.2
                have hzl := Nat.eq_of_beq_eq_true hcond.1.2
                have hz0 : 0 < z.cells.toList.length := by have := Nat.lt_of_succ_le (Nat.le_of_ble_eq_true hcond.2); omega
                exact OpOk.makeSlice (l := Int.ofNat l) (c := Int.ofNat c) ho hc.1 hc.2 hx hy hu hi hz (by simp) (by simpa using hle) (by
                    have : ((i.bytes * c : Nat) : Int) ≤ 281474976710656 := by omega
                    rwa [Int.natCast_mul] at this) (by simp; omega) (by rw [repL_length, hzl]; rfl) hcond.1.1.2 (fun j hj => by
                    have := repL_get z.cells.toList hz0 c j hj
                    rw [this]
                    simp [List.getD_eq_getElem?_getD]) (by simpa using hz0)
              · cases h
            · cases h
          · cases h
        · cases h
      · cases h
    · cases h
  · rename_i c ho
    split at h
    · rename_i hcal
      split at h
      · rename_i s x t tx h1 h2
        exact appendD_ok ho hcal h1 h2 h
      · cases h
    · rename_i hcal
      split at h
      · rename_i s x t tx h1 h2
        exact copyD_ok ho hcal h1 h2 h
      · cases h
    · cases h
  · cases h

/-- One operation, as far as it can be reckoned. -/
def opB (P : Program) (o : Oper) (a : List Value) (m : List Blk) : Option Out :=
  match opE P o a m with
  | some x => some x
  | none => opD P o a m

theorem opB_ok {v : Value} {m' : List Blk} {fp : Fp} (h : opB P o a m = some (v, m', fp)) : OpOk P o a m v m' fp := by
  unfold opB at h
  split at h
  · rename_i x hx; cases h; exact opE_ok hx
  · exact opD_ok h

end

end

section
open Go.Instr

section
variable {P : Program} {o : Oper} {a : List Value} {m : List Blk}

/-- What the search for a key among keys finds, in whatever world. -/
structure Finds (P : Program) (kt : TypeId) (key : Value) (ks : List Value) (r : Option Nat) : Prop where
  may : ∀ em w, (checkKey em 10000 kt key).run P w = .ok () w
  find : ∀ (es : List MapEntry), es.map (·.key) = ks → ∀ w, (findKey kt key es).run P w = .ok (r.bind fun i => (es[i]?).map fun e => (i, e.val)) w

def EntriesOk (ι : Map) (es : List MapEntry) (es' : Array MapEntry) : Prop := es.length = es'.size ∧ ∀ (i : Nat) (e e' : MapEntry), es[i]? = some e → es'[i]? = some e' → EntryOk ι e e'

theorem EntriesOk.keys {ι : Map} {es : List MapEntry} {es' : Array MapEntry} (h : EntriesOk ι es es') (hp : plains (es.map (·.key)) = true) : es'.toList.map (·.key) = es.map (·.key) := by
  apply List.ext_getElem?
  intro i
  rw [List.getElem?_map, List.getElem?_map]
  by_cases hi : i < es.length
  · have hi' : i < es'.size := by rw [← h.1]; exact hi
    have e1 : es[i]? = some es[i] := List.getElem?_eq_getElem hi
    have e2 : es'[i]? = some es'[i] := by simp [hi']
    have e2' : es'.toList[i]? = some es'[i] := by simp [hi']
    have := (h.2 i _ _ e1 e2).1
    have hpl : plain es[i].key = true := by
      have := plains_get (i := i) hp (by simpa using hi)
      simpa [List.getD_eq_getElem?_getD, List.getElem?_map, e1] using this
    rw [e1, e2', Option.map_some, Option.map_some, this.eq_of_plain hpl]
  · have := h.1
    rw [List.getElem?_eq_none (by simp only [Array.length_toList]; omega), List.getElem?_eq_none (by omega)]

theorem Finds.real {kt : TypeId} {key : Value} {es : List MapEntry} {r : Option Nat} (h : Finds P kt key (es.map (·.key)) r) {ι : Map} {es' : Array MapEntry} (he : EntriesOk ι es es') (hp : plains (es.map (·.key)) = true) (w : World) :
    (findKey kt key es'.toList).run P w = .ok (r.bind fun i => (es'[i]?).map fun e => (i, e.val)) w := by
  have := h.find es'.toList (he.keys hp) w
  simpa using this

theorem getMap_run {w : World} {r : Nat} {es : Array MapEntry} {clock : Nat} (hb : w.heap[r]? = some (.map es clock)) : (getObj r).run P w = .ok (.map es clock) w := by
  simp [getObj, Sem.run, hb]
theorem setMap_run {w : World} {r : Nat} {es : Array MapEntry} {clock : Nat} (o : Obj) (hb : w.heap[r]? = some (.map es clock)) : (setObj r o).run P w = .ok () { w with heap := w.heap.setIfInBounds r o } := by
  simp [setObj, Sem.run, hb]

def lookV (ok : Bool) (v : Value) (is : Bool) : Value := bif ok then .tuple #[v, .bool is] else v

theorem lookV_rv {ι : Map} {v v' : Value} (ok is : Bool) (h : RV ι v v') : RV ι (lookV ok v is) (lookV ok v' is) := by
  cases ok
  · exact h
  · refine .tuple (by rfl) fun i => ?_
    rcases i with _ | _ | i
    · exact h
    · exact .bool is
    · exact .any _

def gotC (z : Value) (es : List MapEntry) (r : Option Nat) : Value × Bool := match r.bind (es[·]?) with
  | some e => (e.val, true)
  | none => (z, false)

theorem zero_run {et : TypeId} {z : Value} (hz : (P.info? et).bind (·.zero) = some z) (w : World) : (zeroValue et).run P w = .ok z w := by
  cases hi : P.info? et with
  | none => simp [hi] at hz
  | some i =>
    simp only [hi, Option.bind_some] at hz
    simp [zeroValue, run_info hi, hz]

theorem OpOk.lookupM {t kt et : TypeId} {x ix : Operand} {ok : Bool} {b ck : Nat} {es : List MapEntry} {key z : Value} {r : Option Nat} (ho : o.op = .lookup t x ix ok) (hc : okConst x = true) (hc2 : okConst ix = true)
    (hx : evalC a x = .map (some b)) (hk : evalC a ix = key) (hkp : plain key = true) (hb : m[b]? = some (.map es ck)) (hu : P.underlying t = some (.map kt et)) (hpk : plains (es.map (·.key)) = true)
    (hf : Finds P kt key (es.map (·.key)) r) (hz : (P.info? et).bind (·.zero) = some z) (hzp : plain z = true) :
    OpOk P o a m (lookV ok (gotC z es r).1 (gotC z es r).2) m ⟨[b], []⟩ := by
  have hblt : b < m.length := (List.getElem?_eq_some_iff.1 hb).1
  refine OpOk.reads (by simpa using hblt) fun ι tt w hs hbl => ?_
  have h := rv_operand hs (x := x) (by rw [ho]; simp [Op.operands]) hc
  rw [hx] at h
  have h2 := rv_operand hs (x := ix) (by rw [ho]; simp [Op.operands]) hc2
  rw [hk] at h2
  have h2 := h2.eq_of_plain hkp
  have := hbl b (by simp)
  rw [show m.getD b .gone = .map es ck by simp [List.getD_eq_getElem?_getD, hb]] at this
  obtain ⟨L, es', hL, hh, hlen, hent⟩ := this
  generalize hy : (act tt).eval x = y at h
  cases h with
  | map hL' =>
    rw [hL] at hL'; cases hL'
    have hreal := hf.real (ι := ι) (es' := es') ⟨hlen, hent⟩ hpk w
    have hmay := fun em => hf.may em w
    have key_ : ∃ v', RV ι (gotC z es r).1 v' ∧ (lookup t (.map (some L.blk)) key ok).run P w = .ok (lookV ok v' (gotC z es r).2) w := by
      unfold gotC
      have hzr := zero_run hz w
      cases hr : r.bind (es[·]?) with
      | none =>
        have hn : (r.bind fun i => (es'[i]?).map fun e => (i, e.val)) = none := by
          cases r with
          | none => rfl
          | some i =>
            simp only [Option.bind_some] at hr ⊢
            rw [List.getElem?_eq_none_iff] at hr
            rw [Array.getElem?_eq_none (by omega)]; rfl
        rw [hn] at hreal
        refine ⟨z, RV.refl _ _ hzp, ?_⟩
        simp [lookup, run_underlying hu, Result.andThen, getMap_run hh, hmay, hreal, hzr]
        cases ok <;> simp [lookV]
      | some e =>
        cases r with
        | none => cases hr
        | some i =>
          simp only [Option.bind_some] at hr
          have hi := (List.getElem?_eq_some_iff.1 hr).1
          have e2 : es'[i]? = some es'[i] := by simp [← hlen, hi]
          simp only [Option.bind_some, e2, Option.map_some] at hreal
          refine ⟨es'[i].val, (hent i _ _ hr e2).2.1, ?_⟩
          simp [lookup, run_underlying hu, Result.andThen, getMap_run hh, hmay, hreal]
          cases ok <;> simp [lookV]
    obtain ⟨v', hv', hrun⟩ := key_
    refine ⟨_, lookV_rv ok _ hv', ?_⟩
    unfold execOp; rw [ho]
    simp [hy, ← h2, hrun, Result.andThen]

def resD (a : List Value) (x : Option Operand) : Bool := match x with | none => true | some y => okConst y && (match evalC a y with | .int _ _ => true | _ => false)
def mapT (P : Program) (t : TypeId) : Bool := match P.underlying t with | some (.map _ _) => true | _ => false
/-- A new map. -/
theorem OpOk.makeMapE {t : TypeId} {x : Option Operand} (ho : o.op = .makeMap t x) (hx : resD a x = true) (hu : mapT P t = true) :
    OpOk P o a m (.map (some m.length)) (m ++ [.map [] 0]) ⟨[], []⟩ where
  len := by simp
  sub := by simp
  rdlt := by simp
  same := fun b hb _ => getD_append_old _ _ hb
  run := fun ι t' w hs hdom hsim next Q hn => by
    have hι : ι m.length = none := hdom m.length (Nat.le_refl _) (by simp)
    have hC : ∀ b, ((at_ (m ++ [Blk.map [] 0])).only (tch [] m.length (m ++ [Blk.map [] 0]).length)) b = if b = m.length then .map [] 0 else .gone := fun b => by
      simp only [Cont.only, tch, at_, List.contains_nil, Bool.false_or, List.length_append, List.length_cons, List.length_nil, Bool.and_eq_true, decide_eq_true_eq]
      by_cases hb : b = m.length
      · subst hb; simp [List.getD_eq_getElem?_getD]
      · rw [if_neg hb, if_neg (by omega)]
    have hw : (w.heap.push (Obj.map #[] 0))[w.heap.size]? = some (.map #[] 0) := by simp
    have hloc : ∀ b L, (if b = m.length then Blk.map [] 0 else .gone).live = true → (upd ι m.length ⟨w.heap.size, 0, 0, 0, false⟩) b = some L → L.blk = w.heap.size := fun b L hl hL => by
      split at hl
      · rename_i hb; subst hb; rw [upd_self] at hL; cases hL; rfl
      · cases hl
    have hrun : (execOp (act t').eval o).run P w = .ok (.value (.map (some w.heap.size))) { w with heap := w.heap.push (.map #[] 0) } := by
      unfold execOp; rw [ho]
      cases x with
      | none => simp [makeMap, newObj, Sem.run]
      | some y =>
        simp only [resD, Bool.and_eq_true] at hx
        have h := rv_operand hs (x := y) (by rw [ho]; simp [Op.operands]) hx.1
        have hx2 := hx.2
        split at hx2
        · rename_i k n he
          rw [he] at h
          have h := h.int_inv
          unfold mapT at hu
          split at hu
          · rename_i kt et hu'
            simp [makeMap, h, run_underlying hu' w, newObj, Sem.run, asInt, asIntOf]
          · cases hu
        · cases hx2
    refine wp_of_value hrun (hn _ _ (upd ι m.length ⟨w.heap.size, 0, 0, 0, false⟩) (.map (upd_self _ _ _)) ⟨upd_le hι, by simp, rfl, rfl, rfl, fun k hk _ => ?_, fun k => ?_, fun k => ?_, fun _ _ h => .inl h⟩ ⟨fun b => ?_, fun b b2 L L2 hne ho' hl => ?_, fun r c hr => ?_, fun b L r c ho' hL hr => ?_, hsim.glo⟩ (fun b h1 h2 => ?_))
    · simp only [Array.getElem?_push]; rw [if_neg (by omega)]
    · rintro ⟨b, L, ho', hL, hk⟩
      rw [hC] at ho'
      exact .inr (by rw [← hk, hloc b L (Blk.live_of_own ho') hL]; exact Nat.le_refl _)
    · rintro ⟨b, L, ho', hL, hk⟩
      rw [hC] at ho'
      exact .inr (by rw [← hk, hloc b L ho' hL]; exact Nat.le_refl _)
    · rw [hC]
      split
      · rename_i hb; subst hb
        exact ⟨_, #[], upd_self _ _ _, hw, rfl, fun i e e' h1 _ => by simp at h1⟩
      · trivial
    · rw [hC] at ho' hl
      split at ho'
      · split at hl
        · rename_i h1 h2; exact absurd (h1.trans h2.symm) hne
        · cases hl
      · cases ho'
    · obtain ⟨t, fz, h⟩ := hsim.fro r c hr
      have hlt := (Array.getElem?_eq_some_iff.1 h).1
      refine ⟨t, fz, ?_⟩
      show (w.heap.push _)[r]? = _
      rw [Array.getElem?_push, if_neg (by omega)]; exact h
    · rw [hC] at ho'
      obtain ⟨t, fz, h⟩ := hsim.fro r c hr
      have hlt := (Array.getElem?_eq_some_iff.1 h).1
      rw [hloc b L (Blk.live_of_own ho') hL]
      omega
    · by_cases hb : b = m.length
      · subst hb; simp
      · rw [upd_ne hb] at h2; exact absurd h1 h2

/-- Writes a map. -/
theorem OpOk.writesMap {b ck ck2 : Nat} {es es2 : List MapEntry} {v : Value} (hb : m.getD b .gone = .map es ck) (hblt : b < m.length)
    (h : ∀ (ι : Map) (t : Array Value) (w : World) (L : Loc) (es' : Array MapEntry), (∀ x, x ∈ slotsOf o → RV ι (a.getD x undef) (t.getD x undef)) → ι b = some L →
      w.heap[L.blk]? = some (.map es' ck) → EntriesOk ι es es' →
      ∃ es2' : Array MapEntry, EntriesOk ι es2 es2' ∧
        ∃ r v', (execOp (act t).eval o).run P w = .ok r { w with heap := w.heap.setIfInBounds L.blk (.map es2' ck2) } ∧ RV ι v v' ∧ (r = .value v' ∨ (r = .skip ∧ v' = undef))) :
    OpOk P o a m v (m.set b (.map es2 ck2)) ⟨[b], [b]⟩ where
  len := by simp
  sub := by simp
  rdlt := by simpa using hblt
  same := fun x _ hn => by
    have hne : b ≠ x := fun e => hn (by simp [e])
    simp [List.getD_eq_getElem?_getD, List.getElem?_set_ne hne]
  run := fun ι t w hs _ hsim next Q hn => by
    have hB := hsim.blk b
    have hC : ∀ x, ((at_ m).only (isIn [b])) x = if x = b then .map es ck else .gone := fun x => by
      simp only [Cont.only, isIn, at_]
      by_cases hx : x = b
      · subst hx; simp only [List.contains_cons, beq_self_eq_true, List.contains_nil, Bool.or_false, if_true]; exact hb
      · simp [hx]
    have hC' : ∀ x, ((at_ (m.set b (.map es2 ck2))).only (tch [b] m.length (m.set b (.map es2 ck2)).length)) x = if x = b then .map es2 ck2 else .gone := fun x => by
      simp only [List.length_set, tch_self, Cont.only, isIn, at_]
      by_cases hx : x = b
      · subst hx; simp [List.getD_eq_getElem?_getD, hblt]
      · simp [hx]
    rw [hC, if_pos rfl] at hB
    obtain ⟨L, es', hL, hh, hlen, hent⟩ := hB
    obtain ⟨es2', h1, r, v', hr, hv, hrv⟩ := h ι t w L es' hs hL hh ⟨hlen, hent⟩
    have hlt : L.blk < w.heap.size := (Array.getElem?_eq_some_iff.1 hh).1
    have k1 : Ext ι ((at_ m).only (isIn [b])) w ι ((at_ (m.set b (.map es2 ck2))).only (tch [b] m.length (m.set b (.map es2 ck2)).length)) { w with heap := w.heap.setIfInBounds L.blk (.map es2' ck2) } := by
      refine ⟨Le.refl _, by simp, rfl, rfl, rfl, fun k hk hn => ?_, fun k => ?_, fun k => ?_, fun _ _ h => .inl h⟩
      · have hne : L.blk ≠ k := fun e => hn ⟨b, L, by rw [hC]; simp [Blk.own], hL, e⟩
        exact Array.getElem?_setIfInBounds_ne hne
      · rintro ⟨x, K, ho, hK, hk⟩
        rw [hC'] at ho
        split at ho
        · rename_i hx; exact .inl ⟨x, K, by rw [hC, if_pos hx]; rfl, hK, hk⟩
        · cases ho
      · rintro ⟨x, K, ho, hK, hk⟩
        rw [hC'] at ho
        split at ho
        · rename_i hx; exact .inl ⟨x, K, by rw [hC, if_pos hx]; rfl, hK, hk⟩
        · cases ho
    have k2 : Sim ι ((at_ (m.set b (.map es2 ck2))).only (tch [b] m.length (m.set b (.map es2 ck2)).length)) { w with heap := w.heap.setIfInBounds L.blk (.map es2' ck2) } := by
      have hownb : (((at_ m).only (isIn [b])) b).own = true := by rw [hC, if_pos rfl]; rfl
      refine ⟨fun x => ?_, fun x x2 K K2 hne ho hl => ?_, fun r c hr => ?_, fun x K r c ho hK hr => ?_, hsim.glo⟩
      · rw [hC']
        split
        · rename_i hx; subst hx
          exact ⟨L, es2', hL, by simp [hlt], h1.1, h1.2⟩
        · trivial
      · rw [hC'] at ho hl
        split at ho
        · split at hl
          · rename_i h1 h2; exact absurd (h1.trans h2.symm) hne
          · cases hl
        · cases ho
      · obtain ⟨t, fz, h⟩ := hsim.fro r c hr
        exact ⟨t, fz, by simp only; rw [Array.getElem?_setIfInBounds_ne (hsim.apart b L r c hownb hL hr)]; exact h⟩
      · rw [hC'] at ho
        split at ho
        · rename_i hx; subst hx; exact hsim.apart x K r c hownb hK hr
        · cases ho
    rcases hrv with rfl | ⟨rfl, rfl⟩
    · exact wp_of_value hr (hn v' _ _ hv k1 k2 (fun _ h1 h2 => absurd h1 h2))
    · exact wp_of_skip hr (hn undef _ _ hv k1 k2 (fun _ h1 h2 => absurd h1 h2))

theorem EntriesOk.push {ι : Map} {es : List MapEntry} {es' : Array MapEntry} (h : EntriesOk ι es es') {e e' : MapEntry} (he : EntryOk ι e e') : EntriesOk ι (es ++ [e]) (es'.push e') := by
  refine ⟨by simp [h.1], fun i x x' h1 h2 => ?_⟩
  by_cases hi : i < es.length
  · rw [List.getElem?_append_left hi] at h1
    rw [Array.getElem?_push, if_neg (by have := h.1; omega)] at h2
    exact h.2 i x x' h1 h2
  · rw [List.getElem?_append_right (by omega)] at h1
    rw [Array.getElem?_push] at h2
    split at h2
    · rename_i hi'
      have : i - es.length = 0 := by have := h.1; omega
      rw [this] at h1
      simp at h1
      cases h1; cases h2; exact he
    · have : i < es'.size := by
        have := (Array.getElem?_eq_some_iff.1 h2).1
        exact this
      have := h.1
      omega

theorem modify_get (es : Array MapEntry) (i j : Nat) (f : MapEntry → MapEntry) : (es.modify i f)[j]? = if i = j then (es[j]?).map f else es[j]? := by
  rw [Array.getElem?_modify]

/-- Of an entry, value and mark (a new one where there is none). -/
theorem OpOk.mapEntryNew {t kt et : TypeId} {x ix : Operand} {b ck : Nat} {es : List MapEntry} {key z : Value} (ho : o.op = .mapEntry t x ix) (hc : okConst x = true) (hc2 : okConst ix = true)
    (hx : evalC a x = .map (some b)) (hk : evalC a ix = key) (hkp : plain key = true) (hb : m[b]? = some (.map es ck)) (hu : P.underlying t = some (.map kt et)) (hpk : plains (es.map (·.key)) = true)
    (hf : Finds P kt key (es.map (·.key)) none) (hz : (P.info? et).bind (·.zero) = some z) (hzp : plain z = true) :
    OpOk P o a m (.tuple #[z, .int .i64 ck]) (m.set b (.map (es ++ [⟨key, z, ck⟩]) (ck + 1))) ⟨[b], [b]⟩ := by
  have hblt : b < m.length := (List.getElem?_eq_some_iff.1 hb).1
  refine OpOk.writesMap (es := es) (ck := ck) (by simp [List.getD_eq_getElem?_getD, hb]) hblt fun ι tt w L es' hs hL hh hent => ?_
  have h := rv_operand hs (x := x) (by rw [ho]; simp [Op.operands]) hc
  rw [hx] at h
  have h2 := rv_operand hs (x := ix) (by rw [ho]; simp [Op.operands]) hc2
  rw [hk] at h2
  have h2 := h2.eq_of_plain hkp
  generalize hy : (act tt).eval x = y at h
  cases h with
  | map hL' =>
    rw [hL] at hL'; cases hL'
    have hreal := hf.real hent hpk w
    refine ⟨es'.push ⟨key, z, ck⟩, hent.push ⟨RV.refl _ _ hkp, RV.refl _ _ hzp, rfl⟩, _, .tuple #[z, .int .i64 ck], ?_, RV.tuple rfl fun i => ?_, .inl rfl⟩
    · unfold execOp; rw [ho]
      simp [hy, ← h2, mapEntry, run_underlying hu, Result.andThen, getMap_run hh, hf.may, hreal, zero_run hz, setMap_run _ hh, goInt]
    · rcases i with _ | _ | i
      · exact RV.refl _ _ hzp
      · exact .int _ _
      · exact .any _

theorem OpOk.mapEntryOld {t kt et : TypeId} {x ix : Operand} {b ck i : Nat} {es : List MapEntry} {key : Value} {e : MapEntry} (ho : o.op = .mapEntry t x ix) (hc : okConst x = true) (hc2 : okConst ix = true)
    (hx : evalC a x = .map (some b)) (hk : evalC a ix = key) (hkp : plain key = true) (hb : m[b]? = some (.map es ck)) (hu : P.underlying t = some (.map kt et)) (hpk : plains (es.map (·.key)) = true)
    (hf : Finds P kt key (es.map (·.key)) (some i)) (he : es[i]? = some e) (hke : e.key = key) (hsb : sameBits 10000 key key = true) :
    OpOk P o a m (.tuple #[e.val, .int .i64 e.born]) (m.set b (.map es ck)) ⟨[b], [b]⟩ := by
  have hblt : b < m.length := (List.getElem?_eq_some_iff.1 hb).1
  refine OpOk.writesMap (es := es) (ck := ck) (by simp [List.getD_eq_getElem?_getD, hb]) hblt fun ι tt w L es' hs hL hh hent => ?_
  have h := rv_operand hs (x := x) (by rw [ho]; simp [Op.operands]) hc
  rw [hx] at h
  have h2 := rv_operand hs (x := ix) (by rw [ho]; simp [Op.operands]) hc2
  rw [hk] at h2
  have h2 := h2.eq_of_plain hkp
  generalize hy : (act tt).eval x = y at h
  have hi := (List.getElem?_eq_some_iff.1 he).1
  have e2 : es'[i]? = some (es'[i]'(by rw [← hent.1]; exact hi)) := by simp
  have hee := hent.2 i _ _ he e2
  have hkk : (es'[i]'(by rw [← hent.1]; exact hi)).key = key := by
    have := hee.1.eq_of_plain (by rw [hke]; exact hkp)
    rw [← this, hke]
  cases h with
  | map hL' =>
    rw [hL] at hL'; cases hL'
    have hreal := hf.real hent hpk w
    simp only [Option.bind_some, e2, Option.map_some] at hreal
    refine ⟨es'.modify i fun e => { e with key := key }, ⟨by simp [hent.1], fun j x x' h1 h3 => ?_⟩, _, .tuple #[(es'[i]'(by rw [← hent.1]; exact hi)).val, .int .i64 e.born], ?_, RV.tuple rfl fun j => ?_, .inl rfl⟩
    · rw [modify_get] at h3
      split at h3
      · rename_i hij; subst hij
        rw [e2, Option.map_some] at h3
        cases h3
        rw [he] at h1; cases h1
        exact ⟨by rw [hke]; exact RV.refl _ _ hkp, hee.2.1, hee.2.2⟩
      · exact hent.2 j x x' h1 h3
    · unfold execOp; rw [ho]
      simp [hy, ← h2, mapEntry, run_underlying hu, Result.andThen, getMap_run hh, hf.may, hreal, keyThatStays, e2, hkk, hsb, setMap_run _ hh, goInt, hee.2.2]
    · rcases j with _ | _ | j
      · exact hee.2.1
      · exact .int _ _
      · exact .any _

theorem findIdx_arr (es : Array MapEntry) (p : MapEntry → Bool) : es.findIdx? p = es.toList.findIdx? p := by cases es; simp

/-- A value is laid into the entry of a mark. -/
theorem OpOk.entryStoreM {t : TypeId} {x ix y : Operand} {b ck i : Nat} {k : IntKind} {n : Int} {es : List MapEntry} {v : Value} {e : MapEntry} (ho : o.op = .entryStore t x ix y) (hc : okConst x = true) (hc2 : okConst ix = true) (hc3 : okConst y = true)
    (hx : evalC a x = .map (some b)) (hk : evalC a ix = .int k n) (hv : evalC a y = v) (hb : m[b]? = some (.map es ck)) (hi : es.findIdx? (fun e => (e.born : Int) == n) = some i) (he : es[i]? = some e) :
    OpOk P o a m undef (m.set b (.map (es.set i { e with val := v }) ck)) ⟨[b], [b]⟩ := by
  have hblt : b < m.length := (List.getElem?_eq_some_iff.1 hb).1
  refine OpOk.writesMap (es := es) (ck := ck) (by simp [List.getD_eq_getElem?_getD, hb]) hblt fun ι tt w L es' hs hL hh hent => ?_
  have h := rv_operand hs (x := x) (by rw [ho]; simp [Op.operands]) hc
  rw [hx] at h
  have h2 := rv_operand hs (x := ix) (by rw [ho]; simp [Op.operands]) hc2
  rw [hk] at h2
  have h2 := h2.int_inv
  have h3 := rv_operand hs (x := y) (by rw [ho]; simp [Op.operands]) hc3
  rw [hv] at h3
  generalize hy : (act tt).eval x = z at h
  have hilt := (List.getElem?_eq_some_iff.1 he).1
  have hfi : es'.findIdx? (fun e => (e.born : Int) == n) = some i := by
    have e1 : es'.toList.map (·.born) = es.map (·.born) := by
      apply List.ext_getElem?
      intro j
      rw [List.getElem?_map, List.getElem?_map]
      by_cases hj : j < es.length
      · have hj' : j < es'.size := by rw [← hent.1]; exact hj
        have e1 : es[j]? = some es[j] := List.getElem?_eq_getElem hj
        have e2 : es'[j]? = some es'[j] := by simp [hj']
        have e2' : es'.toList[j]? = some es'[j] := by simp [hj']
        rw [e1, e2', Option.map_some, Option.map_some, (hent.2 j _ _ e1 e2).2.2]
      · have := hent.1
        rw [List.getElem?_eq_none (by simp only [Array.length_toList]; omega), List.getElem?_eq_none (by omega)]
    have e3 : es'.toList.findIdx? (fun e => (e.born : Int) == n) = (es'.toList.map (fun e : MapEntry => e.born)).findIdx? (fun b : Nat => (b : Int) == n) := by rw [List.findIdx?_map]; rfl
    have e4 : es.findIdx? (fun e => (e.born : Int) == n) = (es.map (fun e : MapEntry => e.born)).findIdx? (fun b : Nat => (b : Int) == n) := by rw [List.findIdx?_map]; rfl
    have e5 : es'.findIdx? (fun e => (e.born : Int) == n) = es'.toList.findIdx? (fun e => (e.born : Int) == n) := findIdx_arr es' _
    rw [e5, e3, e1, ← e4, hi]
  cases h with
  | map hL' =>
    rw [hL] at hL'; cases hL'
    refine ⟨es'.modify i fun e => { e with val := (act tt).eval y }, ⟨by simp [hent.1], fun j x x' h1 h4 => ?_⟩, .skip, undef, ?_, .any _, .inr ⟨rfl, rfl⟩⟩
    · rw [modify_get] at h4
      split at h4
      · rename_i hij; subst hij
        rw [List.getElem?_set_self hilt] at h1
        cases h1
        cases h5 : es'[i]? with
        | none => rw [h5] at h4; cases h4
        | some e' =>
          rw [h5, Option.map_some] at h4
          cases h4
          have := hent.2 i _ _ he h5
          exact ⟨this.1, h3, this.2.2⟩
      · rename_i hij
        rw [List.getElem?_set_ne hij] at h1
        exact hent.2 j x x' h1 h4
    · unfold execOp; rw [ho]
      simp [hy, h2, entryStore, getMap_run hh, Result.andThen, asInt, asIntOf, hfi, setMap_run _ hh]

/-! ### Keys -/
theorem findNow_eq {d : TypeDesc} {key : Value} {f : Value → Bool} : ∀ (es : List MapEntry) (j : Nat), (∀ e, e ∈ es → sameNow d key e.key = some (f e.key)) → findNow d key es j = some (((es.map (·.key)).findIdx? f).bind fun i => (es[i]?).map fun e => (i + j, e.val))
  | [], j, _ => rfl
  | e :: es, j, h => by
    unfold findNow
    rw [h e (by simp), List.map_cons, List.findIdx?_cons]
    cases hxy : f e.key with
    | true => simp
    | false =>
      simp only [Bool.false_eq_true, if_false]
      rw [findNow_eq es (j + 1) (fun x hx => h x (by simp [hx]))]
      congr 1
      cases (es.map (·.key)).findIdx? f with
      | none => rfl
      | some i =>
        simp only [Option.bind_some, Option.map_some, List.getElem?_cons_succ]
        congr 1
        funext e
        rw [show i + (j + 1) = i + 1 + j by omega]

theorem Finds.now {kt : TypeId} {d : TypeDesc} {key : Value} {ks : List Value} {f : Value → Bool} (hu : P.underlying kt = some d) (hm : ∀ em w, (checkKey em 10000 kt key).run P w = .ok () w)
    (hk : ∀ k, k ∈ ks → sameNow d key k = some (f k)) : Finds P kt key ks (ks.findIdx? f) where
  may := hm
  find := fun es he w => by
    have := findNow_eq (d := d) (key := key) (f := f) es 0 (fun e hx => hk e.key (by rw [← he]; exact List.mem_map_of_mem hx))
    rw [he] at this
    simp [findKey, run_underlying hu, Result.andThen, this]

theorem findAsking_eq {kt : TypeId} {key : Value} {f : Value → Bool} : ∀ (es : List MapEntry) (j : Nat) (w : World), (∀ e, e ∈ es → ∀ w, (Op.equal kt key e.key).run P w = .ok (f e.key) w) →
    (findAsking kt key es j).run P w = .ok (((es.map (·.key)).findIdx? f).bind fun i => (es[i]?).map fun e => (i + j, e.val)) w
  | [], j, w, _ => rfl
  | e :: es, j, w, h => by
    simp only [findAsking, Sem.run_bind, h e (by simp) w, Result.andThen, List.map_cons, List.findIdx?_cons]
    cases hf : f e.key with
    | true => simp
    | false =>
      simp only [Bool.false_eq_true, if_false]
      rw [findAsking_eq es (j + 1) w (fun x hx => h x (by simp [hx]))]
      congr 1
      cases (es.map (·.key)).findIdx? f with
      | none => rfl
      | some i =>
        simp only [Option.bind_some, Option.map_some, List.getElem?_cons_succ]
        congr 1
        funext e
        rw [show i + (j + 1) = i + 1 + j by omega]

theorem Finds.wide {kt : TypeId} {key : Value} {ks : List Value} {f : Value → Bool} (hu : (match P.underlying kt with | some (.array _ _) | some (.struct _) => true | _ => false) = true) (hm : ∀ em, pureEval P (checkKey em 10000 kt key) = some ())
    (hk : ∀ k, k ∈ ks → eqC P 10000 kt key k = some (f k)) : Finds P kt key ks (ks.findIdx? f) where
  may := fun em w => run_of_pureEval (hm em) w
  find := fun es he w => by
    rw [run_findKey_eq w hu]
    have := findAsking_eq (P := P) (kt := kt) (key := key) (f := f) es 0 w (fun e hx w => run_eqC 10000 kt key e.key _ (hk e.key (by rw [← he]; exact List.mem_map_of_mem hx)) w)
    rw [he] at this
    simpa using this

/-! ### Reckoned -/
def keyEqD (P : Program) (kt : TypeId) (key k : Value) : Option Bool := match P.underlying kt with
  | some (.int _) => match key, k with
    | .int .i64 x, .int .i64 y => some (x == y)
    | _, _ => none
  | some (.array _ _) => eqC P 10000 kt key k
  | some (.struct _) => eqC P 10000 kt key k
  | _ => none
def findD (P : Program) (kt : TypeId) (key : Value) : Nat → List Value → Option (Option Nat)
  | _, [] => some none
  | i, k :: ks => match keyEqD P kt key k with
    | some b => match findD P kt key (i + 1) ks with
      | some r => some (bif b then some i else r)
      | none => none
    | none => none
def mayD (P : Program) (kt : TypeId) (key : Value) : Bool := (match pureEval P (checkKey true 10000 kt key) with | some () => true | none => false) && (match pureEval P (checkKey false 10000 kt key) with | some () => true | none => false)

theorem findD_idx {kt : TypeId} {key : Value} : ∀ (ks : List Value) (i : Nat) (r : Option Nat), findD P kt key i ks = some r → (∀ k, k ∈ ks → keyEqD P kt key k = some ((keyEqD P kt key k).getD false)) ∧ r = (ks.findIdx? fun k => (keyEqD P kt key k).getD false).map (· + i)
  | [], i, r, h => by cases h; exact ⟨fun _ h => (by cases h), rfl⟩
  | k :: ks, i, r, h => by
    unfold findD at h
    split at h
    · rename_i b hb
      split at h
      · rename_i r' hr'
        cases h
        obtain ⟨h1, h2⟩ := findD_idx ks (i + 1) r' hr'
        refine ⟨fun x hx => ?_, ?_⟩
        · rcases List.mem_cons.1 hx with rfl | hx
          · rw [hb]; rfl
          · exact h1 x hx
        · rw [List.findIdx?_cons, hb]
          cases b with
          | true => simp
          | false =>
            simp only [Option.getD_some, cond_false, Bool.false_eq_true, if_false, h2, Option.map_map]
            congr 1
            funext j
            simp only [Function.comp]
            omega
      · cases h
    · cases h

def kindD (P : Program) (kt : TypeId) : Bool := match P.underlying kt with
  | some (.int _) | some (.array _ _) | some (.struct _) => true
  | _ => false

theorem findD_ok {kt : TypeId} {key : Value} {ks : List Value} {r : Option Nat} (hk : kindD P kt = true) (hm : mayD P kt key = true) (h : findD P kt key 0 ks = some r) : Finds P kt key ks r := by
  obtain ⟨h1, h2⟩ := findD_idx ks 0 r h
  have h2 : r = ks.findIdx? fun k => (keyEqD P kt key k).getD false := by
    rw [h2]
    cases ks.findIdx? fun k => (keyEqD P kt key k).getD false <;> simp
  subst h2
  have hm' : ∀ em, pureEval P (checkKey em 10000 kt key) = some () := fun em => by
    unfold mayD at hm
    rw [Bool.and_eq_true] at hm
    cases em with
    | true =>
      have := hm.1
      split at this
      · assumption
      · cases this
    | false =>
      have := hm.2
      split at this
      · assumption
      · cases this
  have hwide : (match P.underlying kt with | some (.array _ _) | some (.struct _) => true | _ => false) = true → (∀ k, keyEqD P kt key k = eqC P 10000 kt key k) → Finds P kt key ks (ks.findIdx? fun k => (keyEqD P kt key k).getD false) := fun hu he => by
    have := Finds.wide (f := fun k => (keyEqD P kt key k).getD false) hu hm' (ks := ks) (fun k hk => by rw [← he]; exact h1 k hk)
    exact this
  unfold kindD at hk
  split at hk
  · rename_i kk hu
    refine Finds.now hu (fun em w => run_of_pureEval (hm' em) w) fun k hkk => ?_
    have := h1 k hkk
    generalize hf : (keyEqD P kt key k).getD false = b at this
    unfold keyEqD at this
    rw [hu] at this
    simp only at this
    split at this
    · cases this
      simp [sameNow]
    · cases this
  · rename_i n e hu
    exact hwide (by rw [hu]) (fun k => by unfold keyEqD; rw [hu])
  · rename_i fs hu
    exact hwide (by rw [hu]) (fun k => by unfold keyEqD; rw [hu])
  · cases hk

/-- What is at a place of a memory, if it is a map; of which keys. -/
def mapD (a : List Value) (m : List Blk) (x : Operand) : Option (Nat × List MapEntry × Nat) :=
  if okConst x then match evalC a x with
    | .map (some b) => match m[b]? with
      | some (.map es ck) => if plains (es.map (·.key)) then some (b, es, ck) else none
      | _ => none
    | _ => none
  else none
theorem mapD_ok {x : Operand} {b ck : Nat} {es : List MapEntry} (h : mapD a m x = some (b, es, ck)) : okConst x = true ∧ evalC a x = .map (some b) ∧ m[b]? = some (.map es ck) ∧ plains (es.map (·.key)) = true := by
  unfold mapD at h
  split at h
  · rename_i hc
    split at h
    · rename_i b' hx
      split at h
      · rename_i es' ck' hb
        split at h
        · rename_i hp
          cases h
          exact ⟨hc, hx, hb, hp⟩
        · cases h
      · cases h
    · cases h
  · cases h
def keyD (P : Program) (a : List Value) (t : TypeId) (ix : Operand) : Option (TypeId × TypeId) :=
  match P.underlying t with
  | some (.map kt et) => if okConst ix && plain (evalC a ix) && kindD P kt && mayD P kt (evalC a ix) then some (kt, et) else none
  | _ => none
theorem keyD_ok {t kt et : TypeId} {ix : Operand} (h : keyD P a t ix = some (kt, et)) : P.underlying t = some (.map kt et) ∧ okConst ix = true ∧ plain (evalC a ix) = true ∧ kindD P kt = true ∧ mayD P kt (evalC a ix) = true := by
  unfold keyD at h
  split at h
  · rename_i kt' et' hu
    split at h
    · rename_i hc
      cases h
      simp only [Bool.and_eq_true] at hc
      exact ⟨hu, hc.1.1.1, hc.1.1.2, hc.1.2, hc.2⟩
    · cases h
  · cases h
def zeroD (P : Program) (et : TypeId) : Option Value := match (P.info? et).bind (·.zero) with
  | some z => if plain z then some z else none
  | none => none

def opF (P : Program) (o : Oper) (a : List Value) (m : List Blk) : Option Out :=
  match o.op with
  | .makeMap t x => if resD a x && mapT P t then some (.map (some m.length), m ++ [.map [] 0], ⟨[], []⟩) else none
  | .lookup t x ix ok => match mapD a m x, keyD P a t ix with
    | some (b, es, _), some (kt, et) => match findD P kt (evalC a ix) 0 (es.map (·.key)), zeroD P et with
      | some r, some z => some (lookV ok (gotC z es r).1 (gotC z es r).2, m, ⟨[b], []⟩)
      | _, _ => none
    | _, _ => none
  | .mapEntry t x ix => match mapD a m x, keyD P a t ix with
    | some (b, es, ck), some (kt, et) => match findD P kt (evalC a ix) 0 (es.map (·.key)), zeroD P et with
      | some none, some z => some (.tuple #[z, .int .i64 ck], m.set b (.map (es ++ [⟨evalC a ix, z, ck⟩]) (ck + 1)), ⟨[b], [b]⟩)
      | some (some i), some _ => match es[i]?, evalC a ix with
        | some ⟨.int .i64 x, v, n⟩, .int .i64 y => if x = y then some (.tuple #[v, .int .i64 n], m.set b (.map es ck), ⟨[b], [b]⟩) else none
        | _, _ => none
      | _, _ => none
    | _, _ => none
  | .entryStore _ x ix y => match mapD a m x with
    | some (b, es, ck) => if okConst ix && okConst y then match evalC a ix with
      | .int _ n => match es.findIdx? (fun e => (e.born : Int) == n) with
        | some i => match es[i]? with
          | some e => some (undef, m.set b (.map (es.set i { e with val := evalC a y }) ck), ⟨[b], [b]⟩)
          | none => none
        | none => none
      | _ => none
      else none
    | none => none
  | _ => none

theorem zeroD_ok {et : TypeId} {z : Value} (h : zeroD P et = some z) : (P.info? et).bind (·.zero) = some z ∧ plain z = true := by
  unfold zeroD at h
  split at h
  · rename_i z' hz
    split at h
    · rename_i hp; cases h; exact ⟨hz, hp⟩
    · cases h
  · cases h

theorem opF_ok {v : Value} {m' : List Blk} {fp : Fp} (h : opF P o a m = some (v, m', fp)) : OpOk P o a m v m' fp := by
  unfold opF at h
  split at h
  · rename_i t x ho
    split at h
    · rename_i hc
      rw [Bool.and_eq_true] at hc
      cases h; exact OpOk.makeMapE ho hc.1 hc.2
    · cases h
  · rename_i t x ix ok ho
    split at h
    · rename_i b es ck kt et h1 h2
      obtain ⟨hc, hx, hb, hpk⟩ := mapD_ok h1
      obtain ⟨hu, hc2, hkp, hkd, hmd⟩ := keyD_ok h2
      split at h
      · rename_i r z hr hz
        cases h
        exact OpOk.lookupM ho hc hc2 hx rfl hkp hb hu hpk (findD_ok hkd hmd hr) (zeroD_ok hz).1 (zeroD_ok hz).2
      · cases h
    · cases h
  · rename_i t x ix ho
    split at h
    · rename_i b es ck kt et h1 h2
      obtain ⟨hc, hx, hb, hpk⟩ := mapD_ok h1
      obtain ⟨hu, hc2, hkp, hkd, hmd⟩ := keyD_ok h2
      split at h
      · rename_i z hr hz
        cases h
        exact OpOk.mapEntryNew ho hc hc2 hx rfl hkp hb hu hpk (findD_ok hkd hmd hr) (zeroD_ok hz).1 (zeroD_ok hz).2
      · rename_i i z hr hz
        split at h
        · rename_i x' v' n y he hk
          split at h
          · rename_i hxy
            cases h
            subst hxy
            exact OpOk.mapEntryOld ho hc hc2 hx rfl hkp hb hu hpk (findD_ok hkd hmd hr) he hk.symm (by rw [hk]; simp [sameBits])
          · cases h
        · cases h
      · cases h
    · cases h
  · rename_i t x ix y ho
    split at h
    · rename_i b es ck h1
      obtain ⟨hc, hx, hb, hpk⟩ := mapD_ok h1
      split at h
      · rename_i hcc
        rw [Bool.and_eq_true] at hcc
        split at h
        · rename_i k n hk
          split at h
          · rename_i i hi
            split at h
            · rename_i e he
              cases h
              exact OpOk.entryStoreM ho hc hcc.1 hcc.2 hx hk rfl hb hi he
            · cases h
          · cases h
        · cases h
      · cases h
    · cases h
  · cases h

end

end

section
open Go.Instr

section
variable {P : Program} {o : Oper} {a : List Value} {m : List Blk}

def asFrz : Value → Option (Nat × List Value)
  | .iface t (.tuple ⟨[.int .i64 (.ofNat n), .agg ⟨c⟩]⟩) => bif Nat.beq t frzT then some (n, c) else none
  | _ => none
theorem asFrz_ok {v : Value} {n : Nat} {c : List Value} (h : asFrz v = some (n, c)) : v = frz n c := by
  unfold asFrz at h
  split at h
  · rename_i t n' c'
    cases ht : Nat.beq t frzT with
    | false => rw [ht] at h; cases h
    | true => rw [ht] at h; cases h; rw [Nat.eq_of_beq_eq_true ht]; rfl
  · cases h
def asFrp : Value → Option (List Value × Nat)
  | .iface t (.tuple ⟨[.int .i64 (.ofNat n), .agg ⟨c⟩]⟩) => bif Nat.beq t frpT then some (c, n) else none
  | _ => none
theorem asFrp_ok {v : Value} {n : Nat} {c : List Value} (h : asFrp v = some (c, n)) : v = frp c n := by
  unfold asFrp at h
  split at h
  · rename_i t n' c'
    cases ht : Nat.beq t frpT with
    | false => rw [ht] at h; cases h
    | true => rw [ht] at h; cases h; rw [Nat.eq_of_beq_eq_true ht]; rfl
  · cases h

theorem OpOk.lenFrz {x : Operand} {t e : TypeId} {n : Nat} {c : List Value} (ho : o.op = .call { callee := .builtin .len, args := #[x], argTypes := #[t] }) (hc : okConst x = true) (hx : evalC a x = frz n c)
    (hu : P.underlying t = some (.slice e)) : OpOk P o a m (.int .i64 n) m ⟨[], []⟩ :=
  OpOk.quiet fun ι tt w hs => by
    have h := rv_operand hs (x := x) (by rw [ho]; simp [Op.operands, Call.operands]) hc
    rw [hx] at h
    refine ⟨_, .int _ _, ?_⟩
    unfold execOp; rw [ho]
    generalize hy : (act tt).eval x = y at h
    cases h with
    | iface _ ht => exact absurd ht (by decide)
    | _ => simp [resolve, invoke, builtin, Builtin.len_, hy, run_underlying hu w, goInt]

theorem OpOk.idxFrz {t e : TypeId} {x ix : Operand} {n sz : Nat} {c : List Value} {k : IntKind} {i : Int} (ho : o.op = .indexAddr t x ix) (hc : okConst x = true) (hc2 : okConst ix = true) (hx : evalC a x = frz n c)
    (hi : evalC a ix = .int k i) (hu : P.underlying t = some (.slice e)) (hz : szC P e = some sz) (h0 : 0 ≤ i) (h1 : i < n) : OpOk P o a m (frp c (i.toNat * sz)) m ⟨[], []⟩ :=
  OpOk.quiet fun ι tt w hs => by
    have h := rv_operand hs (x := x) (by rw [ho]; simp [Op.operands]) hc
    rw [hx] at h
    have h2 := rv_operand hs (x := ix) (by rw [ho]; simp [Op.operands]) hc2
    rw [hi] at h2
    have he2 := h2.int_inv
    generalize hy : (act tt).eval x = y at h
    cases h with
    | iface _ ht => exact absurd ht (by decide)
    | frzN => omega
    | frzE => omega
    | @frz _ _ r off cap cr hr hcap hp hfit hcc =>
      refine ⟨.pointer (some ⟨r, off + i.toNat * sz, none⟩), .frp hr hp hfit hcc, ?_⟩
      unfold execOp; rw [ho]
      simp [Instr.indexAt, run_underlying hu w, hy, he2, asIntOf, run_szC hz, addr_add, h0, h1]

theorem OpOk.fieldFrp {t : TypeId} {x : Operand} {f : Nat} {fs : Array Field} {fd : Field} {c : List Value} {off n : Nat} (ho : o.op = .fieldAddr t x f) (hc : okConst x = true) (hx : evalC a x = frp c off)
    (hu : P.underlying t = some (.struct fs)) (hf : fs[f]? = some fd) (hz : szC P fd.type = some (n + 1)) : OpOk P o a m (frp c (off + fd.offset)) m ⟨[], []⟩ :=
  OpOk.quiet fun ι tt w hs => by
    have h := rv_operand hs (x := x) (by rw [ho]; simp [Op.operands]) hc
    rw [hx] at h
    generalize hy : (act tt).eval x = y at h
    cases h with
    | iface _ ht => exact absurd ht (by decide)
    | @frp _ _ r ro cr hr hp hfit hcc =>
      refine ⟨.pointer (some ⟨r, ro + (off + fd.offset), none⟩), .frp hr hp hfit hcc, ?_⟩
      unfold execOp; rw [ho]
      simp [Instr.fieldAt, run_underlying hu w, hf, hy, sureAddr, fieldPlace, run_szC hz, addr_add, Nat.add_assoc]

/-- An element of an array within. -/
theorem OpOk.idxFrp {t e : TypeId} {x ix : Operand} {len sz off : Nat} {c : List Value} {k : IntKind} {i : Int} (ho : o.op = .indexAddr t x ix) (hc : okConst x = true) (hc2 : okConst ix = true) (hx : evalC a x = frp c off)
    (hi : evalC a ix = .int k i) (hu : P.underlying t = some (.array len e)) (hz : szC P e = some sz) (h0 : 0 ≤ i) (h1 : i < len) : OpOk P o a m (frp c (off + i.toNat * sz)) m ⟨[], []⟩ :=
  OpOk.quiet fun ι tt w hs => by
    have h := rv_operand hs (x := x) (by rw [ho]; simp [Op.operands]) hc
    rw [hx] at h
    have h2 := rv_operand hs (x := ix) (by rw [ho]; simp [Op.operands]) hc2
    rw [hi] at h2
    have he2 := h2.int_inv
    generalize hy : (act tt).eval x = y at h
    cases h with
    | iface _ ht => exact absurd ht (by decide)
    | @frp _ _ r ro cr hr hp hfit hcc =>
      refine ⟨.pointer (some ⟨r, ro + (off + i.toNat * sz), none⟩), .frp hr hp hfit hcc, ?_⟩
      unfold execOp; rw [ho]
      simp [Instr.indexAt, run_underlying hu w, hy, he2, sureAddr, asIntOf, run_szC hz, addr_add, Nat.add_assoc, h0, h1]

theorem OpOk.loadFrp {t : TypeId} {x : Operand} {c : List Value} {off : Nat} {v : Value} (ho : o.op = .load t x) (hc : okConst x = true) (hx : evalC a x = frp c off) (hv : loadC P t c off = some v) : OpOk P o a m v m ⟨[], []⟩ := by
  refine OpOk.readsF (by simp) fun ι tt w hs _ hfro => ?_
  have h := rv_operand hs (x := x) (by rw [ho]; simp [Op.operands]) hc
  rw [hx] at h
  generalize hy : (act tt).eval x = y at h
  cases h with
  | iface _ ht => exact absurd ht (by decide)
  | @frp _ _ r ro cr hr hp hfit hcc =>
    obtain ⟨te, fz, hh⟩ := hfro r cr hr
    unfold loadC at hv
    split at hv
    · rename_i ht
      split at hv
      · rename_i n hn
        split at hv
        · rename_i hle
          cases hv
          have hle := Nat.le_of_ble_eq_true hle
          refine ⟨.agg ((List.range n).map fun j => cr.getD (ro + off + j) undef).toArray, .agg (by simp; omega) (fun i => ?_), ?_⟩
          · rw [toArr_range]
            by_cases hi : i < n
            · rw [if_pos hi]
              have h1 : ((c.drop off).take n).toArray.getD i undef = c.getD (off + i) undef := by simp [List.getD_eq_getElem?_getD, hi]
              rw [h1, Nat.add_assoc]
              exact hcc (off + i) (by omega)
            · rw [if_neg hi]
              have h1 : ((c.drop off).take n).toArray.getD i undef = undef := by simp [List.getElem?_take, hi]
              rw [h1]; exact .any _
          · unfold execOp; rw [ho]
            have hl := run_loadCells (P := P) w ⟨r, ro + off, none⟩ n (fun j => cr.getD (ro + off + j) undef) (fun j hj => by rw [addr_add]; exact cell_of (L := ⟨r, ro, 0, 0, true⟩) hh (by omega))
            simp [loadAt, hy, sureAddr, loadVar, run_isAgg ht w, run_szC hn, hl]
        · cases hv
      · cases hv
    · rename_i ht
      have hlt : off < c.length := (List.getElem?_eq_some_iff.1 hv).1
      have hrv := hcc off hlt
      rw [show c.getD off undef = v by simp [List.getD_eq_getElem?_getD, hv]] at hrv
      refine ⟨_, hrv, ?_⟩
      unfold execOp; rw [ho]
      have hcell : w.cell? ⟨r, ro + off, none⟩ = some (cr.getD (ro + off) undef) := cell_of (L := ⟨r, ro, 0, 0, true⟩) hh (by omega)
      simp [loadAt, hy, sureAddr, loadVar, run_isAgg ht w, hcell]
    · cases hv

theorem OpOk.sliceFrz {t e : TypeId} {x : Operand} {lo hi : Option Operand} {n size l h : Nat} {c : List Value} {kl kh : IntKind} (ho : o.op = .slice t x lo hi none) (hc : okConst x = true)
    (hx : evalC a x = frz n c) (hu : P.underlying t = some (.slice e)) (hz : szC P e = some size) (hlen : c.length = n * size)
    (hlo : (lo = none ∧ l = 0) ∨ ∃ y, lo = some y ∧ okConst y = true ∧ evalC a y = .int kl l) (hhi : (hi = none ∧ h = n) ∨ ∃ y, hi = some y ∧ okConst y = true ∧ evalC a y = .int kh h) (hlh : l ≤ h) (hhc : h ≤ n) :
    OpOk P o a m (frz (h - l) ((c.drop (l * size)).take ((h - l) * size))) m ⟨[], []⟩ := by
  refine OpOk.quiet fun ι tt w hs => ?_
  have hrx := rv_operand hs (x := x) (by rw [ho]; simp [Op.operands]) hc
  rw [hx] at hrx
  have bounds : ∀ cap', h ≤ cap' → (sliceBounds true n cap' (lo.map (act tt).eval) (hi.map (act tt).eval) none).run P w = .ok (l, h, cap') w := fun cap' hcap' => by
    have hhv : hi.map (act tt).eval = hi.map (fun _ => Value.int kh h) := by
      rcases hhi with ⟨rfl, _⟩ | ⟨y, rfl, hy1, hy2⟩
      · rfl
      · have := rv_operand hs (x := y) (by rw [ho]; simp [Op.operands]) hy1
        rw [hy2] at this
        simp [this.int_inv]
    have hlv : lo.map (act tt).eval = lo.map (fun _ => Value.int kl l) := by
      rcases hlo with ⟨rfl, _⟩ | ⟨y, rfl, hy1, hy2⟩
      · rfl
      · have := rv_operand hs (x := y) (by rw [ho]; simp [Op.operands]) hy1
        rw [hy2] at this
        simp [this.int_inv]
    rw [hhv, hlv]
    rcases hhi with ⟨rfl, rfl⟩ | ⟨y, rfl, _, _⟩ <;> rcases hlo with ⟨rfl, rfl⟩ | ⟨z, rfl, _, _⟩ <;>
      simp [sliceBounds, sliceBound, asIntOf, *]
  have hsub : ∀ l h : Nat, l ≤ h → h ≤ n → ((c.drop (l * size)).take ((h - l) * size)).length = (h - l) * size := fun l h h1 h2 => by
    have e1 : (h - l) * size + l * size = h * size := by rw [← Nat.add_mul]; congr 1; omega
    have e2 : h * size ≤ n * size := Nat.mul_le_mul_right _ h2
    simp only [List.length_take, List.length_drop]
    omega
  generalize hy : (act tt).eval x = y at hrx
  cases hrx with
  | iface _ ht => exact absurd ht (by decide)
  | frzN =>
    have hh0 : h = 0 := by omega
    have hl0 : l = 0 := by omega
    subst hh0; subst hl0
    refine ⟨.slice none 0 0, by simpa using RV.frzN, ?_⟩
    unfold execOp; rw [ho]
    have hbnd := bounds 0 (by omega)
    simp [Instr.sliceAt, run_underlying hu w, hy, Instr.slice, hbnd, run_szC hz w]
  | frzE q cap =>
    have hh0 : h = 0 := by omega
    have hl0 : l = 0 := by omega
    subst hh0; subst hl0
    refine ⟨.slice (some q) 0 cap, by simpa using RV.frzE q cap, ?_⟩
    unfold execOp; rw [ho]
    have hbnd := bounds cap (by omega)
    simp only [Instr.sliceAt, Sem.run_bind, run_underlying hu w, Result.andThen_ok, hy, Instr.slice, hbnd, run_szC hz w, Sem.run_pure, Option.map_none]
    by_cases hcl : cap = 0 <;> simp [hcl, Addr.add]
  | @frz _ _ r off cap cr hr hcap hp hfit hcc =>
    have e1 : (h - l) * size + l * size = h * size := by rw [← Nat.add_mul]; congr 1; omega
    have e2 : h * size ≤ n * size := Nat.mul_le_mul_right _ hhc
    have hpsub : pures ((c.drop (l * size)).take ((h - l) * size)) = true := by
      have key : ∀ (c : List Value) (i j : Nat), pures c = true → pures ((c.drop i).take j) = true := by
        intro c
        induction c with
        | nil => intro i j _; simp [pures]
        | cons v c ih =>
          intro i j hp
          simp only [pures, Bool.and_eq_true] at hp
          cases i with
          | zero =>
            cases j with
            | zero => simp [pures]
            | succ j => have := ih 0 j hp.2; simp only [List.drop_zero] at this; simp [pures, hp.1, this]
          | succ i => simpa using ih i j hp.2
      exact key c _ _ hp
    by_cases hcl : cap = l
    · have hll : h - l = 0 := by omega
      refine ⟨.slice (some ⟨r, off, none⟩) 0 0, ?_, ?_⟩
      · rw [hll]; simpa using RV.frzE ⟨r, off, none⟩ 0
      · unfold execOp; rw [ho]
        have hbnd := bounds cap (by omega)
        simp only [Instr.sliceAt, Sem.run_bind, run_underlying hu w, Result.andThen_ok, hy, Instr.slice, hbnd, run_szC hz w, Sem.run_pure, Option.map_none]
        have : h = l := by omega
        subst this
        simp [hcl]
    · refine ⟨.slice (some ⟨r, off + l * size, none⟩) (h - l) (cap - l), .frz hr (by omega) hpsub (by rw [hsub l h hlh hhc]; omega) (fun i hi => ?_), ?_⟩
      · rw [hsub l h hlh hhc] at hi
        have := hcc (l * size + i) (by omega)
        rw [Nat.add_assoc]
        simpa [List.getD_eq_getElem?_getD, List.getElem?_take, hi, List.getElem?_drop] using this
      · unfold execOp; rw [ho]
        have hbnd := bounds cap (by omega)
        simp only [Instr.sliceAt, Sem.run_bind, run_underlying hu w, Result.andThen_ok, hy, Instr.slice, hbnd, run_szC hz w, Sem.run_pure, Option.map_none]
        simp [hcl, addr_add]

/-- A slice of nothing, with no room: s[:0:0]. -/
theorem OpOk.empFrz {t e : TypeId} {x y z : Operand} {n size : Nat} {c : List Value} {kh km : IntKind} (ho : o.op = .slice t x none (some y) (some z)) (hc : okConst x = true) (hcy : okConst y = true) (hcz : okConst z = true)
    (hx : evalC a x = frz n c) (hy : evalC a y = .int kh 0) (hz : evalC a z = .int km 0) (hu : P.underlying t = some (.slice e)) (hsz : szC P e = some size) : OpOk P o a m emp m ⟨[], []⟩ := by
  refine OpOk.quiet fun ι tt w hs => ?_
  have hrx := rv_operand hs (x := x) (by rw [ho]; simp [Op.operands]) hc
  rw [hx] at hrx
  have h1 := rv_operand hs (x := y) (by rw [ho]; simp [Op.operands]) hcy
  rw [hy] at h1
  have h2 := rv_operand hs (x := z) (by rw [ho]; simp [Op.operands]) hcz
  rw [hz] at h2
  have h1 := h1.int_inv
  have h2 := h2.int_inv
  generalize hgy : (act tt).eval x = v at hrx
  cases hrx with
  | iface _ ht => exact absurd ht (by decide)
  | frzN =>
    refine ⟨.slice none 0 0, .empN, ?_⟩
    unfold execOp; rw [ho]
    simp [Instr.sliceAt, run_underlying hu w, hgy, h1, h2, Instr.slice, run_szC hsz w, sliceBounds, sliceBound, asIntOf]
  | frzE q cap =>
    refine ⟨.slice (some q) 0 0, .empE q, ?_⟩
    unfold execOp; rw [ho]
    simp [Instr.sliceAt, run_underlying hu w, hgy, h1, h2, Instr.slice, run_szC hsz w, sliceBounds, sliceBound, asIntOf, Addr.add]
  | @frz _ _ r off cap cr hr hcap hp hfit hcc =>
    refine ⟨.slice (some ⟨r, off, none⟩) 0 0, .empE _, ?_⟩
    unfold execOp; rw [ho]
    simp [Instr.sliceAt, run_underlying hu w, hgy, h1, h2, Instr.slice, run_szC hsz w, sliceBounds, sliceBound, asIntOf, Addr.add]

/-- A block that is given up. -/
theorem OpOk.forget {v : Value} {m1 : List Blk} {b : Nat} {rd : List Nat} (hb : b < m.length) (h : OpOk P o a m v m1 ⟨rd, []⟩) : OpOk P o a m v (m1.set b .gone) ⟨b :: rd, [b]⟩ where
  len := by have := h.len; simpa using this
  sub := by simp
  rdlt := fun x hx => by
    rcases List.mem_cons.1 hx with rfl | hx
    · exact hb
    · exact h.rdlt x hx
  same := fun x hx hn => by
    have hne : b ≠ x := fun e => hn (by simp [e])
    rw [← h.same x hx (by simp), List.getD_eq_getElem?_getD, List.getD_eq_getElem?_getD, List.getElem?_set_ne hne]
  run := fun ι t w hs hdom hsim next Q hn => by
    have hl := h.len
    have e1 : ((at_ m).only (isIn (b :: rd))).only (isIn rd) = (at_ m).only (isIn rd) := by
      funext x
      simp only [Cont.only]
      cases hx : isIn rd x with
      | false => simp
      | true =>
        have : isIn (b :: rd) x = true := by simp only [isIn] at hx ⊢; simp at hx ⊢; exact .inr hx
        simp [this]
    refine h.run ι t w hs (fun x h1 h2 => hdom x h1 (by simpa using h2)) (by rw [← e1]; exact hsim.only _) next Q fun v' w1 ι' h1 h2 h3 h4 => ?_
    -- all that is touched, but for the block
    have hfr := Sim.frame (C := (at_ m).only (isIn (b :: rd))) (C' := at_ m1) (D := fun x => if tch rd m.length m1.length x then at_ m1 x else ((at_ m).only (isIn (b :: rd))) x) (R := isIn rd) (T := tch rd m.length m1.length) hsim
      (fun x hx => by simp only [isIn] at hx; unfold tch; rw [hx]; rfl) (by rw [e1]; exact h2) h3 (fun x => rfl)
    obtain ⟨hS, hE⟩ := hfr
    have hsub : ∀ x, ((at_ (m1.set b .gone)).only (tch (b :: rd) m.length (m1.set b .gone).length)) x = .gone ∨ ((at_ (m1.set b .gone)).only (tch (b :: rd) m.length (m1.set b .gone).length)) x = (if tch rd m.length m1.length x then at_ m1 x else ((at_ m).only (isIn (b :: rd))) x) := fun x => by
      by_cases hx : x = b
      · left
        subst hx
        simp only [Cont.only]
        split
        · simp only [at_, List.getD_eq_getElem?_getD, List.getElem?_set_self (show x < m1.length by omega)]; rfl
        · rfl
      · have et : tch (b :: rd) m.length (m1.set b .gone).length x = tch rd m.length m1.length x := by simp [tch, hx]
        have ei : isIn (b :: rd) x = isIn rd x := by simp [isIn, hx]
        have ea : at_ (m1.set b .gone) x = at_ m1 x := by simp [at_, List.getD_eq_getElem?_getD, List.getElem?_set_ne (Ne.symm hx)]
        simp only [Cont.only, et, ei, ea]
        cases ht : tch rd m.length m1.length x with
        | true => right; simp
        | false => left; simp
    refine hn v' w1 ι' h1 ⟨hE.le, hE.size, hE.os, hE.tape, hE.output, hE.frame, fun k ⟨x, K, ho, hK, hk⟩ => ?_, fun k ⟨x, K, ho, hK, hk⟩ => ?_, hE.fro⟩ ⟨fun x => ?_, fun x x2 K K2 hne ho hl' hK hK2 => ?_, hS.fro, fun x K r c ho hK hr => ?_, hS.glo⟩ (fun x hx hx' => by have := h4 x hx hx'; simpa using this)
    · rcases hsub x with e | e
      · rw [e] at ho; cases ho
      · rw [e] at ho; exact hE.own k ⟨x, K, ho, hK, hk⟩
    · rcases hsub x with e | e
      · rw [e] at ho; cases ho
      · rw [e] at ho; exact hE.live k ⟨x, K, ho, hK, hk⟩
    · rcases hsub x with e | e
      · rw [e]; trivial
      · rw [e]; exact hS.blk x
    · rcases hsub x with e | e
      · rw [e] at ho; cases ho
      · rcases hsub x2 with e2 | e2
        · rw [e2] at hl'; cases hl'
        · rw [e] at ho; rw [e2] at hl'
          exact hS.sep x x2 K K2 hne ho hl' hK hK2
    · rcases hsub x with e | e
      · rw [e] at ho; cases ho
      · rw [e] at ho; exact hS.apart x K r c ho hK hr

def isSl (P : Program) (t : TypeId) : Bool := match P.underlying t with
  | some (.slice _) => true
  | _ => false

def isZero (a : List Value) (x : Operand) : Bool := okConst x && (match evalC a x with | .int _ 0 => true | _ => false)
theorem isZero_ok {x : Operand} (h : isZero a x = true) : okConst x = true ∧ ∃ k, evalC a x = .int k 0 := by
  unfold isZero at h
  rw [Bool.and_eq_true] at h
  refine ⟨h.1, ?_⟩
  have h2 := h.2
  split at h2
  · rename_i k he; exact ⟨k, he⟩
  · cases h2
def opG (P : Program) (o : Oper) (a : List Value) (m : List Blk) : Option Out :=
  match o.op with
  | .call c => match c.callee with
    | .builtin .len => match c.args.toList, c.argTypes.toList with
      | [x], [t] => match asFrz (evalC a x) with
        | some (n, _) => if okConst x && isSl P t then some (.int .i64 n, m, ⟨[], []⟩) else none
        | none => none
      | _, _ => none
    | _ => none
  | .fieldAddr t x f => match asFrp (evalC a x) with
    | some (c, off) => if okConst x then match P.underlying t with
        | some (.struct fs) => match fs[f]? with
          | some fd => match szC P fd.type with
            | some (_ + 1) => nf fd.offset fun d => some (frp c (off + d), m, ⟨[], []⟩)
            | _ => none
          | none => none
        | _ => none
      else none
    | none => none
  | .indexAddr t x ix => match asFrp (evalC a x), evalC a ix with
    | some (c, off), .int _ i => if okConst x && okConst ix then match P.underlying t with
        | some (.array len e) => match szC P e with
          | some n => if (decide (0 ≤ i) && decide (i < len)) = true then some (frp c (off + i.toNat * n), m, ⟨[], []⟩) else none
          | none => none
        | _ => none
      else none
    | _, _ => none
  | .slice t x none (some y) (some z) => match asFrz (evalC a x) with
    | some _ => if okConst x && isZero a y && isZero a z then match P.underlying t with
        | some (.slice e) => match szC P e with
          | some _ => some (emp, m, ⟨[], []⟩)
          | none => none
        | _ => none
      else none
    | none => none
  | _ => none

theorem opG_ok {v : Value} {m' : List Blk} {fp : Fp} (h : opG P o a m = some (v, m', fp)) : OpOk P o a m v m' fp := by
  unfold opG at h
  split at h
  · rename_i c ho
    split at h
    · rename_i hcal
      split at h
      · rename_i x t h1 h2
        split at h
        · rename_i n c' hx
          split at h
          · rename_i hc
            rw [Bool.and_eq_true] at hc
            cases h
            obtain ⟨callee, ⟨xs⟩, ⟨ts⟩⟩ := c
            simp only at hcal h1 h2
            subst hcal; subst h1; subst h2
            have hsl := hc.2
            unfold isSl at hsl
            split at hsl
            · rename_i e hu
              exact OpOk.lenFrz ho hc.1 (asFrz_ok hx) hu
            · cases hsl
          · cases h
        · cases h
      · cases h
    · cases h
  · rename_i t x f ho
    split at h
    · rename_i c off hx
      split at h
      · rename_i hc
        split at h
        · rename_i fs hu
          split at h
          · rename_i fd hf
            split at h
            · rename_i n hz; rw [nf_eq] at h; cases h; exact OpOk.fieldFrp ho hc (asFrp_ok hx) hu hf hz
            · cases h
          · cases h
        · cases h
      · cases h
    · cases h
  · rename_i t x ix ho
    split at h
    · rename_i c off k i hx hi
      split at h
      · rename_i hc
        rw [Bool.and_eq_true] at hc
        split at h
        · rename_i len e hu
          split at h
          · rename_i n hz
            split at h
            · rename_i hb
              simp only [Bool.and_eq_true, decide_eq_true_eq] at hb
              cases h; exact OpOk.idxFrp ho hc.1 hc.2 (asFrp_ok hx) hi hu hz hb.1 hb.2
            · cases h
          · cases h
        · cases h
      · cases h
    · cases h
  · rename_i t x y z ho
    split at h
    · rename_i p hx
      obtain ⟨n, c⟩ := p
      split at h
      · rename_i hc
        simp only [Bool.and_eq_true] at hc
        obtain ⟨hy, ky, hy2⟩ := isZero_ok hc.1.2
        obtain ⟨hz, kz, hz2⟩ := isZero_ok hc.2
        split at h
        · rename_i e hu
          split at h
          · rename_i sz hsz
            cases h
            exact OpOk.empFrz ho hc.1.1 hy hz (asFrz_ok hx) hy2 hz2 hu hsz
          · cases h
        · cases h
      · cases h
    · cases h
  · cases h

/-- One operation, as far as it can be reckoned. -/
def opA (P : Program) (o : Oper) (a : List Value) (m : List Blk) : Option Out :=
  match opB P o a m with
  | some x => some x
  | none => match opF P o a m with
    | some x => some x
    | none => opG P o a m

theorem opA_ok {v : Value} {m' : List Blk} {fp : Fp} (h : opA P o a m = some (v, m', fp)) : OpOk P o a m v m' fp := by
  unfold opA at h
  split at h
  · rename_i x hx; cases h; exact opB_ok hx
  · split at h
    · rename_i x hx; cases h; exact opF_ok hx
    · exact opG_ok h

end

end

end Go.Dt
