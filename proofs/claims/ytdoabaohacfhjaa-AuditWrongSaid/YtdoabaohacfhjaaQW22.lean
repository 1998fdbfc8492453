/- Several texts in one: AUe, AUf, AUg. -/
import Derived.Test.YtdoabaohacfhjaaQW20
import Derived.Test.YtdoabaohacfhjaaQW21
namespace Go.Proofs.Ytdoabaohacfhjaa.Lf

section
open Go Go.Dt Go.Proofs
set_option linter.unusedVariables false
set_option linter.unusedSimpArgs false

structure Book where
  workers : Int
  tiles : Int
  frames : Int
  opn : Bool
  drawn : List (Int × Int)
  over : List Int
abbrev taskV (t : Int × Int) : Value := .agg ⟨[.int .i64 t.1, .int .i64 t.2]⟩
abbrev bookB (s : Book) : Blk := .cells [.int .i64 s.workers, .int .i64 s.tiles, .int .i64 s.frames, .bool s.opn, .map (some 0), .map (some 1)] 0 true
abbrev bookM (s : Book) : List Blk := [mapK (s.drawn.map taskV), mapK (s.over.map (Value.int .i64)), bookB s]
abbrev evV (e : TEvent) : Value := .agg ⟨[.int .i64 e.Who, .int .i64 e.Kind, .int .i64 e.A, .int .i64 e.B]⟩

theorem ents_all (p : MapEntry → Bool) (q : Value → Bool) (h : ∀ k n, p ⟨k, .int .i64 1, n⟩ = q k) : ∀ (ks : List Value) (n : Nat), (ents n ks).all p = ks.all q
  | [], _ => rfl
  | k :: ks, n => by simp [ents, h, ents_all p q h ks (n + 1)]
theorem plains_task (d : List (Int × Int)) : plains (d.map taskV) = true := by
  induction d with
  | nil => rfl
  | cons x d ih => simp only [List.map_cons, plains, Bool.and_eq_true]; exact ⟨rfl, ih⟩
theorem plains_int (d : List Int) : plains (d.map (Value.int .i64)) = true := by
  induction d with
  | nil => rfl
  | cons x d ih => simp only [List.map_cons, plains, Bool.and_eq_true]; exact ⟨rfl, ih⟩
theorem okB_mapK (m : List Blk) (ks : List Value) (h : ks.all (okV m) = true) : okB m (mapK ks) = true := by
  show (ents 0 ks).all (fun e => okV m e.key && okV m e.val) = true
  rw [ents_all _ (okV m) (fun k n => by simp [okV])]; exact h
theorem bookOk (s : Book) : okM (bookM s) = true := by
  unfold okM
  rw [List.all_eq_true]
  intro x hx
  simp only [bookM, List.mem_cons, List.not_mem_nil, or_false] at hx
  rcases hx with rfl | rfl | rfl
  · exact okB_mapK _ _ (by rw [List.all_eq_true]; intro v hv; obtain ⟨t, _, rfl⟩ := List.mem_map.1 hv; rfl)
  · exact okB_mapK _ _ (by rw [List.all_eq_true]; intro v hv; obtain ⟨t, _, rfl⟩ := List.mem_map.1 hv; rfl)
  · rfl

/-! ### Keys -/
def taskF (A B : Int) : Value → Bool
  | .agg ⟨[.int _ a, .int _ b]⟩ => (A == a) && ((B == b) && true)
  | _ => false
theorem find_task (d : List (Int × Int)) (A B : Int) : Finds Try.prog 54 (taskV (A, B)) (d.map taskV) ((d.map taskV).findIdx? (taskF A B)) :=
  Finds.wide (by kernel_rfl) (fun em => by cases em <;> kernel_rfl) (fun k hk => by
    obtain ⟨t, _, rfl⟩ := List.mem_map.1 hk
    kernel_rfl)
theorem any_task (d : List (Int × Int)) (A B : Int) : d.contains (A, B) = (d.map taskV).any (taskF A B) := by
  rw [List.contains_eq_any_beq, List.any_map]
  congr 1
  funext t
  obtain ⟨a, b⟩ := t
  rw [Bool.eq_iff_iff]
  simp [taskF]
theorem hit_task (d : List (Int × Int)) (A B : Int) : Hit Try.prog 54 (taskV (A, B)) (d.map taskV) (d.contains (A, B)) :=
  ⟨_, find_task d A B, by rw [any_task, List.findIdx?_isSome], fun i h => (List.findIdx?_eq_some_iff_getElem.1 h).1⟩
theorem hit_int (l : List Int) (x : Int) : Hit Try.prog 3 (.int .i64 x) (l.map (Value.int .i64)) (l.contains x) :=
  ⟨_, Finds.ints (k := .i64) (by kernel_rfl), by rw [List.findIdx?_isSome, List.contains_eq_any_beq], fun i h => by simpa using (List.findIdx?_eq_some_iff_getElem.1 h).1⟩
theorem none_task {d : List (Int × Int)} {A B : Int} (h : d.contains (A, B) = false) : Finds Try.prog 54 (taskV (A, B)) (d.map taskV) none := by
  have := find_task d A B
  rw [any_task] at h
  rwa [List.findIdx?_eq_none_iff.2 (fun x hx => by have := List.any_eq_false.1 h x hx; simpa using this)] at this
theorem none_int {l : List Int} {x : Int} (h : l.contains x = false) : Finds Try.prog 3 (.int .i64 x) (l.map (Value.int .i64)) none := by
  have := Finds.ints (P := Try.prog) (kt := 3) (k := .i64) (x := x) (l := l) (by kernel_rfl)
  rw [List.contains_eq_any_beq] at h
  rwa [List.findIdx?_eq_none_iff.2 (fun y hy => by have := List.any_eq_false.1 h y hy; simpa using this)] at this
theorem snoc_task {d : List (Int × Int)} {A B : Int} (h : d.contains (A, B) = false) : Finds Try.prog 54 (taskV (A, B)) (d.map taskV ++ [taskV (A, B)]) (some (d.map taskV).length) := by
  have := find_task (d ++ [(A, B)]) A B
  rw [any_task] at h
  rw [List.map_append, List.findIdx?_append, List.findIdx?_eq_none_iff.2 (fun x hx => by have := List.any_eq_false.1 h x hx; simpa using this)] at this
  simpa [taskF] using this
theorem snoc_int {l : List Int} {x : Int} (h : l.contains x = false) : Finds Try.prog 3 (.int .i64 x) (l.map (Value.int .i64) ++ [.int .i64 x]) (some (l.map (Value.int .i64)).length) := by
  have := Finds.ints (P := Try.prog) (kt := 3) (k := .i64) (x := x) (l := l ++ [x]) (by kernel_rfl)
  rw [List.contains_eq_any_beq] at h
  rw [List.map_append, List.findIdx?_append, List.findIdx?_eq_none_iff.2 (fun y hy => by have := List.any_eq_false.1 h y hy; simpa using this)] at this
  simpa using this
theorem no_hit {hit : Bool} (h : decide ((bif hit then (1 : Int) else 0) > 0) = false) : hit = false := by cases hit <;> simp_all

/-! ### Steps -/
section
variable {f : FuncId} {n0 : Nat} {ρ : Type} {E : ρ → Value} {M : ρ → List Blk} {s : VS} {T : Option ρ}
/-- As 'LiftsM', of the first blocks alone. -/
def LiftsT (f : FuncId) (n0 : Nat) {ρ : Type} (E : ρ → Value) (M : ρ → List Blk) (s : VS) (o : Option ρ) : Prop := ∀ r, o = some r → RunsQ (fun m => m.take n0 = M r) Try.prog f n0 s (E r)
theorem LT.no : LiftsT f n0 E M s Option.none := fun r h => by cases h
theorem LT.ret (fn : Func) (hf : Try.prog.funcs[f]? = some fn) {r0 : ρ} (v : Value) (h : retOf Try.prog fn (go Try.prog s) = some v) (e : v = E r0) (hq : (go Try.prog s).mem.take n0 = M r0) : LiftsT f n0 E M s (some r0) := fun r hr => by
  cases hr
  subst e
  exact Q.fin mixed hf h hq
theorem LT.br {T1 T2 : Option ρ} (n : Nat) (b : Bool) (hs : condOf (vadv Try.prog n s) = some b) (h1 : b = true → LiftsT f n0 E M (goC (vadv Try.prog n s) true) T1) (h0 : b = false → LiftsT f n0 E M (goC (vadv Try.prog n s) false) T2) :
    LiftsT f n0 E M s (bif b then T1 else T2) := fun r hr => by
  refine Q.branch mixed n b hs (fun h => ?_) (fun h => ?_)
  · subst h; exact h1 rfl r hr
  · subst h; exact h0 rfl r hr
theorem LT.gu {T1 T2 : Option ρ} (n : Nat) (b : Bool) (hs : guardB (vadv Try.prog n s) = some b) (h1 : b = true → LiftsT f n0 E M (setG (vadv Try.prog n s) true) T1) (h0 : b = false → LiftsT f n0 E M (setG (vadv Try.prog n s) false) T2) :
    LiftsT f n0 E M s (bif b then T1 else T2) := fun r hr => by
  refine Q.guard mixed n b hs (fun h => ?_) (fun h => ?_)
  · subst h; exact h1 rfl r hr
  · subst h; exact h0 rfl r hr
theorem LT.div (n' : Nat) (n d : Int) (hs : divAt (vadv Try.prog n' s) = some (false, .i64, n, d)) (h : LiftsT f n0 E M (afterOne (vadv Try.prog n' s) (.int .i64 (IntKind.i64.wrap (n.tdiv d)))) T) : LiftsT f n0 E M s (bif d != 0 then T else none) := fun r hr => by
  by_cases hd : d = 0
  · subst hd; cases hr
  · rw [show (d != 0) = true by simpa using hd] at hr
    exact Q.div mixed n' false .i64 n d hd hs (h r hr)
theorem LT.lookT (n' : Nat) (A B : Int) (d : List (Int × Int)) (hs : lkAt Try.prog (vadv Try.prog n' s) = some (41, 54, 3, 0, taskV (A, B))) (hb : (vadv Try.prog n' s).mem[0]? = some (mapK (d.map taskV)))
    (h : LiftsT f n0 E M (afterRd (vadv Try.prog n' s) 0 (.int .i64 (bif d.contains (A, B) then 1 else 0))) T) : LiftsT f n0 E M s T := fun r hr =>
  Q.look mixed n' _ _ _ _ _ _ _ hs hb rfl (plains_task d) (hit_task d A B) (by kernel_rfl) (h r hr)
theorem LT.lookI (n' : Nat) (x : Int) (d : List Int) (hs : lkAt Try.prog (vadv Try.prog n' s) = some (42, 3, 3, 1, .int .i64 x)) (hb : (vadv Try.prog n' s).mem[1]? = some (mapK (d.map (Value.int .i64))))
    (h : LiftsT f n0 E M (afterRd (vadv Try.prog n' s) 1 (.int .i64 (bif d.contains x then 1 else 0))) T) : LiftsT f n0 E M s T := fun r hr =>
  Q.look mixed n' _ _ _ _ _ _ _ hs hb rfl (plains_int d) (hit_int d x) (by kernel_rfl) (h r hr)
theorem LT.lookST (n' : Nat) (A B : Int) (d : List (Int × Int)) (hn : d.contains (A, B) = false) (hs : lkAt Try.prog (vadv Try.prog n' s) = some (41, 54, 3, 0, taskV (A, B))) (hb : (vadv Try.prog n' s).mem[0]? = some (mapK (d.map taskV)))
    (h : LiftsT f n0 E M (afterSf (vadv Try.prog n' s) (.int .i64 0) 0 (entB (d.map taskV) (taskV (A, B)))) T) : LiftsT f n0 E M s T := fun r hr =>
  Q.lookS mixed n' _ _ _ _ _ _ hs hb rfl (plains_task d) (none_task hn) (snoc_task hn) (by kernel_rfl) (h r hr)
theorem LT.lookSI (n' : Nat) (x : Int) (d : List Int) (hn : d.contains x = false) (hs : lkAt Try.prog (vadv Try.prog n' s) = some (42, 3, 3, 1, .int .i64 x)) (hb : (vadv Try.prog n' s).mem[1]? = some (mapK (d.map (Value.int .i64))))
    (h : LiftsT f n0 E M (afterSf (vadv Try.prog n' s) (.int .i64 0) 1 (entB (d.map (Value.int .i64)) (.int .i64 x))) T) : LiftsT f n0 E M s T := fun r hr =>
  Q.lookS mixed n' _ _ _ _ _ _ hs hb rfl (plains_int d) (none_int hn) (snoc_int hn) (by kernel_rfl) (h r hr)
theorem LT.entT (n' : Nat) (A B : Int) (d : List (Int × Int)) (hn : d.contains (A, B) = false) (hs : enAt Try.prog (vadv Try.prog n' s) = some (41, 54, 3, 0, taskV (A, B))) (hb : (vadv Try.prog n' s).mem[0]? = some (mapK (d.map taskV)))
    (h : LiftsT f n0 E M (afterEn (vadv Try.prog n' s) (.tuple ⟨[.int .i64 0, .int .i64 ((d.map taskV).length : Nat)]⟩) 0 (entB (d.map taskV) (taskV (A, B)))) T) : LiftsT f n0 E M s T := fun r hr =>
  Q.entK mixed n' _ _ _ _ _ _ hs hb rfl (plains_task d) (none_task hn) (by kernel_rfl) (h r hr)
theorem LT.entI (n' : Nat) (x : Int) (d : List Int) (hn : d.contains x = false) (hs : enAt Try.prog (vadv Try.prog n' s) = some (42, 3, 3, 1, .int .i64 x)) (hb : (vadv Try.prog n' s).mem[1]? = some (mapK (d.map (Value.int .i64))))
    (h : LiftsT f n0 E M (afterEn (vadv Try.prog n' s) (.tuple ⟨[.int .i64 0, .int .i64 ((d.map (Value.int .i64)).length : Nat)]⟩) 1 (entB (d.map (Value.int .i64)) (.int .i64 x))) T) : LiftsT f n0 E M s T := fun r hr =>
  Q.entK mixed n' _ _ _ _ _ _ hs hb rfl (plains_int d) (none_int hn) (by kernel_rfl) (h r hr)
theorem LT.estT (n' : Nat) (A B : Int) (d : List (Int × Int)) (hs : esAt (vadv Try.prog n' s) = some (0, (((d.map taskV).length : Nat) : Int), .int .i64 1)) (hb : (vadv Try.prog n' s).mem[0]? = some (entB (d.map taskV) (taskV (A, B))))
    (h : LiftsT f n0 E M (afterWr (vadv Try.prog n' s) 0 (mapK ((d ++ [(A, B)]).map taskV))) T) : LiftsT f n0 E M s T := fun r hr =>
  Q.estK mixed n' _ _ _ hs hb (by have := h r hr; rwa [List.map_append] at this)
theorem LT.estI (n' : Nat) (x : Int) (d : List Int) (hs : esAt (vadv Try.prog n' s) = some (1, (((d.map (Value.int .i64)).length : Nat) : Int), .int .i64 1)) (hb : (vadv Try.prog n' s).mem[1]? = some (entB (d.map (Value.int .i64)) (.int .i64 x)))
    (h : LiftsT f n0 E M (afterWr (vadv Try.prog n' s) 1 (mapK ((d ++ [x]).map (Value.int .i64)))) T) : LiftsT f n0 E M s T := fun r hr =>
  Q.estK mixed n' _ _ _ hs hb (by have := h r hr; rwa [List.map_append] at this)
theorem LT.endS (n' : Nat) (x y : Blk) (e : x = y) (hs : endQ (vadv Try.prog n' s) = some [(x, y)]) (h : LiftsT f n0 E M (afterEnd (vadv Try.prog n' s)) T) : LiftsT f n0 E M s T := fun r hr =>
  Q.endS mixed n' _ hs (fun p hp => by have : p = (x, y) := by simpa using hp
                                       subst this; exact e) (h r hr)
theorem LT.callR {g : FuncId} {vs : List Value} {mf mf' : List Blk} {u : Value} (Es : List Ent) (c : ConM Try.prog g vs mf u mf') (hs : downAt Es (go Try.prog s) = some (g, vs, mf)) (hE : okE Es (go Try.prog s).mem mf' = true) (hview : Es.all (fun e => !e.plain) = true)
    (h : LiftsT f n0 E M (afterM Es [] (go Try.prog s) (upV (back (kap Es) Es.length mf'.length (go Try.prog s).mem.length) u) mf') T) : LiftsT f n0 E M s T := fun r hr => Q.callM mixed Es c hs hE hview (h r hr)
theorem LT.callB {g : FuncId} {e : TEvent} {b : Book} {G : Option (Int × Book)} {k : Int × Book → Option ρ} (ext : List Blk) (c : ∀ u, G = some u → ConM Try.prog g [.pointer (some ⟨2, 0, none⟩), evV e] (bookM b) (.int .i64 u.1) (bookM u.2))
    (hs : callAt (go Try.prog s) = some (g, [.pointer (some ⟨2, 0, none⟩), evV e])) (hmem : (go Try.prog s).mem = bookM b ++ ext)
    (h : ∀ u, G = some u → LiftsT f n0 E M (afterPre (bookM b) (bookM u.2) ext (go Try.prog s) (.int .i64 u.1)) (k u)) : LiftsT f n0 E M s (G.bind k) := fun r hr => by
  cases hG : G with
  | none => rw [hG] at hr; cases hr
  | some u =>
    rw [hG] at hr
    exact Q.callPre mixed (bookM b) (bookM u.2) ext (c u hG) hs hmem (bookOk b) (bookOk u.2) rfl rfl rfl rfl (h u hG r hr)
theorem LT.con {g : FuncId} {fn : Func} {args : List Value} {b : Book} {o : Option (Int × Book)} (hf : Try.prog.funcs[g]? = some fn) (hn : ((fn.name == "runtime.NumGoroutine") || fn.body.isNone) = false)
    (h : LiftsT g 3 (fun r : Int × Book => .int .i64 r.1) (fun r => bookM r.2) (entry fn args (bookM b)) o) : ∀ r, o = some r → ConM Try.prog g args (bookM b) (.int .i64 r.1) (bookM r.2) := fun r hr =>
  ConM.takes hf hn rfl rfl (bookOk r.2) (h r hr)
end

end

section
open Go Go.Dt Go.Proofs
set_option linter.unusedVariables false
set_option linter.unusedSimpArgs false

def nowF (frames x : Int) : Bool := bif decide (frames > 0) then x == IntKind.i64.wrap (frames - 1) else false
theorem now_con (w t fr : Int) (o : Bool) (x : Int) : ConM Try.prog 15 [.pointer (some ⟨0, 0, none⟩), .int .i64 x] [.cells [.int .i64 w, .int .i64 t, .int .i64 fr, .bool o, undef, undef] 0 false] (.bool (nowF fr x)) [.gone] :=
  ConM.reads Try.func15 (by kernel_rfl) rfl <|
    R.guard mixed 12 (decide (fr > 0)) (by kernel_rfl)
      (fun h => R.finIs mixed Try.func15 (.bool (x == IntKind.i64.wrap (fr - 1))) (by kernel_rfl) (by simp [nowF, h]))
      (fun h => R.finIs mixed Try.func15 (.bool false) (by kernel_rfl) (by simp [nowF, h]))
theorem one_of {hit : Bool} (h : hit = false) : (Value.int .i64 (IntKind.i64.wrap ((bif hit then (1 : Int) else 0) + 1))) = .int .i64 1 := by subst h; rfl
theorem LT.updI {f : FuncId} {n0 : Nat} {ρ : Type} {E : ρ → Value} {M : ρ → List Blk} {s : VS} {T : Option ρ} (n' : Nat) (x : Int) (d : List Int) (hn : d.contains x = false) (u : Value) (hu : u = .int .i64 1) (hs : upAt Try.prog (vadv Try.prog n' s) = some (42, 3, 3, 1, .int .i64 x, u)) (hb : (vadv Try.prog n' s).mem[1]? = some (mapK (d.map (Value.int .i64))))
    (h : LiftsT f n0 E M (afterWr (vadv Try.prog n' s) 1 (mapK ((d ++ [x]).map (Value.int .i64)))) T) : LiftsT f n0 E M s T := fun r hr =>
  Q.updK mixed n' _ _ _ _ _ _ _ hs hu hb rfl (plains_int d) (none_int hn) (by have := h r hr; rwa [List.map_append] at this)

end

section
open Go Go.Dt Go.Proofs
set_option linter.unusedVariables false

def Fsteal (a0 : Book) (a1 : TEvent) : Option (Int × Book) :=
  bif (decide (a1.A < 0)) then
    some (3, ⟨a0.workers, a0.tiles, a0.frames, a0.opn, a0.drawn, a0.over⟩)
  else
    bif (bif false then true else decide (a1.A ≥ a0.workers)) then
      some (3, ⟨a0.workers, a0.tiles, a0.frames, a0.opn, a0.drawn, a0.over⟩)
    else
      bif (bif false then true else a1.A == IntKind.i64.wrap (a1.Who - 1)) then
        some (3, ⟨a0.workers, a0.tiles, a0.frames, a0.opn, a0.drawn, a0.over⟩)
      else
        bif (decide (a1.B < 0)) then
          some (6, ⟨a0.workers, a0.tiles, a0.frames, a0.opn, a0.drawn, a0.over⟩)
        else
          bif a0.tiles != 0 then
            bif (bif false then true else !nowF a0.frames (IntKind.i64.wrap (a1.B.tdiv a0.tiles))) then
              some (6, ⟨a0.workers, a0.tiles, a0.frames, a0.opn, a0.drawn, a0.over⟩)
            else
              some (0, ⟨a0.workers, a0.tiles, a0.frames, a0.opn, a0.drawn, a0.over⟩)
          else none
theorem csteal (a0 : Book) (a1 : TEvent) : ∀ r, Fsteal a0 a1 = some r → ConM Try.prog 14 [.pointer (some ⟨2, 0, none⟩), evV a1] (bookM a0) (.int .i64 r.1) (bookM r.2) := by
  refine LT.con Try.func14 (by kernel_rfl) ?_
  unfold Fsteal
  exact
    LT.gu 13 _ (by kernel_rfl)
      (fun h1 =>
      LT.ret Try.f14 Try.func14 _ (by kernel_rfl) rfl (by kernel_rfl))
      (fun h1 =>
      LT.gu 9 _ (by kernel_rfl)
        (fun h2 =>
        LT.ret Try.f14 Try.func14 _ (by kernel_rfl) rfl (by kernel_rfl))
        (fun h2 =>
        LT.br 9 _ (by kernel_rfl)
          (fun h3 =>
          LT.ret Try.f14 Try.func14 _ (by kernel_rfl) rfl (by kernel_rfl))
          (fun h3 =>
          LT.gu 6 _ (by kernel_rfl)
            (fun h4 =>
            LT.ret Try.f14 Try.func14 _ (by kernel_rfl) rfl (by kernel_rfl))
            (fun h4 =>
            LT.div 7 a1.B a0.tiles (by kernel_rfl) <|
            LT.callR [.win 2 0 6 false] (now_con a0.workers a0.tiles a0.frames a0.opn (IntKind.i64.wrap (a1.B.tdiv a0.tiles))) (by kernel_rfl) (by kernel_rfl) rfl <|
            LT.br 4 _ (by kernel_rfl)
              (fun h5 =>
              LT.ret Try.f14 Try.func14 _ (by kernel_rfl) rfl (by kernel_rfl))
              (fun h5 =>
              LT.ret Try.f14 Try.func14 _ (by kernel_rfl) rfl (by kernel_rfl))))))
def Fdraw (a0 : Book) (a1 : TEvent) : Option (Int × Book) :=
  bif !a0.opn then
    some (6, ⟨a0.workers, a0.tiles, a0.frames, a0.opn, a0.drawn, a0.over⟩)
  else
    bif (bif false then true else !nowF a0.frames a1.A) then
      some (6, ⟨a0.workers, a0.tiles, a0.frames, a0.opn, a0.drawn, a0.over⟩)
    else
      bif (decide (a1.B < 0)) then
        some (10, ⟨a0.workers, a0.tiles, a0.frames, a0.opn, a0.drawn, a0.over⟩)
      else
        bif (bif false then true else decide (a1.B ≥ a0.tiles)) then
          some (10, ⟨a0.workers, a0.tiles, a0.frames, a0.opn, a0.drawn, a0.over⟩)
        else
          bif (decide ((bif a0.drawn.contains (a1.A, a1.B) then (1 : Int) else 0) > 0)) then
            some (4, ⟨a0.workers, a0.tiles, a0.frames, a0.opn, a0.drawn, a0.over⟩)
          else
            some (0, ⟨a0.workers, a0.tiles, a0.frames, a0.opn, a0.drawn ++ [(a1.A, a1.B)], a0.over⟩)
theorem cdraw (a0 : Book) (a1 : TEvent) : ∀ r, Fdraw a0 a1 = some r → ConM Try.prog 13 [.pointer (some ⟨2, 0, none⟩), evV a1] (bookM a0) (.int .i64 r.1) (bookM r.2) := by
  refine LT.con Try.func13 (by kernel_rfl) ?_
  unfold Fdraw
  exact
    LT.gu 15 _ (by kernel_rfl)
      (fun h1 =>
      LT.ret Try.f13 Try.func13 _ (by kernel_rfl) rfl (by kernel_rfl))
      (fun h1 =>
      LT.callR [.win 2 0 6 false] (now_con a0.workers a0.tiles a0.frames a0.opn a1.A) (by kernel_rfl) (by kernel_rfl) rfl <|
      LT.br 4 _ (by kernel_rfl)
        (fun h2 =>
        LT.ret Try.f13 Try.func13 _ (by kernel_rfl) rfl (by kernel_rfl))
        (fun h2 =>
        LT.gu 6 _ (by kernel_rfl)
          (fun h3 =>
          LT.ret Try.f13 Try.func13 _ (by kernel_rfl) rfl (by kernel_rfl))
          (fun h3 =>
          LT.br 10 _ (by kernel_rfl)
            (fun h4 =>
            LT.ret Try.f13 Try.func13 _ (by kernel_rfl) rfl (by kernel_rfl))
            (fun h4 =>
            LT.lookT 11 a1.A a1.B a0.drawn (by kernel_rfl) (by kernel_rfl) <|
            LT.br 3 _ (by kernel_rfl)
              (fun h5 =>
              LT.ret Try.f13 Try.func13 _ (by kernel_rfl) rfl (by kernel_rfl))
              (fun h5 =>
              LT.lookST 13 a1.A a1.B a0.drawn (no_hit h5) (by kernel_rfl) (by kernel_rfl) <|
              LT.entT 1 a1.A a1.B a0.drawn (no_hit h5) (by kernel_rfl) (by kernel_rfl) <|
              LT.estT 1 a1.A a1.B a0.drawn (by kernel_rfl) (by kernel_rfl) <|
              LT.endS 0 (Go.Dt.entB ((a0.drawn).map taskV) (taskV (a1.A, a1.B))) (Go.Dt.entB ((a0.drawn).map taskV) (taskV (a1.A, a1.B))) rfl (by kernel_rfl) <|
              LT.ret Try.f13 Try.func13 _ (by kernel_rfl) rfl (by kernel_rfl))))))

end

end Go.Proofs.Ytdoabaohacfhjaa.Lf
