/- A text cut at blanks, and joined. -/
import Derived.Lib.SplitLaws
import Derived.Test.YtdmcdijlpnbghaaGreatDoorQI18
namespace Go.Proofs.YtdmcdijlpnbghaaGreatDoor.Lf
open Go Go.Dt Go.Proofs
set_option linter.unusedVariables false
set_option linter.unusedSimpArgs false

/-- A row's head is made longer. -/
def ontoHead (b : UInt8) : List (List UInt8) → List (List UInt8)
  | [] => [[b]]
  | w :: ws => (b :: w) :: ws
/-- The pieces between blanks. -/
def spl : List UInt8 → List (List UInt8)
  | [] => [[]]
  | b :: l => if b = 32 then [] :: spl l else ontoHead b (spl l)
theorem index_cons (b : UInt8) (l : List UInt8) : Lib.index (b :: l) [32] = if b = 32 then 0 else if Lib.index l [32] = -1 then -1 else Lib.index l [32] + 1 := by
  rw [show Lib.index (b :: l) [32] = if ([32] : List UInt8).isPrefixOf (b :: l) then 0 else if Lib.index l [32] == -1 then -1 else Lib.index l [32] + 1 from rfl]
  by_cases h : b = 32
  · subst h; rfl
  · have : ([32] : List UInt8).isPrefixOf (b :: l) = false := by
      show ((32 : UInt8) == b && _) = false
      have : ((32 : UInt8) == b) = false := by rw [beq_eq_false_iff_ne]; exact fun e => h e.symm
      rw [this]; rfl
    rw [this, if_neg h]
    simp
theorem index_ge (l : List UInt8) : -1 ≤ Lib.index l [32] := by
  induction l with
  | nil => decide
  | cons b l ih =>
    rw [index_cons]
    split
    · decide
    · split
      · decide
      · omega
theorem splitK_eq : ∀ (s : List UInt8), Lib.splitK [32] 0 (Lib.count s [32]) s = spl s
  | [] => by decide
  | b :: l => by
    have ih := splitK_eq l
    have hge := index_ge l
    by_cases h : b = 32
    · subst h
      rw [Lib.count_cons_eq, Nat.add_comm, Lib.splitK, index_cons, if_pos rfl]
      show [] :: Lib.splitK [32] 0 (Lib.count l [32]) l = _
      rw [ih]
      rfl
    · rw [Lib.count_cons_ne b 32 l h]
      show _ = if b = 32 then [] :: spl l else ontoHead b (spl l)
      rw [if_neg h, ← ih]
      cases hk : Lib.count l [32] with
      | zero => rfl
      | succ k =>
        rw [Lib.splitK, Lib.splitK, index_cons, if_neg h]
        by_cases hi : Lib.index l [32] = -1
        · rw [hi]; rfl
        · rw [if_neg hi]
          have e1 : (Lib.index l [32] + 1 == -1) = false := by rw [beq_eq_false_iff_ne]; omega
          have e2 : (Lib.index l [32] == -1) = false := by rw [beq_eq_false_iff_ne]; exact hi
          rw [e1, e2]
          obtain ⟨n, hn⟩ : ∃ n : Nat, Lib.index l [32] = n := ⟨(Lib.index l [32]).toNat, by omega⟩
          rw [hn]
          have e3 : ((n : Int) + 1).toNat = n + 1 := by omega
          rw [e3]
          rfl
/-- Pieces, blanks between. -/
def joinW : List (List UInt8) → List UInt8
  | [] => []
  | [w] => w
  | w :: v :: ws => w ++ 32 :: joinW (v :: ws)
theorem spl_ne : ∀ s, ∃ w ws, spl s = w :: ws
  | [] => ⟨_, _, rfl⟩
  | b :: l => by
    obtain ⟨w, ws, h⟩ := spl_ne l
    unfold spl
    split
    · exact ⟨_, _, rfl⟩
    · rw [h]; exact ⟨_, _, rfl⟩
theorem join_spl : ∀ s, joinW (spl s) = s
  | [] => rfl
  | b :: l => by
    have ih := join_spl l
    obtain ⟨w, ws, h⟩ := spl_ne l
    unfold spl
    split
    · rename_i hb
      subst hb
      rw [h] at ih ⊢
      show [] ++ 32 :: joinW (w :: ws) = _
      rw [ih]; rfl
    · rw [h] at ih ⊢
      cases ws with
      | nil => exact congrArg (b :: ·) ih
      | cons v ws => exact congrArg (b :: ·) ih
theorem spl_word : ∀ (w : List UInt8), (∀ b ∈ w, b ≠ 32) → spl w = [w]
  | [], _ => rfl
  | b :: w, h => by
    have hb : b ≠ 32 := h b (by simp)
    unfold spl
    rw [if_neg hb, spl_word w fun x hx => h x (by simp [hx])]
    rfl
theorem spl_append : ∀ (w l : List UInt8), (∀ b ∈ w, b ≠ 32) → spl (w ++ 32 :: l) = w :: spl l
  | [], l, _ => rfl
  | b :: w, l, h => by
    have hb : b ≠ 32 := h b (by simp)
    rw [List.cons_append, spl, if_neg hb, spl_append w l fun x hx => h x (by simp [hx])]
    rfl
theorem spl_join : ∀ (l : List (List UInt8)), l ≠ [] → (∀ w ∈ l, ∀ b ∈ w, b ≠ 32) → spl (joinW l) = l
  | [], h, _ => absurd rfl h
  | [w], _, h => spl_word w (h w (by simp))
  | w :: v :: ws, _, h => by
    show spl (w ++ 32 :: joinW (v :: ws)) = _
    rw [spl_append w _ (h w (by simp)), spl_join (v :: ws) (by simp) fun x hx => h x (by simp [hx])]

/-! ### The same of texts -/
def blankS : ByteArray := ⟨#[32]⟩
/-- The words of a line. -/
def splS (s : ByteArray) : List ByteArray := Lib.splitB blankS 0 (Lib.countB s blankS) s
theorem splS_data (s : ByteArray) : (splS s).map (·.data.toList) = spl s.data.toList := by
  unfold splS
  rw [Lib.splitB_data]
  exact splitK_eq s.data.toList
theorem splS_len (s : ByteArray) : (splS s).length = Lib.countB s blankS + 1 := Lib.splitB_all blankS (by decide) 0 _ s rfl
def joinS : List ByteArray → ByteArray
  | [] => ⟨#[]⟩
  | [w] => w
  | w :: v :: ws => w ++ blankS ++ joinS (v :: ws)
theorem joinS_data : ∀ l : List ByteArray, (joinS l).data.toList = joinW (l.map (·.data.toList))
  | [] => rfl
  | [w] => rfl
  | w :: v :: ws => by
    have := joinS_data (v :: ws)
    simp only [joinS, joinW, List.map_cons] at this ⊢
    rw [← this]
    simp [blankS]
theorem ba_list {a b : ByteArray} (h : a.data.toList = b.data.toList) : a = b := by
  cases a; cases b
  simp at h
  simp [h]
theorem joinS_splS (s : ByteArray) : joinS (splS s) = s := ba_list (by rw [joinS_data, splS_data, join_spl])
theorem ba_map_inj : ∀ {a b : List ByteArray}, a.map (·.data.toList) = b.map (·.data.toList) → a = b
  | [], [], _ => rfl
  | [], _ :: _, h => by simp at h
  | _ :: _, [], h => by simp at h
  | a :: xs, b :: ys, h => by
    rw [List.map_cons, List.map_cons] at h
    injection h with h1 h2
    rw [ba_list h1, ba_map_inj h2]
theorem splS_joinS (l : List ByteArray) (h : l ≠ []) (hb : ∀ w ∈ l, ∀ b ∈ w.data.toList, b ≠ 32) : splS (joinS l) = l := by
  apply ba_map_inj
  rw [splS_data, joinS_data, spl_join]
  · simpa using h
  · intro w hw
    obtain ⟨x, hx, rfl⟩ := List.mem_map.1 hw
    exact hb x hx
end Go.Proofs.YtdmcdijlpnbghaaGreatDoor.Lf
