/- Several texts in one: EVm, EVn, EVo. -/
import Derived.Test.YtdmcdijlpnbghaaGreatDoorQI27
namespace Go.Proofs.YtdmcdijlpnbghaaGreatDoor.Lf

section
open Go Go.Dt Go.Proofs
set_option linter.unusedVariables false
set_option linter.unusedSimpArgs false

theorem room_of {n b : Nat} (hn : n ≤ 1000000) (hb : b ≤ 64) : room n b = true := by
  simp only [room, Bool.and_eq_true, decide_eq_true_eq]
  have : 2 * n * b ≤ 2 * 1000000 * 64 := Nat.mul_le_mul (by omega) hb
  omega
theorem catOk_of {a b : ByteArray} (ha : a.size ≤ 1000000) (hb : b.size ≤ 1000000) : catOk a b = true := Nat.ble_eq_true_of_le (by omega)
theorem inR_of {i n : Nat} (h : i < n) : inR (i : Int) n = true := by
  simp only [inR, Bool.and_eq_true, decide_eq_true_eq]; omega
theorem cutOk_of {n l h : Nat} (h1 : l ≤ h) (h2 : h ≤ n) : cutOk n (l : Int) (h : Int) = true := by
  simp only [cutOk, Bool.and_eq_true, decide_eq_true_eq]; omega
theorem wrap_succ {i : Nat} (h : i ≤ 1000000) : IntKind.i64.wrap ((i : Int) + 1) = ((i + 1 : Nat) : Int) := by rw [wrap_i64_of (by omega) (by omega)]; omega
theorem toList_nil' {w : ByteArray} : (w.toList == (ByteArray.mk #[]).toList) = (w.size == 0) := by rw [Bool.beq_comm, toList_nil]

def toBA (l : List UInt8) : ByteArray := ⟨l.toArray⟩
theorem toBA_data (l : List UInt8) : (toBA l).data.toList = l := rfl
theorem ba_toBA (b : ByteArray) : toBA b.data.toList = b := ba_list rfl
theorem toBA_size (l : List UInt8) : (toBA l).size = l.length := by rw [Lib.size_eq]; rfl
/-- The pieces of a text, so much ahead of the first. -/
def pieces (w l : List UInt8) : List (List UInt8) := match spl l with
  | [] => [w]
  | h :: t => (w ++ h) :: t
theorem pieces_none (w : List UInt8) : pieces w [] = [w] := by simp [pieces, spl]
theorem pieces_ne {w l : List UInt8} {b : UInt8} (h : b ≠ 32) : pieces w (b :: l) = pieces (w ++ [b]) l := by
  obtain ⟨x, xs, hx⟩ := spl_ne l
  simp [pieces, spl, h, hx, ontoHead]
theorem pieces_blank {w l : List UInt8} : pieces w (32 :: l) = w :: pieces [] l := by
  obtain ⟨x, xs, hx⟩ := spl_ne l
  simp [pieces, spl, hx]
theorem pieces_nil (l : List UInt8) : pieces [] l = spl l := by
  obtain ⟨x, xs, hx⟩ := spl_ne l
  simp [pieces, hx]
theorem drop_at {s : ByteArray} {i : Nat} (hi : i < s.size) : ∃ b : UInt8, s.data.toList.drop i = b :: s.data.toList.drop (i + 1) ∧ byteAt s (i : Int) = b.toNat ∧ (s.extract i (i + 1)).data.toList = [b] ∧ b = s[i]'hi := by
  have hl : i < s.data.toList.length := by rw [← Lib.size_eq]; exact hi
  have e : s.data.toList[i] = s[i]'hi := rfl
  refine ⟨s[i]'hi, by rw [List.drop_eq_getElem_cons hl, e], ?_, ?_, rfl⟩
  · unfold byteAt
    rw [show (i : Int).toNat = i from rfl, getElem?_pos s i hi]
    rfl
  · rw [Lib.extract_data]
    rw [List.drop_eq_getElem_cons hl, e, show i + 1 - i = 1 by omega]
    rfl
/-- What the second loop makes of its pieces. -/
def finW (out p : List ByteArray) : List ByteArray × Bool := if emptyIn p then ([], false) else (out ++ p, true)
theorem words12 {s : ByteArray} (hs : s.size ≤ 100000) (h0 : 0 < s.size) : ∀ (m i K : Nat) (out : List ByteArray) (w : ByteArray), i + m = s.size → m < K → out.length ≤ i → w.size ≤ i →
    FR04_Words_12 s K out w (i : Int) = some (finW out ((pieces w.data.toList (s.data.toList.drop i)).map toBA))
  | 0, i, K, out, w, him, hK, ho, hw => by
    obtain ⟨K, rfl⟩ : ∃ k, K = k + 1 := ⟨K - 1, by omega⟩
    rw [FR04_Words_12, decide_eq_false (show ¬ (i : Int) < (s.size : Int) by omega), decide_eq_true (show (s.size : Int) > 0 by omega), toList_nil']
    rw [List.drop_eq_nil_of_le (by rw [← Lib.size_eq]; omega), pieces_none]
    simp only [cond_true, cond_false, List.map_cons, List.map_nil, ba_toBA, finW]
    cases h : (w.size == 0) with
    | true => simp [emptyIn, h]
    | false =>
      rw [room_of (by simp; omega) (by omega)]
      simp [emptyIn, h]
  | m + 1, i, K, out, w, him, hK, ho, hw => by
    obtain ⟨K, rfl⟩ : ∃ k, K = k + 1 := ⟨K - 1, by omega⟩
    obtain ⟨b, hd, hb, hx, _⟩ := drop_at (show i < s.size by omega)
    rw [FR04_Words_12, decide_eq_true (show (i : Int) < (s.size : Int) by omega), inR_of (show i < s.size by omega), hb, wrap_succ (by omega), hd, toList_nil']
    simp only [cond_true, cond_false, Option.getD_some]
    rw [cutOk_of (show i ≤ i + 1 by omega) (by omega), show ((i : Int)).toNat = i from rfl, show (((i + 1 : Nat) : Int)).toNat = i + 1 from rfl]
    by_cases h32 : b = 32
    · subst h32
      have : (((32 : UInt8).toNat : Int) != 32) = false := by decide
      rw [this, pieces_blank]
      simp only [cond_false, List.map_cons, ba_toBA]
      cases h : (w.size == 0) with
      | true => simp [finW, emptyIn, h]
      | false =>
        rw [room_of (by simp; omega) (by omega)]
        simp only [cond_true, cond_false]
        rw [words12 hs h0 m (i + 1) K (out ++ [w]) ⟨#[]⟩ (by omega) (by omega) (by simp; omega) (Nat.zero_le _)]
        simp [finW, emptyIn, h]
    · have h1 : ((b.toNat : Int) != 32) = true := by
        rw [bne_iff_ne]
        intro e
        exact h32 (UInt8.toNat_inj.1 (show b.toNat = (32 : UInt8).toNat by show b.toNat = 32; omega))
      have h2 : (s.extract i (i + 1)).size = 1 := by rw [Lib.size_eq, hx]; rfl
      rw [h1, pieces_ne h32]
      simp only [cond_true]
      rw [catOk_of (by omega) (by omega)]
      simp only [cond_true]
      rw [words12 hs h0 m (i + 1) K out (w ++ s.extract i (i + 1)) (by omega) (by omega) (by omega) (by rw [ByteArray.size_append]; omega)]
      have : (w ++ s.extract i (i + 1)).data.toList = w.data.toList ++ [b] := by rw [← hx]; simp
      rw [this]
def good (x : Int) : Prop := 32 ≤ x ∧ x < 127
theorem words5 {s : ByteArray} (l : List Int) (hl : l.length ≤ 100000) : ∀ (m i K : Nat), i + m = l.length → m < K →
    ((∀ x ∈ l, good x) → FR04_Words_5 s K l (i : Int) = FR04_Words_12 s (K - m - 1) [] ⟨#[]⟩ 0) ∧ (FR04_Words_5 s K l (i : Int) = some ([], false) ∨ FR04_Words_5 s K l (i : Int) = FR04_Words_12 s (K - m - 1) [] ⟨#[]⟩ 0)
  | 0, i, K, him, hK => by
    obtain ⟨K, rfl⟩ : ∃ k, K = k + 1 := ⟨K - 1, by omega⟩
    rw [FR04_Words_5, decide_eq_false (show ¬ (i : Int) < (l.length : Int) by omega)]
    exact ⟨fun _ => rfl, .inr rfl⟩
  | m + 1, i, K, him, hK => by
    obtain ⟨K, rfl⟩ : ∃ k, K = k + 1 := ⟨K - 1, by omega⟩
    have hi : i < l.length := by omega
    have ih := words5 (s := s) l hl m (i + 1) K (by omega) (by omega)
    have e4 : getR l (i : Int).toNat = l[i] := by
      show l.getD i _ = _
      simp [List.getD_eq_getElem?_getD, hi]
    rw [FR04_Words_5, decide_eq_true (show (i : Int) < (l.length : Int) by omega), inR_of hi, wrap_succ (by omega), e4, show K + 1 - (m + 1) - 1 = K - m - 1 by omega]
    simp only [cond_true, cond_false]
    constructor
    · intro hg
      have := hg l[i] (List.getElem_mem hi)
      obtain ⟨g1, g2⟩ := this
      have g3 : (l[i] == 127) = false := by rw [beq_eq_false_iff_ne]; omega
      rw [decide_eq_false (show ¬ l[i] < 32 by omega), g3]
      exact ih.1 hg
    · cases decide (l[i] < 32) with
      | true => exact .inl rfl
      | false =>
        cases (l[i] == 127) with
        | true => exact .inl rfl
        | false => exact ih.2

/-! ### Signs -/
theorem sign_tot (K : Nat) (x : Int) : ∃ b, FR04_Sign K x = some b := by
  unfold FR04_Sign
  cases decide (x ≥ 0) <;> cases decide (x < 55296) <;> cases decide (x > 57343) <;> exact ⟨_, rfl⟩
theorem lay_tot (K : Nat) (x : Int) : ∃ b, FR04_Lay K x = some b := by
  unfold FR04_Lay
  cases decide (x < 128) <;> cases decide (x < 2048) <;> cases decide (x < 65536) <;> exact ⟨_, rfl⟩
theorem first17 {t : ByteArray} {n : Nat} (hn : n ≤ t.size) (hn4 : n ≤ 4) : ∀ (m j K : Nat) (c : Int), j + m = n → m < K → ∃ c' k : Int, FR04_First_17 t K (n : Int) c (j : Int) = some (c', k) ∧ (k = 0 ∨ k = n)
  | 0, j, K, c, hj, hK => by
    obtain ⟨K, rfl⟩ : ∃ k, K = k + 1 := ⟨K - 1, by omega⟩
    obtain ⟨b, hb⟩ := sign_tot K c
    obtain ⟨l, hl⟩ := lay_tot K c
    rw [FR04_First_17, decide_eq_false (show ¬ (j : Int) < (n : Int) by omega), hb, hl]
    simp only [cond_false, Option.bind_some, Option.getD_some, Option.getD_none]
    rw [show cutOk t.size 0 (n : Int) = true from cutOk_of (l := 0) (Nat.zero_le _) hn]
    cases b with
    | false => exact ⟨_, _, rfl, .inl rfl⟩
    | true =>
      simp only [Bool.not_true, cond_false, cond_true]
      cases ((strU l).toList == (t.extract 0 (n : Int).toNat).toList) with
      | false => exact ⟨_, _, rfl, .inl rfl⟩
      | true => exact ⟨_, _, rfl, .inr rfl⟩
  | m + 1, j, K, c, hj, hK => by
    obtain ⟨K, rfl⟩ : ∃ k, K = k + 1 := ⟨K - 1, by omega⟩
    rw [FR04_First_17, decide_eq_true (show (j : Int) < (n : Int) by omega), inR_of (show j < t.size by omega), wrap_succ (by omega)]
    exact first17 hn hn4 m (j + 1) K _ (by omega) (by omega)
theorem first_tot {t : ByteArray} {K : Nat} (hK : 10 ≤ K) : ∃ c k : Int, FR04_First K t = some (c, k) ∧ (k = 0 ∨ 1 ≤ k ∧ k ≤ t.size) := by
  unfold FR04_First
  cases h0 : ((t.size : Int) == 0) with
  | true => exact ⟨_, _, rfl, .inl rfl⟩
  | false =>
    have hs : 0 < t.size := by
      rw [beq_eq_false_iff_ne] at h0
      omega
    rw [show inR 0 t.size = true from inR_of (i := 0) hs]
    simp only [cond_true, cond_false]
    have key : ∀ (n : Nat) (c : Int), 1 ≤ n → n ≤ 4 → ∃ c' k : Int, (bif decide ((t.size : Int) < (n : Int)) then some ((0 : Int), (0 : Int)) else FR04_First_17 t K (n : Int) c 1) = some (c', k) ∧ (k = 0 ∨ 1 ≤ k ∧ k ≤ t.size) := fun n c h1 h4 => by
      rcases Decidable.em ((t.size : Int) < (n : Int)) with h | h
      · rw [decide_eq_true h]; exact ⟨_, _, rfl, .inl rfl⟩
      · rw [decide_eq_false h]
        obtain ⟨c', k, e, hk⟩ := first17 (t := t) (n := n) (by omega) h4 (n - 1) 1 K c (by omega) (by omega)
        refine ⟨c', k, e, ?_⟩
        rcases hk with h | h
        · exact .inl h
        · exact .inr (by omega)
    cases decide (IntKind.i64.wrap (byteAt t 0) ≥ 240) with
    | true => exact key 4 _ (by omega) (by omega)
    | false =>
      cases decide (IntKind.i64.wrap (byteAt t 0) ≥ 224) with
      | true => exact key 3 _ (by omega) (by omega)
      | false =>
        cases decide (IntKind.i64.wrap (byteAt t 0) ≥ 192) with
        | true => exact key 2 _ (by omega) (by omega)
        | false => exact key 1 _ (by omega) (by omega)
theorem sign_plain {K : Nat} {x : Int} (h : good x) : FR04_Sign K x = some true := by
  obtain ⟨g1, g2⟩ := h
  unfold FR04_Sign
  rw [decide_eq_true (show x ≥ 0 by omega), decide_eq_true (show x < 55296 by omega)]
  rfl
theorem lay_plain {K : Nat} {x : Int} (h : good x) : FR04_Lay K x = some [⟨x⟩] := by
  obtain ⟨g1, g2⟩ := h
  unfold FR04_Lay
  rw [decide_eq_true (show x < 128 by omega)]
  have : IntKind.u8.wrap x = x := by
    show x % 256 = _
    omega
  rw [this]
  rfl
theorem str_one (b : UInt8) : (strU [⟨(b.toNat : Int)⟩]).data.toList = [b] := by
  rw [strU_data]
  show [UInt8.ofNat ((b.toNat : Int)).toNat] = [b]
  simp
theorem first_one {t : ByteArray} {K : Nat} {x : Int} (h0 : 0 < t.size) (hg : good x) (hx : strU [⟨x⟩] = t.extract 0 1) : FR04_First_17 t (K + 1) 1 x 1 = some (x, 1) := by
  rw [FR04_First_17, sign_plain hg, lay_plain hg]
  simp only [Option.bind_some, Option.getD_some, Option.getD_none, Int.lt_irrefl, decide_false, cond_false, Bool.not_true]
  rw [show cutOk t.size 0 1 = true from cutOk_of (l := 0) (h := 1) (by omega) (by omega), show ((1 : Int)).toNat = 1 from rfl, hx]
  simp
theorem first_byte {t : ByteArray} (h0 : 0 < t.size) (hg : good (byteAt t 0)) : strU [⟨byteAt t 0⟩] = t.extract 0 1 := by
  obtain ⟨b, hd, hb, hx, _⟩ := drop_at h0
  have hb : byteAt t 0 = (b.toNat : Int) := hb
  exact ba_list (by rw [hb, str_one]; exact hx.symm)
theorem first_walk {t : ByteArray} {K : Nat} {x : Int} (hx0 : byteAt t 0 = x) (ew : IntKind.i64.wrap x = x) (e0 : ((t.size : Int) == 0) = false) (e1 : decide (x ≥ 240) = false) (e2 : decide (x ≥ 224) = false) (e3 : decide (x ≥ 192) = false)
    (e4 : decide ((t.size : Int) < 1) = false) (e5 : inR 0 t.size = true) : FR04_First K t = FR04_First_17 t K 1 x 1 := by
  unfold FR04_First
  rw [hx0, ew, e0, e1, e2, e3, e4, e5]
  rfl
theorem first_plain {t : ByteArray} {K : Nat} (hK : 10 ≤ K) (h0 : 0 < t.size) (hg : good (byteAt t 0)) : FR04_First K t = some (byteAt t 0, 1) := by
  obtain ⟨K, rfl⟩ : ∃ k, K = k + 1 := ⟨K - 1, by omega⟩
  have h1 := first_one (K := K) h0 hg (first_byte h0 hg)
  obtain ⟨g1, g2⟩ := hg
  generalize hx0 : byteAt t 0 = x at h1 g1 g2
  rw [first_walk hx0 (wrap_i64_of (by omega) (by omega)) (by rw [beq_eq_false_iff_ne]; omega) (decide_eq_false (by omega)) (decide_eq_false (by omega)) (decide_eq_false (by omega)) (decide_eq_false (by omega)) (inR_of (i := 0) h0)]
  exact h1
theorem signs {s : ByteArray} (hs : s.size ≤ 100000) : ∀ (M m i K : Nat) (p5 p6 : List Int), m ≤ M → i + m = s.size → m + 40 < K → p5.length ≤ i → p6.length ≤ i →
    ∃ r, FR04_Signs_3 s K p5 p6 (i : Int) = some r ∧ r.1.length ≤ s.size ∧ (Plain s → (∀ x ∈ p5, good x) → r.2.2 = true ∧ ∀ x ∈ r.1, good x)
  | M, 0, i, K, p5, p6, hM, him, hK, h5, h6 => by
    obtain ⟨K, rfl⟩ : ∃ k, K = k + 1 := ⟨K - 1, by omega⟩
    rw [FR04_Signs_3, decide_eq_false (show ¬ (i : Int) < (s.size : Int) by omega)]
    exact ⟨_, rfl, by simp only; omega, fun _ h => ⟨rfl, h⟩⟩
  | 0, m + 1, i, K, p5, p6, hM, him, hK, h5, h6 => by omega
  | M + 1, m + 1, i, K, p5, p6, hM, him, hK, h5, h6 => by
    obtain ⟨K, rfl⟩ : ∃ k, K = k + 1 := ⟨K - 1, by omega⟩
    obtain ⟨c, k, hf, hk⟩ := first_tot (t := s.extract i s.size) (K := K) (by omega)
    have hsz : (s.extract i s.size).size = s.size - i := Lib.ext_size s i
    rw [FR04_Signs_3, decide_eq_true (show (i : Int) < (s.size : Int) by omega)]
    simp only [cond_true, Option.getD_some, Option.getD_none]
    rw [cutOk_of (show i ≤ s.size by omega) (Nat.le_refl _), show ((i : Int)).toNat = i from rfl, show ((s.size : Int)).toNat = s.size from rfl, hf]
    simp only [cond_true, Option.bind_some]
    have hpl : Plain s → good c ∧ k = 1 := fun hp => by
      obtain ⟨b, hd, hb, hx, hbe⟩ := drop_at (show i < s.size by omega)
      have h1 := hp i (by omega)
      rw [← hbe] at h1
      have hb2 : byteAt (s.extract i s.size) 0 = b.toNat := by
        obtain ⟨b', hd', hb', _⟩ := drop_at (s := s.extract i s.size) (i := 0) (by omega)
        have hb' : byteAt (s.extract i s.size) 0 = b'.toNat := hb'
        rw [hb']
        rw [Lib.ext_list, List.drop_zero, hd] at hd'
        injection hd' with e _
        rw [e]
      have hgb : good (byteAt (s.extract i s.size) 0) := by rw [hb2]; exact ⟨by omega, by omega⟩
      have := first_plain (t := s.extract i s.size) (K := K) (by omega) (by omega) hgb
      rw [hf] at this
      injection this with this
      injection this with e1 e2
      rw [e1]
      exact ⟨hgb, e2⟩
    rcases hk with rfl | ⟨k1, k2⟩
    · refine ⟨_, rfl, Nat.zero_le _, fun hp => ?_⟩
      have := (hpl hp).2
      omega
    · have e0 : (k == 0) = false := by rw [beq_eq_false_iff_ne]; omega
      rw [e0, room_of (by simp; omega) (by omega), room_of (by simp; omega) (by omega)]
      simp only [cond_true, cond_false]
      obtain ⟨q, rfl⟩ : ∃ q : Nat, k = q := ⟨k.toNat, by omega⟩
      rw [show IntKind.i64.wrap ((i : Int) + (q : Int)) = ((i + q : Nat) : Int) by rw [wrap_i64_of (by omega) (by omega)]; omega]
      obtain ⟨r, hr, hl, hgood⟩ := signs hs M (m + 1 - q) (i + q) K (p5 ++ [c]) (p6 ++ [(i : Int)]) (by omega) (by omega) (by omega) (by simp; omega) (by simp; omega)
      refine ⟨r, hr, hl, fun hp h => hgood hp fun x hx => ?_⟩
      rw [List.mem_append, List.mem_singleton] at hx
      rcases hx with hx | rfl
      · exact h x hx
      · exact (hpl hp).1
/-- The reference's words: some, and those of a line of plain signs. -/
theorem refWords {s : ByteArray} (hs : s.size ≤ 100000) {K : Nat} (hK : 300000 ≤ K) : ∃ r, FR04_Words K s = some r ∧ (∀ w ∈ r.1, w.size ≤ s.size) ∧ (Plain s → 0 < s.size → emptyIn (splS s) = false → r = (splS s, true)) := by
  obtain ⟨sg, h1, h2, h3⟩ := signs hs s.size s.size 0 K [] [] (Nat.le_refl _) (by omega) (by omega) (Nat.le_refl _) (Nat.le_refl _)
  have h1 : FR04_Signs K s = some sg := h1
  unfold FR04_Words
  rw [h1]
  simp only [Option.bind_some]
  have hsub : ∀ w ∈ splS s, w.size ≤ s.size := fun w hw => by
    have : w.data.toList ∈ spl s.data.toList := by rw [← splS_data]; exact List.mem_map.2 ⟨w, hw, rfl⟩
    have key : ∀ (l : List UInt8) (w : List UInt8), w ∈ spl l → w.length ≤ l.length := by
      intro l
      induction l with
      | nil => intro w hw; simp [spl] at hw; simp [hw]
      | cons b l ih =>
        intro w hw
        unfold spl at hw
        split at hw
        · rcases List.mem_cons.1 hw with rfl | hw
          · simp
          · have := ih w hw; simp; omega
        · obtain ⟨x, xs, hx⟩ := spl_ne l
          rw [hx] at hw ih
          rcases List.mem_cons.1 hw with rfl | hw
          · have := ih x (by simp); simp; omega
          · have := ih w (by simp [hw]); simp; omega
    rw [Lib.size_eq, Lib.size_eq]
    exact key _ _ this
  cases hb : sg.2.2 with
  | false =>
    refine ⟨_, rfl, by simp, fun hp => ?_⟩
    have := (h3 hp (by simp)).1
    rw [hb] at this; cases this
  | true =>
    simp only [Bool.not_true, cond_false]
    have h5 := words5 (s := s) sg.1 (by omega) sg.1.length 0 K (by omega) (by omega)
    rcases Nat.eq_zero_or_pos s.size with h0 | h0
    · have h12 : FR04_Words_12 s (K - sg.1.length - 1) [] ⟨#[]⟩ 0 = some ([], true) := by
        obtain ⟨k, hk⟩ : ∃ k, K - sg.1.length - 1 = k + 1 := ⟨K - sg.1.length - 2, by omega⟩
        rw [hk, FR04_Words_12, decide_eq_false (show ¬ (0 : Int) < (s.size : Int) by omega), toList_nil']
        rfl
      rcases h5.2 with h | h
      · exact ⟨_, h, by simp, fun _ hh => by omega⟩
      · exact ⟨_, h.trans h12, by simp, fun _ hh => by omega⟩
    · have h12 := words12 hs h0 s.size 0 (K - sg.1.length - 1) [] ⟨#[]⟩ (by omega) (by omega) (Nat.le_refl _) (Nat.le_refl _)
      have hp : (pieces (ByteArray.mk #[]).data.toList (s.data.toList.drop 0)).map toBA = splS s := by
        rw [List.drop_zero]
        show (pieces [] s.data.toList).map toBA = _
        rw [pieces_nil, ← splS_data, List.map_map]
        exact (List.map_congr_left fun b _ => ba_toBA b).trans (List.map_id _)
      rw [hp] at h12
      have hfin : ∀ w ∈ (finW [] (splS s)).1, w.size ≤ s.size := fun w hw => by
        unfold finW at hw
        split at hw
        · simp at hw
        · exact hsub w (by simpa using hw)
      have hgo : Plain s → emptyIn (splS s) = false → FR04_Words_5 s K sg.1 ((0 : Nat) : Int) = some (splS s, true) := fun hp he => by
        rw [h5.1 (h3 hp (by simp)).2]
        refine h12.trans ?_
        simp [finW, he]
      rcases h5.2 with h | h
      · refine ⟨_, h, by simp, fun hp _ he => ?_⟩
        have := hgo hp he
        rw [h] at this
        exact Option.some.inj this
      · refine ⟨_, h.trans h12, hfin, fun hp _ he => ?_⟩
        simp [finW, he]

end

section
open Go Go.Dt Go.Proofs
set_option linter.unusedVariables false
set_option linter.unusedSimpArgs false

/-! ### Words that are plain -/
def okW (w : ByteArray) : Prop := 1 ≤ w.size ∧ w.size ≤ 30 ∧ ∀ b ∈ w.data.toList, 33 ≤ b.toNat ∧ b.toNat < 127
theorem sD_bytes {v : Int} : ∀ b ∈ (sD v).data.toList, 45 ≤ b.toNat ∧ b.toNat ≤ 57 := by
  intro b hb
  rw [sD_list] at hb
  obtain ⟨u, hu, rfl⟩ := List.mem_map.1 hb
  have key : ∀ u ∈ (decF 19 v.natAbs).map codeV, 45 ≤ (UInt8.ofNat u.n.toNat).toNat ∧ (UInt8.ofNat u.n.toNat).toNat ≤ 57 := fun u hu => by
    obtain ⟨d, hd, rfl⟩ := List.mem_map.1 hu
    have := decF_lt 19 v.natAbs d hd
    rw [code_u8 this]
    omega
  unfold cs at hu
  split at hu
  · rcases List.mem_cons.1 hu with rfl | hu
    · decide
    · exact key u hu
  · exact key u hu
theorem sD_len (v : Int) : 1 ≤ (sD v).size ∧ (sD v).size ≤ 21 := by
  have h1 : (sD v).size = (cs v).length := by rw [sD_cs, strU_size]
  have h2 := cs_len v
  have h3 := decF_len 19 v.natAbs
  rw [h1]
  refine ⟨?_, h2⟩
  unfold cs
  split <;> simp <;> omega
theorem okW_sD (v : Int) : okW (sD v) := ⟨(sD_len v).1, by have := (sD_len v).2; omega, fun b hb => by have := sD_bytes b hb; omega⟩
/-- The words of the kinds. -/
def wB (k : Nat) : ByteArray := match k with
  | 1 => ⟨#[99, 108, 97, 105, 109]⟩
  | 2 => ⟨#[100, 114, 97, 119]⟩
  | 3 => ⟨#[115, 116, 101, 97, 108]⟩
  | 4 => ⟨#[100, 111, 110, 101]⟩
  | 5 => ⟨#[101, 110, 100]⟩
  | _ => ⟨#[]⟩
theorem okW_wB {k : Nat} (h1 : 1 ≤ k) (h5 : k ≤ 5) : okW (wB k) := by
  have : k = 1 ∨ k = 2 ∨ k = 3 ∨ k = 4 ∨ k = 5 := by omega
  rcases this with rfl | rfl | rfl | rfl | rfl <;> exact ⟨by decide, by decide, by decide⟩
theorem mem_joinW : ∀ (l : List (List UInt8)) (b : UInt8), b ∈ joinW l → b = 32 ∨ ∃ w ∈ l, b ∈ w
  | [], b, h => by cases h
  | [w], b, h => .inr ⟨w, by simp, h⟩
  | w :: v :: ws, b, h => by
    rcases List.mem_append.1 (show b ∈ w ++ 32 :: joinW (v :: ws) from h) with h | h
    · exact .inr ⟨w, by simp, h⟩
    · rcases List.mem_cons.1 h with h | h
      · exact .inl h
      · rcases mem_joinW (v :: ws) b h with h | ⟨x, hx, hb⟩
        · exact .inl h
        · exact .inr ⟨x, by simp [List.mem_cons.1 hx], hb⟩
theorem len_joinW : ∀ (l : List (List UInt8)), (∀ w ∈ l, w.length ≤ 30) → (joinW l).length ≤ 31 * l.length
  | [], _ => by simp [joinW]
  | [w], h => by have := h w (by simp); simp [joinW]; omega
  | w :: v :: ws, h => by
    have h1 := h w (by simp)
    have h2 := len_joinW (v :: ws) fun x hx => h x (by simp [List.mem_cons.1 hx])
    have : (joinW (w :: v :: ws)).length = w.length + (1 + (joinW (v :: ws)).length) := by simp [joinW]; omega
    rw [this]
    simp at h2 ⊢
    omega
theorem plain_list {s : ByteArray} (h : ∀ b ∈ s.data.toList, 32 ≤ b.toNat ∧ b.toNat < 127) : Plain s := fun i hi => by
  have hl : i < s.data.toList.length := by rw [← Lib.size_eq]; exact hi
  exact h _ (show s[i]'hi ∈ s.data.toList from List.getElem_mem hl)
structure LineOf (s : ByteArray) (ws : List ByteArray) : Prop where
  plain : Plain s
  pos : 0 < s.size
  spl : splS s = ws
  full : emptyIn (splS s) = false
  size : s.size ≤ 200
theorem lineOf {ws : List ByteArray} (h : ws ≠ []) (hl : ws.length ≤ 6) (ho : ∀ w ∈ ws, okW w) : LineOf (joinS ws) ws := by
  have hs : splS (joinS ws) = ws := splS_joinS ws h fun w hw b hb e => by
    have := ((ho w hw).2.2 b hb).1
    subst e
    exact absurd this (by decide)
  have hlen : (joinS ws).size ≤ 200 := by
    rw [Lib.size_eq, joinS_data]
    have := len_joinW (ws.map (·.data.toList)) fun w hw => by
      obtain ⟨x, hx, rfl⟩ := List.mem_map.1 hw
      have := (ho x hx).2.1
      rw [Lib.size_eq] at this
      exact this
    rw [List.length_map] at this
    omega
  have hpl : Plain (joinS ws) := plain_list fun b hb => by
    rw [joinS_data] at hb
    rcases mem_joinW _ b hb with rfl | ⟨w, hw, hb⟩
    · decide
    · obtain ⟨x, hx, rfl⟩ := List.mem_map.1 hw
      have := (ho x hx).2.2 b hb
      omega
  refine ⟨hpl, ?_, hs, ?_, hlen⟩
  · obtain ⟨w, l, rfl⟩ : ∃ w l, ws = w :: l := by
      cases ws with
      | nil => exact absurd rfl h
      | cons w l => exact ⟨w, l, rfl⟩
    have h1 := (ho w (by simp)).1
    cases l with
    | nil => exact h1
    | cons v l =>
      show 0 < (w ++ blankS ++ joinS (v :: l)).size
      rw [ByteArray.size_append, ByteArray.size_append]
      omega
  · rw [hs]
    show (ws.any fun w => w.size == 0) = false
    rw [List.any_eq_false]
    intro w hw
    have := (ho w hw).1
    intro h0
    have := eq_of_beq h0
    omega
theorem words_line {s : ByteArray} {ws : List ByteArray} (h : LineOf s ws) : wordsF s = (ws, 0) := by
  unfold wordsF
  rw [if_pos (lineB_plain h.plain), if_neg (by have := h.pos; omega), h.full, h.spl]
  rfl
theorem ref_line {s : ByteArray} {ws : List ByteArray} (h : LineOf s ws) {K : Nat} (hK : 300000 ≤ K) : FR04_Words K s = some (ws, true) := by
  obtain ⟨r, h1, _, h2⟩ := refWords (s := s) (by have := h.size; omega) hK
  rw [h1, h2 h.plain h.pos h.full, h.spl]
/-- What words are told, they are the text's. -/
theorem words_join {s : ByteArray} {l : List ByteArray} (h : wordsF s = (l, 0)) (hl : l ≠ []) : joinS l = s ∧ ∀ w ∈ l, w.size ≤ s.size := by
  unfold wordsF at h
  split at h
  · split at h
    · injection h with h _; exact absurd h.symm hl
    · split at h
      · injection h with h _; exact absurd h.symm hl
      · injection h with h _
        subst h
        refine ⟨joinS_splS s, fun w hw => ?_⟩
        have : w.data.toList ∈ spl s.data.toList := by rw [← splS_data]; exact List.mem_map.2 ⟨w, hw, rfl⟩
        have key : ∀ (l : List (List UInt8)) (w : List UInt8), w ∈ l → w.length ≤ (joinW l).length := by
          intro l
          induction l with
          | nil => intro w hw; cases hw
          | cons x l ih =>
            intro w hw
            cases l with
            | nil => simp at hw; subst hw; exact Nat.le_refl _
            | cons v ws =>
              have e : (joinW (x :: v :: ws)).length = x.length + (1 + (joinW (v :: ws)).length) := by simp [joinW]; omega
              rcases List.mem_cons.1 hw with rfl | hw
              · omega
              · have := ih w hw; omega
        have := key _ _ this
        rw [join_spl] at this
        rw [Lib.size_eq, Lib.size_eq]
        exact this
  · injection h with _ h; cases h

/-! ### Events -/
def i64 (x : Int) : Prop := -9223372036854775808 ≤ x ∧ x ≤ 9223372036854775807
def evOk (e : TEvent) : Prop := i64 e.Who ∧ i64 e.A ∧ i64 e.B
/-- May it be told? -/
def may (e : TEvent) : Prop := (e.Kind = 1 ∧ e.B = 0) ∨ e.Kind = 2 ∨ e.Kind = 3 ∨ (e.Kind = 4 ∧ e.B = 0) ∨ (e.Kind = 5 ∧ e.A = 0 ∧ e.B = 0)
/-- Its words. -/
def evWe (e : TEvent) : List ByteArray := if e.Kind = 5 then [wB 5, sD e.Who] else if e.Kind = 2 then [wB 2, sD e.Who, sD e.A, sD e.B] else if e.Kind = 3 then [wB 3, sD e.Who, sD e.A, sD e.B] else if e.Kind = 1 then [wB 1, sD e.Who, sD e.A] else [wB 4, sD e.Who, sD e.A]
def lineS (e : TEvent) : ByteArray := joinS (evWe e)
theorem lineOf_ev (e : TEvent) : LineOf (lineS e) (evWe e) := by
  have w1 := okW_wB (k := 1) (by omega) (by omega)
  have w2 := okW_wB (k := 2) (by omega) (by omega)
  have w3 := okW_wB (k := 3) (by omega) (by omega)
  have w4 := okW_wB (k := 4) (by omega) (by omega)
  have w5 := okW_wB (k := 5) (by omega) (by omega)
  have a := okW_sD e.Who
  have b := okW_sD e.A
  have c := okW_sD e.B
  apply lineOf
  · unfold evWe; repeat' split
    all_goals simp
  · unfold evWe; repeat' split
    all_goals simp
  · unfold evWe
    repeat' split
    all_goals
      intro w hw
      simp at hw
      rcases hw with rfl | rfl | rfl | rfl <;> assumption
theorem may_eq (K : Nat) (e : TEvent) : ∃ b, FR37_May K e = some b ∧ (b = true ↔ may e) := by
  obtain ⟨n0, k, n1, n2⟩ := e
  unfold FR37_May may
  simp only
  by_cases h1 : k < 1
  · rw [decide_eq_true h1]
    exact ⟨false, rfl, by simp; omega⟩
  by_cases h5 : k > 5
  · rw [decide_eq_false h1, decide_eq_true h5]
    exact ⟨false, rfl, by simp; omega⟩
  rw [decide_eq_false h1, decide_eq_false h5]
  have : k = 1 ∨ k = 2 ∨ k = 3 ∨ k = 4 ∨ k = 5 := by omega
  rcases this with rfl | rfl | rfl | rfl | rfl
  · exact ⟨n2 == 0, rfl, by simp⟩
  · exact ⟨true, rfl, by simp⟩
  · exact ⟨true, rfl, by simp⟩
  · exact ⟨n2 == 0, rfl, by simp⟩
  · cases ha : (n1 != 0) with
    | true => exact ⟨false, rfl, by simp at ha; simp; omega⟩
    | false => exact ⟨n2 == 0, rfl, by simp at ha; simp [ha]⟩

end

section
open Go Go.Dt Go.Proofs
set_option linter.unusedVariables false
set_option linter.unusedSimpArgs false

/-! ### Told -/
theorem bS : ByteArray.mk #[OfNat.ofNat 32] = blankS := rfl
theorem cat4 {a b : ByteArray} (ha : a.size ≤ 1000) (hb : b.size ≤ 1000) : catOk a b = true := catOk_of (by omega) (by omega)
theorem size_wB (k : Nat) : (wB k).size ≤ 5 := by
  unfold wB
  split <;> decide
theorem refLine_eq {e : TEvent} (hm : may e) (ho : evOk e) {K : Nat} (hK : 20 ≤ K) : FR37_Line K e = some (lineS e) := by
  obtain ⟨n0, k, n1, n2⟩ := e
  obtain ⟨⟨a1, a2⟩, ⟨b1, b2⟩, c1, c2⟩ := ho
  simp only at a1 a2 b1 b2 c1 c2
  have hd0 := R03_Dec_eq (K := K) a1 a2 hK
  have hd1 := R03_Dec_eq (K := K) b1 b2 hK
  have hd2 := R03_Dec_eq (K := K) c1 c2 hK
  have z0 := (sD_len n0).2
  have z1 := (sD_len n1).2
  have z2 := (sD_len n2).2
  have zb : blankS.size = 1 := rfl
  have y1 := size_wB 1
  have y2 := size_wB 2
  have y3 := size_wB 3
  have y4 := size_wB 4
  have y5 := size_wB 5
  have cat : ∀ w : ByteArray, w.size ≤ 5 → catOk w blankS = true ∧ catOk (w ++ blankS) (sD n0) = true ∧ catOk (w ++ blankS ++ sD n0) blankS = true ∧ catOk (w ++ blankS ++ sD n0 ++ blankS) (sD n1) = true ∧
      catOk (w ++ blankS ++ sD n0 ++ blankS ++ sD n1) blankS = true ∧ catOk (w ++ blankS ++ sD n0 ++ blankS ++ sD n1 ++ blankS) (sD n2) = true := fun w hw => by
    refine ⟨cat4 ?_ ?_, cat4 ?_ ?_, cat4 ?_ ?_, cat4 ?_ ?_, cat4 ?_ ?_, cat4 ?_ ?_⟩ <;> (try simp only [ByteArray.size_append]) <;> omega
  have word : ∀ j : Nat, 1 ≤ j → j ≤ 5 → FR37_word K (j : Int) = some (wB j) := fun j h1 h5 => by
    have : j = 1 ∨ j = 2 ∨ j = 3 ∨ j = 4 ∨ j = 5 := by omega
    rcases this with rfl | rfl | rfl | rfl | rfl <;> rfl
  unfold FR37_Line lineS evWe
  simp only [hd0, hd1, hd2, bS]
  rcases hm with ⟨rfl, _⟩ | rfl | rfl | ⟨rfl, _⟩ | ⟨rfl, _, _⟩
  · rw [show FR37_word K 1 = some (wB 1) from word 1 (by omega) (by omega)]
    obtain ⟨c1, c2, c3, c4, c5, c6⟩ := cat _ y1
    simp only [Option.bind_some, c1, c2, c3, c4, c5, c6, cond_true]
    refine congrArg some (ba_list ?_)
    simp [joinS, joinS_data, List.append_assoc]
  · rw [show FR37_word K 2 = some (wB 2) from word 2 (by omega) (by omega)]
    obtain ⟨c1, c2, c3, c4, c5, c6⟩ := cat _ y2
    simp only [Option.bind_some, c1, c2, c3, c4, c5, c6, cond_true]
    refine congrArg some (ba_list ?_)
    simp [joinS, joinS_data, List.append_assoc]
  · rw [show FR37_word K 3 = some (wB 3) from word 3 (by omega) (by omega)]
    obtain ⟨c1, c2, c3, c4, c5, c6⟩ := cat _ y3
    simp only [Option.bind_some, c1, c2, c3, c4, c5, c6, cond_true]
    refine congrArg some (ba_list ?_)
    simp [joinS, joinS_data, List.append_assoc]
  · rw [show FR37_word K 4 = some (wB 4) from word 4 (by omega) (by omega)]
    obtain ⟨c1, c2, c3, c4, c5, c6⟩ := cat _ y4
    simp only [Option.bind_some, c1, c2, c3, c4, c5, c6, cond_true]
    refine congrArg some (ba_list ?_)
    simp [joinS, joinS_data, List.append_assoc]
  · rw [show FR37_word K 5 = some (wB 5) from word 5 (by omega) (by omega)]
    obtain ⟨c1, c2, c3, c4, c5, c6⟩ := cat _ y5
    simp only [Option.bind_some, c1, c2, c3, c4, c5, c6, cond_true]
    refine congrArg some (ba_list ?_)
    simp [joinS, joinS_data, List.append_assoc]

theorem join_step {w : ByteArray} {l : List Int} {K i : Nat} {acc : ByteArray} {n : Int} (hi : i < l.length) (hl : l.length ≤ 10) (hn : l[i]? = some n) (hok : i64 n) (ha : acc.size ≤ 500) (hK : 200 ≤ K) :
    Ftrace_join_2 w l (K + 1) acc (i : Int) = Ftrace_join_2 w l K (acc ++ (blankS ++ sD n)) ((i + 1 : Nat) : Int) := by
  have e4 : getR l (i : Int).toNat = n := by
    show l.getD i _ = _
    simp [List.getD_eq_getElem?_getD, hn]
  have z := (sD_len n).2
  have zb : blankS.size = 1 := rfl
  rw [Ftrace_join_2, decide_eq_true (show (i : Int) < (l.length : Int) by omega), inR_of hi, wrap_succ (by omega), e4, Dec_eq hok.1 hok.2 hK, bS]
  simp only [cond_true, Option.bind_some]
  rw [cat4 (by omega) (by omega), cat4 (by omega) (by rw [ByteArray.size_append]; omega)]
  rfl
theorem join_end {w : ByteArray} {l : List Int} {K : Nat} {acc : ByteArray} : Ftrace_join_2 w l (K + 1) acc (l.length : Int) = some acc := by
  rw [Ftrace_join_2, decide_eq_false (Int.lt_irrefl _)]
  rfl
theorem join1 {w : ByteArray} {a : Int} (hw : w.size ≤ 100) (ha : i64 a) {K : Nat} (hK : 300 ≤ K) : Ftrace_join K w [a] = some (w ++ (blankS ++ sD a)) := by
  obtain ⟨K, rfl⟩ : ∃ k, K = k + 2 := ⟨K - 2, by omega⟩
  show Ftrace_join_2 w [a] (K + 1 + 1) w ((0 : Nat) : Int) = _
  rw [join_step (n := a) (by simp) (by simp) (by simp) ha (by omega) (by omega)]
  exact join_end
theorem join2 {w : ByteArray} {a b : Int} (hw : w.size ≤ 100) (ha : i64 a) (hb : i64 b) {K : Nat} (hK : 300 ≤ K) : Ftrace_join K w [a, b] = some (w ++ (blankS ++ sD a) ++ (blankS ++ sD b)) := by
  obtain ⟨K, rfl⟩ : ∃ k, K = k + 3 := ⟨K - 3, by omega⟩
  have za := (sD_len a).2
  have zb : blankS.size = 1 := rfl
  show Ftrace_join_2 w [a, b] (K + 1 + 1 + 1) w ((0 : Nat) : Int) = _
  rw [join_step (n := a) (by simp) (by simp) (by simp) ha (by omega) (by omega), join_step (n := b) (by simp) (by simp) (by simp) hb (by simp only [ByteArray.size_append]; omega) (by omega)]
  exact join_end
theorem join3 {w : ByteArray} {a b c : Int} (hw : w.size ≤ 100) (ha : i64 a) (hb : i64 b) (hc : i64 c) {K : Nat} (hK : 300 ≤ K) : Ftrace_join K w [a, b, c] = some (w ++ (blankS ++ sD a) ++ (blankS ++ sD b) ++ (blankS ++ sD c)) := by
  obtain ⟨K, rfl⟩ : ∃ k, K = k + 4 := ⟨K - 4, by omega⟩
  have za := (sD_len a).2
  have zc := (sD_len b).2
  have zb : blankS.size = 1 := rfl
  show Ftrace_join_2 w [a, b, c] (K + 1 + 1 + 1 + 1) w ((0 : Nat) : Int) = _
  rw [join_step (n := a) (by simp) (by simp) (by simp) ha (by omega) (by omega), join_step (n := b) (by simp) (by simp) (by simp) hb (by simp only [ByteArray.size_append]; omega) (by omega),
    join_step (n := c) (by simp) (by simp) (by simp) hc (by simp only [ByteArray.size_append]; omega) (by omega)]
  exact join_end
def noS : ByteArray := ⟨#[]⟩
theorem l6_stop {e : TEvent} {sh : TTraceshape} {p : A3I} {l : List Int} {K i : Nat} {n : Int} (hi : i < l.length) (hn : l[i]? = some n) (h : n ≠ 0) : Ftrace_Line_6 e (K + 1) sh p l (l.length : Int) (i : Int) = some (noS, 9) := by
  have e4 : getR l (i : Int).toNat = n := by
    show l.getD i _ = _
    simp [List.getD_eq_getElem?_getD, hn]
  have : (n != 0) = true := by rw [bne_iff_ne]; exact h
  rw [Ftrace_Line_6, decide_eq_true (show (i : Int) < (l.length : Int) by omega), inR_of hi, e4, this]
  rfl
theorem l6_next {e : TEvent} {sh : TTraceshape} {p : A3I} {l : List Int} {K i : Nat} (hi : i < l.length) (hl : l.length ≤ 10) (hn : l[i]? = some 0) : Ftrace_Line_6 e (K + 1) sh p l (l.length : Int) (i : Int) = Ftrace_Line_6 e K sh p l (l.length : Int) ((i + 1 : Nat) : Int) := by
  have e4 : getR l (i : Int).toNat = 0 := by
    show l.getD i _ = _
    simp [List.getD_eq_getElem?_getD, hn]
  rw [Ftrace_Line_6, decide_eq_true (show (i : Int) < (l.length : Int) by omega), inR_of hi, e4, wrap_succ (by omega)]
  rfl
/-- trace.Line: the line of an event that may be told. -/
theorem line_eq {e : TEvent} (ho : evOk e) {K : Nat} (hK : 400 ≤ K) : (may e → Ftrace_Line K e = some (lineS e, 0)) ∧ (¬ may e → Ftrace_Line K e = some (noS, 9)) := by
  obtain ⟨n0, k, n1, n2⟩ := e
  obtain ⟨o0, o1, o2⟩ := ho
  simp only at o0 o1 o2
  by_cases h1 : k < 1
  · constructor
    · intro hm
      simp only [may] at hm
      omega
    · intro _
      unfold Ftrace_Line
      simp only [decide_eq_true h1]
      rfl
  by_cases h5 : k > 5
  · constructor
    · intro hm
      simp only [may] at hm
      omega
    · intro _
      unfold Ftrace_Line
      simp only [decide_eq_false h1, Ftrace_shapes, Option.bind_some]
      have : decide (k ≥ ((6 : Nat) : Int)) = true := decide_eq_true (by omega)
      simp only [List.length_cons, List.length_nil]
      rw [this]
      rfl
  obtain ⟨K, rfl⟩ : ∃ k, K = k + 3 := ⟨K - 3, by omega⟩
  have : k = 1 ∨ k = 2 ∨ k = 3 ∨ k = 4 ∨ k = 5 := by omega
  rcases this with rfl | rfl | rfl | rfl | rfl
  · have e1 : Ftrace_Line (K + 3) ⟨n0, 1, n1, n2⟩ = Ftrace_Line_6 ⟨n0, 1, n1, n2⟩ (K + 2 + 1) ⟨wB 1, 2⟩ ⟨n0, n1, n2⟩ [n2] (([n2].length : Nat) : Int) ((0 : Nat) : Int) := rfl
    rw [e1]
    by_cases h2 : n2 = 0
    · subst h2
      constructor
      · intro _
        rw [l6_next (by simp) (by simp) (by simp)]
        have e2 : Ftrace_Line_6 ⟨n0, 1, n1, 0⟩ (K + 2) ⟨wB 1, 2⟩ ⟨n0, n1, 0⟩ [0] (([(0 : Int)].length : Nat) : Int) ((0 + 1 : Nat) : Int) = (Ftrace_join (K + 1) (wB 1) [n0, n1]).bind fun u => some (u, 0) := rfl
        rw [e2, join2 (by have := size_wB 1; omega) o0 o1 (by omega)]
        refine congrArg some (Prod.ext (ba_list ?_) rfl)
        simp [lineS, evWe, joinS, joinS_data, List.append_assoc]
      · intro hm
        exact absurd (Or.inl ⟨rfl, rfl⟩) hm
    · constructor
      · intro hm
        simp [may] at hm
        exact absurd hm h2
      · intro _
        exact l6_stop (by simp) (n := n2) (by simp) h2
  · constructor
    · intro _
      have e2 : Ftrace_Line (K + 3) ⟨n0, 2, n1, n2⟩ = (Ftrace_join (K + 2) (wB 2) [n0, n1, n2]).bind fun u => some (u, 0) := rfl
      rw [e2, join3 (by have := size_wB 2; omega) o0 o1 o2 (by omega)]
      refine congrArg some (Prod.ext (ba_list ?_) rfl)
      simp [lineS, evWe, joinS, joinS_data, List.append_assoc]
    · intro hm
      exact absurd (Or.inr (Or.inl rfl)) hm
  · constructor
    · intro _
      have e2 : Ftrace_Line (K + 3) ⟨n0, 3, n1, n2⟩ = (Ftrace_join (K + 2) (wB 3) [n0, n1, n2]).bind fun u => some (u, 0) := rfl
      rw [e2, join3 (by have := size_wB 3; omega) o0 o1 o2 (by omega)]
      refine congrArg some (Prod.ext (ba_list ?_) rfl)
      simp [lineS, evWe, joinS, joinS_data, List.append_assoc]
    · intro hm
      exact absurd (Or.inr (Or.inr (Or.inl rfl))) hm
  · have e1 : Ftrace_Line (K + 3) ⟨n0, 4, n1, n2⟩ = Ftrace_Line_6 ⟨n0, 4, n1, n2⟩ (K + 2 + 1) ⟨wB 4, 2⟩ ⟨n0, n1, n2⟩ [n2] (([n2].length : Nat) : Int) ((0 : Nat) : Int) := rfl
    rw [e1]
    by_cases h2 : n2 = 0
    · subst h2
      constructor
      · intro _
        rw [l6_next (by simp) (by simp) (by simp)]
        have e2 : Ftrace_Line_6 ⟨n0, 4, n1, 0⟩ (K + 2) ⟨wB 4, 2⟩ ⟨n0, n1, 0⟩ [0] (([(0 : Int)].length : Nat) : Int) ((0 + 1 : Nat) : Int) = (Ftrace_join (K + 1) (wB 4) [n0, n1]).bind fun u => some (u, 0) := rfl
        rw [e2, join2 (by have := size_wB 4; omega) o0 o1 (by omega)]
        refine congrArg some (Prod.ext (ba_list ?_) rfl)
        simp [lineS, evWe, joinS, joinS_data, List.append_assoc]
      · intro hm
        exact absurd (Or.inr (Or.inr (Or.inr (Or.inl ⟨rfl, rfl⟩)))) hm
    · constructor
      · intro hm
        simp [may] at hm
        exact absurd hm h2
      · intro _
        exact l6_stop (by simp) (n := n2) (by simp) h2
  · have e1 : Ftrace_Line (K + 3) ⟨n0, 5, n1, n2⟩ = Ftrace_Line_6 ⟨n0, 5, n1, n2⟩ (K + 2 + 1) ⟨wB 5, 1⟩ ⟨n0, n1, n2⟩ [n1, n2] (([n1, n2].length : Nat) : Int) ((0 : Nat) : Int) := rfl
    rw [e1]
    by_cases h2 : n1 = 0
    · subst h2
      rw [l6_next (by simp) (by simp) (by simp)]
      by_cases h3 : n2 = 0
      · subst h3
        constructor
        · intro _
          rw [l6_next (by simp) (by simp) (by simp)]
          have e2 : Ftrace_Line_6 ⟨n0, 5, 0, 0⟩ (K + 1) ⟨wB 5, 1⟩ ⟨n0, 0, 0⟩ [0, 0] (([(0 : Int), 0].length : Nat) : Int) ((0 + 1 + 1 : Nat) : Int) = (Ftrace_join K (wB 5) [n0]).bind fun u => some (u, 0) := rfl
          rw [e2, join1 (by have := size_wB 5; omega) o0 (by omega)]
          refine congrArg some (Prod.ext (ba_list ?_) rfl)
          simp [lineS, evWe, joinS, joinS_data, List.append_assoc]
        · intro hm
          exact absurd (Or.inr (Or.inr (Or.inr (Or.inr ⟨rfl, rfl, rfl⟩)))) hm
      · constructor
        · intro hm
          simp [may] at hm
          exact absurd hm h3
        · intro _
          exact l6_stop (by simp) (n := n2) (by simp) h3
    · constructor
      · intro hm
        simp [may] at hm
        exact absurd hm.1 h2
      · intro _
        exact l6_stop (by simp) (n := n1) (by simp) h2

end

end Go.Proofs.YtdmcdijlpnbghaaGreatDoor.Lf
