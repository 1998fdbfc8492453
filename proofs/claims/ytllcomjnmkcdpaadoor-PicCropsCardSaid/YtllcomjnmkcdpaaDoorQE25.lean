/- Several texts in one: Pa, Pb, Pc. -/
import Derived.Shelf.Strings.Builder1
import Derived.Test.YtllcomjnmkcdpaaDoorQE24
import Derived.Test.YtllcomjnmkcdpaaDoorProg
import Derived.WalkKit
import Derived.BigCall
import Derived.BigGuard
import Derived.LoopTactic
import Derived.Laws.RangeString
import Derived.Laws.RangeAny
import Derived.Test.YtllcomjnmkcdpaaDoorQE19
import Derived.Test.YtllcomjnmkcdpaaDoorQE21
namespace Go.Proofs.YtllcomjnmkcdpaaDoor.Lf

section
open Go Go.Dt Go.Proofs Go.Shelf Go.RowKit
set_option linter.unusedVariables false

def lays166_ren : Go.Shelf.Ren := ⟨fun | 166 => 26 | 240 => 42 | 276 => 52 | n => n, fun | 70 => 62 | 9 => 9 | 3 => 3 | 75 => 67 | 0 => 0 | 72 => 65 | 37 => 63 | 4 => 4 | 164 => 91 | 80 => 73 | 5 => 5 | 20 => 20 | n => n, fun | n => n⟩
theorem lays166 : Go.Proofs.Lays.n166 Tryd.prog lays166_ren := {
  mixed := by kernel_rfl
  f166 := Tryd.func26.trans (congrArg some (by kernel_rfl))
  f240 := Tryd.func42.trans (congrArg some (by kernel_rfl))
  f276 := Tryd.func52.trans (congrArg some (by kernel_rfl))
  t0 := Tryd.underlying0
  a0 := Tryd.isAgg0
  z0 := Tryd.sizeOf0
  v0 := Tryd.zeroValue0
  t3 := Tryd.underlying3
  a3 := Tryd.isAgg3
  z3 := Tryd.sizeOf3
  v3 := Tryd.zeroValue3
  t4 := Tryd.underlying4
  a4 := Tryd.isAgg4
  z4 := Tryd.sizeOf4
  v4 := Tryd.zeroValue4
  t9 := Tryd.underlying9
  a9 := Tryd.isAgg9
  z9 := Tryd.sizeOf9
  v9 := Tryd.zeroValue9
  t20 := Tryd.underlying20
  a20 := Tryd.isAgg20
  z20 := Tryd.sizeOf20
  v20 := Tryd.zeroValue20
  t37 := Tryd.underlying63
  a37 := Tryd.isAgg63
  z37 := Tryd.sizeOf63
  v37 := Tryd.zeroValue63
  t70 := Tryd.underlying62
  a70 := Tryd.isAgg62
  z70 := Tryd.sizeOf62
  v70 := Tryd.zeroValue62
  t72 := Tryd.underlying65
  a72 := Tryd.isAgg65
  z72 := Tryd.sizeOf65
  v72 := Tryd.zeroValue65
  t75 := Tryd.underlying67
  a75 := Tryd.isAgg67
  z75 := Tryd.sizeOf67
  v75 := Tryd.zeroValue67
  t164 := Tryd.underlying91
  a164 := Tryd.isAgg91
  z164 := Tryd.sizeOf91
  v164 := Tryd.zeroValue91 }
theorem extra166 : Go.Proofs.Builder.Extra Tryd.prog lays166_ren := {
  sizeBuilder := by kernel_rfl
  liesBuilder := by kernel_rfl
  t5 := Tryd.underlying5
  a5 := Tryd.isAgg5
  z5 := Tryd.sizeOf5
  v5 := Tryd.zeroValue5
  infoByte := by kernel_rfl
  cellsByte := by kernel_rfl
  sizeByte := by kernel_rfl
  neB5 := by decide }
def lays167_ren : Go.Shelf.Ren := ⟨fun | 167 => 28 | 240 => 42 | 276 => 52 | n => n, fun | 70 => 62 | 5 => 5 | 75 => 67 | 0 => 0 | 72 => 65 | 37 => 63 | 4 => 4 | 164 => 91 | 80 => 73 | 9 => 9 | 20 => 20 | n => n, fun | n => n⟩
theorem lays167 : Go.Proofs.Lays.n167 Tryd.prog lays167_ren := {
  mixed := by kernel_rfl
  f167 := Tryd.func28.trans (congrArg some (by kernel_rfl))
  f240 := Tryd.func42.trans (congrArg some (by kernel_rfl))
  f276 := Tryd.func52.trans (congrArg some (by kernel_rfl))
  t0 := Tryd.underlying0
  a0 := Tryd.isAgg0
  z0 := Tryd.sizeOf0
  v0 := Tryd.zeroValue0
  t4 := Tryd.underlying4
  a4 := Tryd.isAgg4
  z4 := Tryd.sizeOf4
  v4 := Tryd.zeroValue4
  t5 := Tryd.underlying5
  a5 := Tryd.isAgg5
  z5 := Tryd.sizeOf5
  v5 := Tryd.zeroValue5
  t9 := Tryd.underlying9
  a9 := Tryd.isAgg9
  z9 := Tryd.sizeOf9
  v9 := Tryd.zeroValue9
  t20 := Tryd.underlying20
  a20 := Tryd.isAgg20
  z20 := Tryd.sizeOf20
  v20 := Tryd.zeroValue20
  t37 := Tryd.underlying63
  a37 := Tryd.isAgg63
  z37 := Tryd.sizeOf63
  v37 := Tryd.zeroValue63
  t70 := Tryd.underlying62
  a70 := Tryd.isAgg62
  z70 := Tryd.sizeOf62
  v70 := Tryd.zeroValue62
  t72 := Tryd.underlying65
  a72 := Tryd.isAgg65
  z72 := Tryd.sizeOf65
  v72 := Tryd.zeroValue65
  t75 := Tryd.underlying67
  a75 := Tryd.isAgg67
  z75 := Tryd.sizeOf67
  v75 := Tryd.zeroValue67
  t164 := Tryd.underlying91
  a164 := Tryd.isAgg91
  z164 := Tryd.sizeOf91
  v164 := Tryd.zeroValue91 }
theorem extra167 : Go.Proofs.Builder.Extra Tryd.prog lays167_ren := {
  sizeBuilder := by kernel_rfl
  liesBuilder := by kernel_rfl
  t5 := Tryd.underlying5
  a5 := Tryd.isAgg5
  z5 := Tryd.sizeOf5
  v5 := Tryd.zeroValue5
  infoByte := by kernel_rfl
  cellsByte := by kernel_rfl
  sizeByte := by kernel_rfl
  neB5 := by decide }
def lays169_ren : Go.Shelf.Ren := ⟨fun | 169 => 30 | n => n, fun | 70 => 62 | 9 => 9 | 0 => 0 | 72 => 65 | 37 => 63 | 127 => 84 | 3 => 3 | 5 => 5 | 20 => 20 | n => n, fun | n => n⟩
theorem lays169 : Go.Proofs.Lays.n169 Tryd.prog lays169_ren := {
  mixed := by kernel_rfl
  f169 := Tryd.func30.trans (congrArg some (by kernel_rfl))
  t0 := Tryd.underlying0
  a0 := Tryd.isAgg0
  z0 := Tryd.sizeOf0
  v0 := Tryd.zeroValue0
  t3 := Tryd.underlying3
  a3 := Tryd.isAgg3
  z3 := Tryd.sizeOf3
  v3 := Tryd.zeroValue3
  t9 := Tryd.underlying9
  a9 := Tryd.isAgg9
  z9 := Tryd.sizeOf9
  v9 := Tryd.zeroValue9
  t37 := Tryd.underlying63
  a37 := Tryd.isAgg63
  z37 := Tryd.sizeOf63
  v37 := Tryd.zeroValue63
  t70 := Tryd.underlying62
  a70 := Tryd.isAgg62
  z70 := Tryd.sizeOf62
  v70 := Tryd.zeroValue62
  t72 := Tryd.underlying65
  a72 := Tryd.isAgg65
  z72 := Tryd.sizeOf65
  v72 := Tryd.zeroValue65
  t127 := Tryd.underlying84
  a127 := Tryd.isAgg84
  z127 := Tryd.sizeOf84
  v127 := Tryd.zeroValue84 }
theorem extra169 : Go.Proofs.Builder.Extra Tryd.prog lays169_ren := {
  sizeBuilder := by kernel_rfl
  liesBuilder := by kernel_rfl
  t5 := Tryd.underlying5
  a5 := Tryd.isAgg5
  z5 := Tryd.sizeOf5
  v5 := Tryd.zeroValue5
  infoByte := by kernel_rfl
  cellsByte := by kernel_rfl
  sizeByte := by kernel_rfl
  neB5 := by decide }

/-- What WriteString, WriteByte, String do. -/
theorem writeString (B b : Nat) (l : List UInt8) (s : ByteArray) (w : World) (h : Lib.IsBuilder 65 5 B b (Lib.byteCells l) w) (hl : l.length + s.size ≤ 140737488355328) (hB : B ≤ w.heap.size) :
    Calls Tryd.prog 26 #[.pointer (some ⟨b, 0, none⟩), .string s] w fun e w' => e = .returned (.tuple #[.int .i64 s.size, .nilIface]) ∧ Lib.IsBuilder 65 5 B b (Lib.byteCells (l ++ s.data.toList)) w' ∧ Below B w w' :=
  (Any.Builder_WriteString lays166 extra166 B b _ s w h (by rw [Lib.byteCells_length]; exact hl) hB).mono fun e w' ⟨he, hb, hw⟩ => ⟨he, by rw [Lib.byteCells_append]; exact .inr hb, hw⟩
theorem writeByte (B b : Nat) (l : List UInt8) (c : Nat) (hc : c < 256) (w : World) (h : Lib.IsBuilder 65 5 B b (Lib.byteCells l) w) (hl : l.length + 1 ≤ 140737488355328) (hB : B ≤ w.heap.size) :
    Calls Tryd.prog 28 #[.pointer (some ⟨b, 0, none⟩), .int .u8 c] w fun e w' => e = .returned .nilIface ∧ Lib.IsBuilder 65 5 B b (Lib.byteCells (l ++ [UInt8.ofNat c])) w' ∧ Below B w w' :=
  (Any.Builder_WriteByte lays167 extra167 B b _ c w h (by rw [Lib.byteCells_length]; exact hl) hB).mono fun e w' ⟨he, hb, hw⟩ => ⟨he, by
    rw [Lib.byteCells_append, show Lib.byteCells [UInt8.ofNat c] = [Value.int .u8 c] by simp [Lib.byteCells, Nat.mod_eq_of_lt hc]]; exact .inr hb, hw⟩
theorem string_ (B b : Nat) (l : List UInt8) (w : World) (h : Lib.IsBuilder 65 5 B b (Lib.byteCells l) w) (h0 : l ≠ []) :
    Calls Tryd.prog 30 #[.pointer (some ⟨b, 0, none⟩)] w fun e w' => e = .returned (.string ⟨l.toArray⟩) ∧ Below B w w' :=
  Any.Builder_String lays169 extra169 B b l w h h0

end

section
open Go Go.Dt Go.Proofs Go.Shelf Go.RowKit
set_option linter.unusedVariables false
set_option linter.unusedSimpArgs false

set_option maxHeartbeats 4000000 in
set_option maxRecDepth 100000 in

theorem line_plain (s : ByteArray) (ha : ∀ i (h : i < s.size), 32 ≤ (s[i]'h).toNat ∧ (s[i]'h).toNat < 127) (w : World)
    (hR : ∀ W, Calls Tryd.prog 47 #[.string s] W fun e W' => e = .returned (.bool true) ∧ Below W.heap.size W W') :
    Calls Tryd.prog 37 #[.string s] w fun e w' => e = .returned (.bool true) ∧ Below w.heap.size w w' := by
  go_enter Tryd.func37, Tryd.ntmps37
  go_wp2
  go_loopw [4] (fun c w' => ∃ pos : Nat, w' = w.iter s pos) (fun _ w' => s.size - w'.iterPos w.heap.size)
  case atStart => exact ⟨0, rfl⟩
  case round =>
    obtain ⟨pos, rfl⟩ := hrel
    by_cases hp : pos < s.size
    · have hb := ha pos hp
      have hd := decode_ascii s pos hp (by omega)
      have hnx : ∀ ty, (Instr.next (.pointer (some ⟨w.heap.size, 0, none⟩)) true ty).run Tryd.prog (w.iter s pos) = _ := fun ty => run_next_any w s pos ty hp
      rw [hd] at hnx
      generalize (s[pos]'hp).toNat = c at hnx hb
      go_wp2
      case roundEnd =>
        go_roundw
        case rel => exact ⟨pos + 1, rfl⟩
        case measure =>
          simp
          omega
      all_goals
        exfalso
        rename_i h1 h2
        rcases h2 with h2 | h2
        · omega
        · have := eq_of_beq h2
          omega
    · have hnx : ∀ ty, (Instr.next (.pointer (some ⟨w.heap.size, 0, none⟩)) true ty).run Tryd.prog (w.iter s pos) = _ := fun ty => run_next_end w s pos ty hp
      go_wp2_with (go_at_call 47; refine (hR _).mono ?_; rintro e W1 ⟨rfl, hb⟩)
      go_ret
      have h0 : Below w.heap.size w (w.iter s pos) := (Below.refl _ w).alloc (Nat.le_refl _) _
      exact ⟨rfl, h0.trans (hb.mono h0.size)⟩

end

section
open Go Go.Dt Go.Proofs Go.Shelf Go.RowKit
set_option linter.unusedVariables false

theorem none_ok : HkOk Tryd.prog (tabK []) := tabK_ok (fun k hk => by cases hk)
theorem dec0 : Con Tryd.prog 27 [.int .i64 0] (.string ⟨#[48]⟩) := Con.of Tryd.func27 (by kernel_rfl) rfl (FnEq.evalHk mixed (X := []) (fun f e h => by simp at h) none_ok 3000 Tryd.func27 (by kernel_rfl) rfl (by kernel_rfl))
theorem dec1 : Con Tryd.prog 27 [.int .i64 1] (.string ⟨#[49]⟩) := Con.of Tryd.func27 (by kernel_rfl) rfl (FnEq.evalHk mixed (X := []) (fun f e h => by simp at h) none_ok 3000 Tryd.func27 (by kernel_rfl) rfl (by kernel_rfl))
theorem dec2 : Con Tryd.prog 27 [.int .i64 2] (.string ⟨#[50]⟩) := Con.of Tryd.func27 (by kernel_rfl) rfl (FnEq.evalHk mixed (X := []) (fun f e h => by simp at h) none_ok 3000 Tryd.func27 (by kernel_rfl) rfl (by kernel_rfl))
theorem hex1 : Con Tryd.prog 29 [.int .i64 1, .int .i64 8] (.tuple ⟨[.string ⟨#[48, 48, 48, 48, 48, 48, 48, 49]⟩, .int .i64 0]⟩) := Con.of Tryd.func29 (by kernel_rfl) rfl (FnEq.evalHk mixed (X := []) (fun f e h => by simp at h) none_ok 3000 Tryd.func29 (by kernel_rfl) rfl (by kernel_rfl))
theorem hex255 : Con Tryd.prog 29 [.int .i64 255, .int .i64 8] (.tuple ⟨[.string ⟨#[48, 48, 48, 48, 48, 48, 102, 102]⟩, .int .i64 0]⟩) := Con.of Tryd.func29 (by kernel_rfl) rfl (FnEq.evalHk mixed (X := []) (fun f e h => by simp at h) none_ok 3000 Tryd.func29 (by kernel_rfl) rfl (by kernel_rfl))

end

end Go.Proofs.YtllcomjnmkcdpaaDoor.Lf
