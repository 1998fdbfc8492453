/- Several texts in one: Pm, Ph, Pj. -/
import Derived.Shelf.Strconv.ParseIntPublic10
import Derived.Test.YtllcomjnmkcdpaaDoorQE26
import Derived.Test.YtllcomjnmkcdpaaDoorQE21
namespace Go.Proofs.YtllcomjnmkcdpaaDoor.Lf

section
open Go Go.Dt Go.Proofs Go.Shelf Go.RowKit
set_option linter.unusedVariables false

def laysPI_ren : Go.Shelf.Ren := ⟨fun | 174 => 51 | 247 => 63 | 245 => 64 | 287 => 74 | 279 => 75 | 280 => 76 | 281 => 77 | 282 => 78 | 321 => 84 | 322 => 85 | 316 => 86 | 171 => 88 | 205 => 87 | 243 => 90 | 246 => 91 | 283 => 92 | 284 => 93 | 285 => 94 | 286 => 95 | 129 => 97 | 317 => 96 | 318 => 98 | 319 => 99 | 320 => 100 | 337 => 101 | 338 => 102 | n => n, fun | 9 => 9 | 3 => 3 | 2 => 2 | 75 => 67 | 85 => 89 | 4 => 4 | 167 => 115 | 5 => 5 | 53 => 81 | 175 => 116 | 46 => 94 | 168 => 118 | 37 => 63 | 0 => 0 | 210 => 126 | 21 => 21 | 127 => 84 | 145 => 131 | 143 => 129 | 171 => 133 | 173 => 136 | 212 => 139 | 51 => 102 | 20 => 20 | 213 => 140 | 232 => 143 | 233 => 144 | 80 => 73 | n => n, fun | 15 => 3 | 16 => 4 | 17 => 5 | 18 => 6 | 19 => 7 | n => n⟩
theorem laysPI : Go.Proofs.LaysC.n174 Tryd.prog laysPI_ren := {
  mixed := by kernel_rfl
  f129 := Tryd.func97.trans (congrArg some (by kernel_rfl))
  f171 := Tryd.func88.trans (congrArg some (by kernel_rfl))
  f174 := Tryd.func51.trans (congrArg some (by kernel_rfl))
  f205 := Tryd.func87.trans (congrArg some (by kernel_rfl))
  f243 := Tryd.func90.trans (congrArg some (by kernel_rfl))
  f245 := Tryd.func64.trans (congrArg some (by kernel_rfl))
  f246 := Tryd.func91.trans (congrArg some (by kernel_rfl))
  f247 := Tryd.func63.trans (congrArg some (by kernel_rfl))
  f279 := Tryd.func75.trans (congrArg some (by kernel_rfl))
  f280 := Tryd.func76.trans (congrArg some (by kernel_rfl))
  f281 := Tryd.func77.trans (congrArg some (by kernel_rfl))
  f282 := Tryd.func78.trans (congrArg some (by kernel_rfl))
  f283 := Tryd.func92.trans (congrArg some (by kernel_rfl))
  f284 := Tryd.func93.trans (congrArg some (by kernel_rfl))
  f285 := Tryd.func94.trans (congrArg some (by kernel_rfl))
  f286 := Tryd.func95.trans (congrArg some (by kernel_rfl))
  f287 := Tryd.func74.trans (congrArg some (by kernel_rfl))
  f316 := Tryd.func86.trans (congrArg some (by kernel_rfl))
  f317 := Tryd.func96.trans (congrArg some (by kernel_rfl))
  f318 := Tryd.func98.trans (congrArg some (by kernel_rfl))
  f319 := Tryd.func99.trans (congrArg some (by kernel_rfl))
  f320 := Tryd.func100.trans (congrArg some (by kernel_rfl))
  f321 := Tryd.func84.trans (congrArg some (by kernel_rfl))
  f322 := Tryd.func85.trans (congrArg some (by kernel_rfl))
  f337 := Tryd.func101.trans (congrArg some (by kernel_rfl))
  f338 := Tryd.func102.trans (congrArg some (by kernel_rfl))
  t0 := Tryd.underlying0
  a0 := Tryd.isAgg0
  z0 := Tryd.sizeOf0
  v0 := Tryd.zeroValue0
  t2 := Tryd.underlying2
  a2 := Tryd.isAgg2
  z2 := Tryd.sizeOf2
  v2 := Tryd.zeroValue2
  t3 := Tryd.underlying3
  a3 := Tryd.isAgg3
  z3 := Tryd.sizeOf3
  v3 := Tryd.zeroValue3
  t4 := Tryd.underlying4
  a4 := Tryd.isAgg4
  z4 := Tryd.sizeOf4
  v4 := Tryd.zeroValue4
  t5 := Tryd.underlying5
  a5 := Tryd.isAgg5
  z5 := Tryd.sizeOf5
  v5 := Tryd.zeroValue5
  t9 := Tryd.underlying9
  a9 := Tryd.isAgg9
  z9 := Tryd.sizeOf9
  v9 := Tryd.zeroValue9
  t20 := Tryd.underlying20
  a20 := Tryd.isAgg20
  z20 := Tryd.sizeOf20
  v20 := Tryd.zeroValue20
  t21 := Tryd.underlying21
  a21 := Tryd.isAgg21
  z21 := Tryd.sizeOf21
  v21 := Tryd.zeroValue21
  t37 := Tryd.underlying63
  a37 := Tryd.isAgg63
  z37 := Tryd.sizeOf63
  v37 := Tryd.zeroValue63
  t46 := Tryd.underlying94
  a46 := Tryd.isAgg94
  z46 := Tryd.sizeOf94
  v46 := Tryd.zeroValue94
  t51 := Tryd.underlying102
  a51 := Tryd.isAgg102
  z51 := Tryd.sizeOf102
  v51 := Tryd.zeroValue102
  t53 := Tryd.underlying81
  a53 := Tryd.isAgg81
  z53 := Tryd.sizeOf81
  v53 := Tryd.zeroValue81
  t75 := Tryd.underlying67
  a75 := Tryd.isAgg67
  z75 := Tryd.sizeOf67
  v75 := Tryd.zeroValue67
  t85 := Tryd.underlying89
  a85 := Tryd.isAgg89
  z85 := Tryd.sizeOf89
  v85 := Tryd.zeroValue89
  t127 := Tryd.underlying84
  a127 := Tryd.isAgg84
  z127 := Tryd.sizeOf84
  v127 := Tryd.zeroValue84
  t143 := Tryd.underlying129
  a143 := Tryd.isAgg129
  z143 := Tryd.sizeOf129
  v143 := Tryd.zeroValue129
  t145 := Tryd.underlying131
  a145 := Tryd.isAgg131
  z145 := Tryd.sizeOf131
  v145 := Tryd.zeroValue131
  t167 := Tryd.underlying115
  a167 := Tryd.isAgg115
  z167 := Tryd.sizeOf115
  v167 := Tryd.zeroValue115
  t168 := Tryd.underlying118
  a168 := Tryd.isAgg118
  z168 := Tryd.sizeOf118
  v168 := Tryd.zeroValue118
  t171 := Tryd.underlying133
  a171 := Tryd.isAgg133
  z171 := Tryd.sizeOf133
  v171 := Tryd.zeroValue133
  t173 := Tryd.underlying136
  a173 := Tryd.isAgg136
  z173 := Tryd.sizeOf136
  v173 := Tryd.zeroValue136
  t175 := Tryd.underlying116
  a175 := Tryd.isAgg116
  z175 := Tryd.sizeOf116
  v175 := Tryd.zeroValue116
  t210 := Tryd.underlying126
  a210 := Tryd.isAgg126
  z210 := Tryd.sizeOf126
  v210 := Tryd.zeroValue126
  t212 := Tryd.underlying139
  a212 := Tryd.isAgg139
  z212 := Tryd.sizeOf139
  v212 := Tryd.zeroValue139
  t213 := Tryd.underlying140
  a213 := Tryd.isAgg140
  z213 := Tryd.sizeOf140
  t232 := Tryd.underlying143
  a232 := Tryd.isAgg143
  z232 := Tryd.sizeOf143
  v232 := Tryd.zeroValue143
  t233 := Tryd.underlying144
  a233 := Tryd.isAgg144
  z233 := Tryd.sizeOf144
  v233 := Tryd.zeroValue144
  g15 := by kernel_rfl
  g16 := by kernel_rfl
  g17 := by kernel_rfl
  g18 := by kernel_rfl
  g19 := by kernel_rfl
  t80 := Tryd.underlying73
  a80 := Tryd.isAgg73
  z80 := Tryd.sizeOf73
  v80 := Tryd.zeroValue73
  i0 := by kernel_rfl
  i2 := by kernel_rfl
  i3 := by kernel_rfl
  i4 := by kernel_rfl
  i5 := by kernel_rfl
  i9 := by kernel_rfl
  i20 := by kernel_rfl
  i21 := by kernel_rfl
  i37 := by kernel_rfl
  i46 := by kernel_rfl
  i51 := by kernel_rfl
  i53 := by kernel_rfl
  i75 := by kernel_rfl
  i80 := by kernel_rfl
  i85 := by kernel_rfl
  i127 := by kernel_rfl
  i143 := by kernel_rfl
  i145 := by kernel_rfl
  i167 := by kernel_rfl
  i168 := by kernel_rfl
  i171 := by kernel_rfl
  i173 := by kernel_rfl
  i175 := by kernel_rfl
  i210 := by kernel_rfl
  i212 := by kernel_rfl
  i232 := by kernel_rfl
  i233 := by kernel_rfl
  m15 := by kernel_rfl
  m16 := by kernel_rfl
  m17 := by kernel_rfl
  m18 := by kernel_rfl
  m19 := by kernel_rfl
  c0 := by kernel_rfl
  c2 := by kernel_rfl
  c3 := by kernel_rfl
  c4 := by kernel_rfl
  c5 := by kernel_rfl
  c9 := by kernel_rfl
  c20 := by kernel_rfl
  c21 := by kernel_rfl
  c37 := by kernel_rfl
  c46 := by kernel_rfl
  c51 := by kernel_rfl
  c53 := by kernel_rfl
  c75 := by kernel_rfl
  c80 := by kernel_rfl
  c85 := by kernel_rfl
  c127 := by kernel_rfl
  c143 := by kernel_rfl
  c145 := by kernel_rfl
  c167 := by kernel_rfl
  c168 := by kernel_rfl
  c171 := by kernel_rfl
  c173 := by kernel_rfl
  c175 := by kernel_rfl
  c210 := by kernel_rfl
  c212 := by kernel_rfl
  c213 := by kernel_rfl
  c232 := by kernel_rfl
  c233 := by kernel_rfl }

theorem parse_digit {s : ByteArray} {v : Int} (hs : s.size ≤ 1000) (hp : Lib.parseIntB 64 s.data.toList = .ok v) : FnEq Tryd.prog 51 [.string s, .int .i64 10, .int .i64 64] [] (.tuple ⟨[.int .i64 v, .nilIface]⟩) [] :=
  FnEq.ofBelow rfl rfl fun w => (Any.strconv_ParseInt_10_at64_ok laysPI s (by omega) v hp w).mono fun e w' ⟨he, hw⟩ => ⟨he, by
    rcases hw with rfl | ⟨t, rfl⟩
    · exact Below.refl _ _
    · exact Lib.bytesWorld_below _ _ _⟩

end

section
open Go Go.Dt Go.Proofs Go.Shelf Go.RowKit
set_option linter.unusedVariables false
set_option linter.unusedSimpArgs false

def X : Exts := [(58, Go.Extern.BytealgIndexByte.indexByte), (72, Go.Extern.BytealgCount.count)]
theorem X_ok : ExtOk Tryd.prog X := fun f e h => by
  simp only [X, List.mem_cons, Prod.mk.injEq, List.not_mem_nil, or_false] at h
  rcases h with ⟨rfl, rfl⟩ | ⟨rfl, rfl⟩ <;> kernel_rfl
def s01 : ByteArray := ⟨#[48, 32, 49]⟩
def s0 : ByteArray := ⟨#[]⟩
theorem lexRight01 : FnEq Tryd.prog 47 [.string s01] [] (.bool true) [] := FnEq.evalHk mixed X_ok none_ok 3000 Tryd.func47 (by kernel_rfl) rfl (by kernel_rfl)
theorem lexRight0 : FnEq Tryd.prog 47 [.string s0] [] (.bool true) [] := FnEq.evalHk mixed X_ok none_ok 3000 Tryd.func47 (by kernel_rfl) rfl (by kernel_rfl)
theorem line01 : FnEq Tryd.prog 37 [.string s01] [] (.bool true) [] := FnEq.ofBelow rfl rfl fun w => line_plain s01 (fun i h => by
    have : i = 0 ∨ i = 1 ∨ i = 2 := by
      have : i < 3 := h
      omega
    rcases this with rfl | rfl | rfl <;> decide +revert) w (fun W => Con.calls (Con.of Tryd.func47 (by kernel_rfl) rfl lexRight01) rfl #[.string s01] W rfl (fun i => by
    rcases i with _ | i
    · exact RV.string _
    · exact RV.any _))
theorem line0 : FnEq Tryd.prog 37 [.string s0] [] (.bool true) [] := FnEq.ofBelow rfl rfl fun w => line_plain s0 (fun i h => absurd h (Nat.not_lt_zero _)) w (fun W => Con.calls (Con.of Tryd.func47 (by kernel_rfl) rfl lexRight0) rfl #[.string s0] W rfl (fun i => by
    rcases i with _ | i
    · exact RV.string _
    · exact RV.any _))
theorem text_nil_fn : FnEq Tryd.prog 10 [.agg ⟨[.int .i64 0, .int .i64 1, .slice none 0 0]⟩] [] (.tuple ⟨[.string ⟨#[48, 32, 49, 10, 10]⟩, .int .i64 0]⟩) [] := FnEq.ofBelow rfl rfl text_nil
def tab : List Known := [⟨37, [.string s01], [], .bool true, []⟩, ⟨37, [.string s0], [], .bool true, []⟩, ⟨10, [.agg ⟨[.int .i64 0, .int .i64 1, .slice none 0 0]⟩], [], .tuple ⟨[.string ⟨#[48, 32, 49, 10, 10]⟩, .int .i64 0]⟩, []⟩, ⟨10, img2, mem2, out2, mem2⟩,
  ⟨51, [.string ⟨#[48]⟩, .int .i64 10, .int .i64 64], [], .tuple ⟨[.int .i64 0, .nilIface]⟩, []⟩, ⟨51, [.string ⟨#[49]⟩, .int .i64 10, .int .i64 64], [], .tuple ⟨[.int .i64 1, .nilIface]⟩, []⟩]
theorem tab_ok : HkOk Tryd.prog (tabK tab) := tabK_ok fun k hk => by
  simp only [tab, List.mem_cons, List.not_mem_nil, or_false] at hk
  rcases hk with rfl | rfl | rfl | rfl | rfl | rfl
  · exact line01
  · exact line0
  · exact text_nil_fn
  · exact text_two_fn
  · exact parse_digit (by decide) (by decide)
  · exact parse_digit (by decide) (by decide)
theorem awake_eq : FnEq Tryd.prog 6 [] [] (.bool true) [] := FnEq.evalHk mixed X_ok tab_ok 6000 Tryd.func6 (by kernel_rfl) rfl (by kernel_rfl)
abbrev Fawake : Bool := true
theorem awake_con : Con Tryd.prog 6 [] (.bool Fawake) := ⟨awake_eq, ⟨_, Tryd.func6, by kernel_rfl⟩, by kernel_rfl⟩

end

section
open Go Go.Dt Go.Proofs
set_option linter.unusedVariables false

/-! ### 4 -/
end

end Go.Proofs.YtllcomjnmkcdpaaDoor.Lf
