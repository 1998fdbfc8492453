/- The law PlainNone. -/
import Derived.Test.YtefiememffgohaaQP22
namespace Go.Proofs.Ytefiememffgohaa.Lf
open Go Go.Dt Go.Proofs
theorem plainNone_ok (K : Nat) (n : Int) (r : TRect) : FL27_PlainNone K n r = some true := by
  unfold FL27_PlainNone Fplain_Picture_Read_nilp Fplain_Picture_At_nilp Fplain_Picture_Do_nilp
  simp [Fawake]
theorem plainNone_walk (n : Int) (r : TRect) : Con Try.prog 3 [.int .i64 n, .agg ⟨Flat.cells r⟩] (.bool true) := cL27_PlainNone 0 n r true (plainNone_ok 0 n r)
end Go.Proofs.Ytefiememffgohaa.Lf
