/- The laws NetNil and NetFull, of what is handed over. -/
import Derived.Test.YthnennleblgjeaaDoorXNet5
namespace Go.Proofs.YthnennleblgjeaaDoor
set_option linter.unusedVariables false
set_option linter.unusedSimpArgs false
open Go.ChangeShapes Go.WideShapes Go.ChangeAt Go.RowKit
set_option linter.unusedVariables false
theorem lawNetNil (w : World) (hT : TabW w) (i : Int) (wi : (Lit.int .i64 i).wf = true) : Calls Tryd.prog 11 #[.int .i64 i] w fun r w' => r = .returned (.bool true) ∧ Fine w w' := netNil_any i w hT
theorem lawNetFull (w : World) (hT : TabW w) (n : Int) (wn : (Lit.int .u8 n).wf = true) : Calls Tryd.prog 7 #[.int .u8 n] w fun r w' => r = .returned (.bool true) ∧ Fine w w' := by
  have hn := bounds_u8 wn
  obtain ⟨M, rfl⟩ : ∃ M : Nat, n = (M : Int) := ⟨n.toNat, by omega⟩
  exact netFull_any M (by omega) w hT
end Go.Proofs.YthnennleblgjeaaDoor
