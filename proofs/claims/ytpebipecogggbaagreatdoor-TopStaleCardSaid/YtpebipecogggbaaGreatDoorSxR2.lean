/-
  The seventh part: the later rounds.
-/
import Derived.Test.YtpebipecogggbaaGreatDoorSxR
namespace Go.Proofs.YtpebipecogggbaaGreatDoor.Sx
open Go Go.RowKit
noncomputable section
set_option linter.unusedVariables false

theorem atG : atI L0 (mkT sGT) 9 = true := by kernel_rfl
theorem stepG : goL Tryz.prog G0 hk0 ex0 L0 true 20 9 (mkT sGT) ⟨mkB sGH, sGN⟩ = true := by kernel_rfl
end
end Go.Proofs.YtpebipecogggbaaGreatDoor.Sx
