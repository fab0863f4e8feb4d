/-
  Rounds of ticks (lost: 1).
-/
import Derived.Test.YtgfahpnndmocbaaGreatDoorSxL1a
namespace Go.Proofs.YtgfahpnndmocbaaGreatDoor.Sx
open Go Go.RowKit
noncomputable section
set_option linter.unusedVariables false

theorem v1runs10 : chkR Tryz.prog G0 hk0 ex0 100000 rnd 10 (mkT v1r0T) ⟨mkB v1r0H, v1r0N⟩ v1r10T v1r10H v1r10N = true := by kernel_rfl
theorem v1runs20 : chkR Tryz.prog G0 hk0 ex0 100000 rnd 10 (mkT v1r10T) ⟨mkB v1r10H, v1r10N⟩ v1r20T v1r20H v1r20N = true := by kernel_rfl
theorem v1runs30 : chkR Tryz.prog G0 hk0 ex0 100000 rnd 10 (mkT v1r20T) ⟨mkB v1r20H, v1r20N⟩ v1r30T v1r30H v1r30N = true := by kernel_rfl
end
end Go.Proofs.YtgfahpnndmocbaaGreatDoor.Sx
