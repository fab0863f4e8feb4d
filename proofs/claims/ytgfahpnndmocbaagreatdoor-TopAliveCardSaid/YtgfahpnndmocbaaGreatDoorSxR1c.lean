/-
  Rounds of ticks (lost: 1).
-/
import Derived.Test.YtgfahpnndmocbaaGreatDoorSxL1a
namespace Go.Proofs.YtgfahpnndmocbaaGreatDoor.Sx
open Go Go.RowKit
noncomputable section
set_option linter.unusedVariables false

theorem v1runs64 : chkR Tryz.prog G0 hk0 ex0 100000 rnd 9 (mkT v1r55T) ⟨mkB v1r55H, v1r55N⟩ v1r64T v1r64H v1r64N = true := by kernel_rfl
theorem v1runs78 : chkR Tryz.prog G0 hk0 ex0 100000 rnd 14 (mkT v1r64T) ⟨mkB v1r64H, v1r64N⟩ v1r78T v1r78H v1r78N = true := by kernel_rfl
theorem v1runs90 : chkR Tryz.prog G0 hk0 ex0 100000 rnd 12 (mkT v1r78T) ⟨mkB v1r78H, v1r78N⟩ v1r90T v1r90H v1r90N = true := by kernel_rfl
theorem v1runsE : chkE Tryz.prog G0 hk0 ex0 100000 rnd 0 (mkT v1r90T) ⟨mkB v1r90H, v1r90N⟩ v1ZT v1ZH v1ZN = true := by kernel_rfl
theorem v1runsF : retF Tryz.prog G0 hk0 ex0 6 100000 tlC (mkT v1ZT) ⟨mkB v1ZH, v1ZN⟩ = true := by kernel_rfl
end
end Go.Proofs.YtgfahpnndmocbaaGreatDoor.Sx
