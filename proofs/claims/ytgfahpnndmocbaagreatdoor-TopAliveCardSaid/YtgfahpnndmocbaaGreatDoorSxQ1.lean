/-
  The first part: what the package wakes to; two hosts that have dialed (lost: 1).
-/
import Derived.Test.YtgfahpnndmocbaaGreatDoorSxL1a
namespace Go.Proofs.YtgfahpnndmocbaaGreatDoor.Sx
open Go Go.RowKit
noncomputable section
set_option linter.unusedVariables false

theorem v1stepA : chkF Tryz.prog G0 hk0 ex0 100000 ls1 (T0 true) h0 v1AT v1AH v1AN = true := by kernel_rfl
theorem v1stepB : chkF Tryz.prog G0 hk0 ex0 100000 ls2 (mkT v1AT) ⟨mkB v1AH, v1AN⟩ v1BT v1BH v1BN = true := by kernel_rfl
theorem v1step4 : chkF Tryz.prog G0 hk0 ex0 100000 [cd4] (mkT v1BT) ⟨mkB v1BH, v1BN⟩ v1r0T v1r0H v1r0N = true := by kernel_rfl
end
end Go.Proofs.YtgfahpnndmocbaaGreatDoor.Sx
