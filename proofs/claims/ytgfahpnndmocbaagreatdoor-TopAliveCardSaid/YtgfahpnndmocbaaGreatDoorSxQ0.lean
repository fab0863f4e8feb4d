/-
  The first part: what the package wakes to; two hosts that have dialed (lost: 0).
-/
import Derived.Test.YtgfahpnndmocbaaGreatDoorSxL0a
namespace Go.Proofs.YtgfahpnndmocbaaGreatDoor.Sx
open Go Go.RowKit
noncomputable section
set_option linter.unusedVariables false

theorem v0stepA : chkF Tryz.prog G0 hk0 ex0 100000 ls1 (T0 false) h0 v0AT v0AH v0AN = true := by kernel_rfl
theorem v0stepB : chkF Tryz.prog G0 hk0 ex0 100000 ls2 (mkT v0AT) ⟨mkB v0AH, v0AN⟩ v0BT v0BH v0BN = true := by kernel_rfl
theorem v0step4 : chkF Tryz.prog G0 hk0 ex0 100000 [cd4] (mkT v0BT) ⟨mkB v0BH, v0BN⟩ v0r0T v0r0H v0r0N = true := by kernel_rfl
end
end Go.Proofs.YtgfahpnndmocbaaGreatDoor.Sx
