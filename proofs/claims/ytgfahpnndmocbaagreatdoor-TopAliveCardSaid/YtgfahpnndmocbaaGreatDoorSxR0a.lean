/-
  Rounds of ticks (lost: 0).
-/
import Derived.Test.YtgfahpnndmocbaaGreatDoorSxL0a
namespace Go.Proofs.YtgfahpnndmocbaaGreatDoor.Sx
open Go Go.RowKit
noncomputable section
set_option linter.unusedVariables false

theorem v0runs10 : chkR Tryz.prog G0 hk0 ex0 100000 rnd 10 (mkT v0r0T) ⟨mkB v0r0H, v0r0N⟩ v0r10T v0r10H v0r10N = true := by kernel_rfl
theorem v0runs20 : chkR Tryz.prog G0 hk0 ex0 100000 rnd 10 (mkT v0r10T) ⟨mkB v0r10H, v0r10N⟩ v0r20T v0r20H v0r20N = true := by kernel_rfl
theorem v0runs30 : chkR Tryz.prog G0 hk0 ex0 100000 rnd 10 (mkT v0r20T) ⟨mkB v0r20H, v0r20N⟩ v0r30T v0r30H v0r30N = true := by kernel_rfl
end
end Go.Proofs.YtgfahpnndmocbaaGreatDoor.Sx
