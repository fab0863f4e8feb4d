/-
  Rounds of ticks (lost: 0).
-/
import Derived.Test.YtgfahpnndmocbaaGreatDoorSxL0a
namespace Go.Proofs.YtgfahpnndmocbaaGreatDoor.Sx
open Go Go.RowKit
noncomputable section
set_option linter.unusedVariables false

theorem v0runs80 : chkR Tryz.prog G0 v0hk79 ex0 100000 rnd 1 (mkT v0r79T) ⟨mkB v0r79H, v0r79N⟩ v0r80T v0r80H v0r80N = true := by kernel_rfl
theorem v0runs90 : chkR Tryz.prog G0 hk0 ex0 100000 rnd 10 (mkT v0r80T) ⟨mkB v0r80H, v0r80N⟩ v0r90T v0r90H v0r90N = true := by kernel_rfl
theorem v0runsE : chkE Tryz.prog G0 hk0 ex0 100000 rnd 0 (mkT v0r90T) ⟨mkB v0r90H, v0r90N⟩ v0ZT v0ZH v0ZN = true := by kernel_rfl
theorem v0runsF : retF Tryz.prog G0 hk0 ex0 6 100000 tlC (mkT v0ZT) ⟨mkB v0ZH, v0ZN⟩ = true := by kernel_rfl
end
end Go.Proofs.YtgfahpnndmocbaaGreatDoor.Sx
