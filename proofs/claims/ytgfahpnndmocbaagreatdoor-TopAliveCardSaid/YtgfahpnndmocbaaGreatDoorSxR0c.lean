/-
  Rounds of ticks (lost: 0).
-/
import Derived.Test.YtgfahpnndmocbaaGreatDoorSxL0a
namespace Go.Proofs.YtgfahpnndmocbaaGreatDoor.Sx
open Go Go.RowKit
noncomputable section
set_option linter.unusedVariables false

theorem v0runs60 : chkR Tryz.prog G0 hk0 ex0 100000 rnd 10 (mkT v0r50T) ⟨mkB v0r50H, v0r50N⟩ v0r60T v0r60H v0r60N = true := by kernel_rfl
theorem v0runs70 : chkR Tryz.prog G0 hk0 ex0 100000 rnd 10 (mkT v0r60T) ⟨mkB v0r60H, v0r60N⟩ v0r70T v0r70H v0r70N = true := by kernel_rfl
theorem v0runs79 : chkR Tryz.prog G0 hk0 ex0 100000 rnd 9 (mkT v0r70T) ⟨mkB v0r70H, v0r70N⟩ v0r79T v0r79H v0r79N = true := by kernel_rfl
end
end Go.Proofs.YtgfahpnndmocbaaGreatDoor.Sx
