/-
  Rounds of ticks (lost: 0).
-/
import Derived.Test.YtgfahpnndmocbaaGreatDoorSxL0a
namespace Go.Proofs.YtgfahpnndmocbaaGreatDoor.Sx
open Go Go.RowKit
noncomputable section
set_option linter.unusedVariables false

theorem v0runs39 : chkR Tryz.prog G0 hk0 ex0 100000 rnd 9 (mkT v0r30T) ⟨mkB v0r30H, v0r30N⟩ v0r39T v0r39H v0r39N = true := by kernel_rfl
theorem v0runs40 : chkR Tryz.prog G0 v0hk39 ex0 100000 rnd 1 (mkT v0r39T) ⟨mkB v0r39H, v0r39N⟩ v0r40T v0r40H v0r40N = true := by kernel_rfl
theorem v0runs50 : chkR Tryz.prog G0 hk0 ex0 100000 rnd 10 (mkT v0r40T) ⟨mkB v0r40H, v0r40N⟩ v0r50T v0r50H v0r50N = true := by kernel_rfl
end
end Go.Proofs.YtgfahpnndmocbaaGreatDoor.Sx
