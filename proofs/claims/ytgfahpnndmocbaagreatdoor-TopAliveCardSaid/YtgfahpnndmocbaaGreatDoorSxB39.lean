/-
  What comes at the tick 39.
-/
import Derived.Test.YtgfahpnndmocbaaGreatDoorSxL0a
namespace Go.Proofs.YtgfahpnndmocbaaGreatDoor.Sx
open Go Go.RowKit
noncomputable section
set_option linter.unusedVariables false

theorem v0b39rc0 : chkF Tryz.prog G0 hk0 ex0 100000 [rA] (args0 [.ptr 271 0] 0 .nil) ⟨mkB v0b39H, v0b39N⟩ a0T v0b39H v0b39N = true := by kernel_rfl
theorem v0b39rc2 : chkR Tryz.prog G0 hk0 ex0 100000 XA 2 (mkT a0T) ⟨mkB v0b39H, v0b39N⟩ v0b39a2T v0b39a2H v0b39a2N = true := by kernel_rfl
theorem v0b39rc4 : chkR Tryz.prog G0 hk0 ex0 100000 XA 2 (mkT v0b39a2T) ⟨mkB v0b39a2H, v0b39a2N⟩ v0b39a4T v0b39a4H v0b39a4N = true := by kernel_rfl
theorem v0b39rcE : chkE Tryz.prog G0 hk0 ex0 100000 XA 0 (mkT v0b39a4T) ⟨mkB v0b39a4H, v0b39a4N⟩ [] v0b39EH v0b39EN = true := by kernel_rfl
end
end Go.Proofs.YtgfahpnndmocbaaGreatDoor.Sx
