/-
  What comes at the tick 79.
-/
import Derived.Test.YtgfahpnndmocbaaGreatDoorSxL0a
namespace Go.Proofs.YtgfahpnndmocbaaGreatDoor.Sx
open Go Go.RowKit
noncomputable section
set_option linter.unusedVariables false

theorem v0b79rc0 : chkF Tryz.prog G0 hk0 ex0 100000 [rA] (args0 [.ptr 271 0] 0 .nil) ⟨mkB v0b79H, v0b79N⟩ a0T v0b79H v0b79N = true := by kernel_rfl
theorem v0b79rc2 : chkR Tryz.prog G0 hk0 ex0 100000 XA 2 (mkT a0T) ⟨mkB v0b79H, v0b79N⟩ v0b79a2T v0b79a2H v0b79a2N = true := by kernel_rfl
theorem v0b79rc4 : chkR Tryz.prog G0 hk0 ex0 100000 XA 2 (mkT v0b79a2T) ⟨mkB v0b79a2H, v0b79a2N⟩ v0b79a4T v0b79a4H v0b79a4N = true := by kernel_rfl
theorem v0b79rcE : chkE Tryz.prog G0 hk0 ex0 100000 XA 0 (mkT v0b79a4T) ⟨mkB v0b79a4H, v0b79a4N⟩ [] v0b79EH v0b79EN = true := by kernel_rfl
end
end Go.Proofs.YtgfahpnndmocbaaGreatDoor.Sx
