/-
  Rounds of ticks (lost: 1).
-/
import Derived.Test.YtgfahpnndmocbaaGreatDoorSxL1a
namespace Go.Proofs.YtgfahpnndmocbaaGreatDoor.Sx
open Go Go.RowKit
noncomputable section
set_option linter.unusedVariables false

theorem v1runs39 : chkR Tryz.prog G0 hk0 ex0 100000 rnd 9 (mkT v1r30T) ⟨mkB v1r30H, v1r30N⟩ v1r39T v1r39H v1r39N = true := by kernel_rfl
theorem v1runs47 : chkR Tryz.prog G0 hk0 ex0 100000 rnd 8 (mkT v1r39T) ⟨mkB v1r39H, v1r39N⟩ v1r47T v1r47H v1r47N = true := by kernel_rfl
theorem v1runs55 : chkR Tryz.prog G0 hk0 ex0 100000 rnd 8 (mkT v1r47T) ⟨mkB v1r47H, v1r47N⟩ v1r55T v1r55H v1r55N = true := by kernel_rfl
end
end Go.Proofs.YtgfahpnndmocbaaGreatDoor.Sx
