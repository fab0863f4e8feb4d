/-
  More packets come (first: 0).
-/
import Derived.Test.YtmlecinneceniaaGreatDoorSxL0
namespace Go.Proofs.YtmlecinneceniaaGreatDoor.Sx
open Go Go.RowKit
noncomputable section
set_option linter.unusedVariables false

theorem k0rc4 : chkR Tryz.prog G0 hk0 ex0 100000 XA 2 (mkT k0a2T) ⟨mkB k0a2H, k0a2N⟩ k0a4T k0a4H k0a4N = true := by kernel_rfl
theorem k0rc6 : chkR Tryz.prog G0 hk0 ex0 100000 XA 2 (mkT k0a4T) ⟨mkB k0a4H, k0a4N⟩ k0a6T k0a6H k0a6N = true := by kernel_rfl
end
end Go.Proofs.YtmlecinneceniaaGreatDoor.Sx
