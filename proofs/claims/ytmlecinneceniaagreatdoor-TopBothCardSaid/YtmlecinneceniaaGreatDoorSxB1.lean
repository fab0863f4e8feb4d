/-
  More packets come (first: 1).
-/
import Derived.Test.YtmlecinneceniaaGreatDoorSxL1
namespace Go.Proofs.YtmlecinneceniaaGreatDoor.Sx
open Go Go.RowKit
noncomputable section
set_option linter.unusedVariables false

theorem k1rc4 : chkR Tryz.prog G0 hk0 ex0 100000 XA 2 (mkT k1a2T) ⟨mkB k1a2H, k1a2N⟩ k1a4T k1a4H k1a4N = true := by kernel_rfl
theorem k1rc6 : chkR Tryz.prog G0 hk0 ex0 100000 XA 2 (mkT k1a4T) ⟨mkB k1a4H, k1a4N⟩ k1a6T k1a6H k1a6N = true := by kernel_rfl
end
end Go.Proofs.YtmlecinneceniaaGreatDoor.Sx
