/-
  Both close (first: 0); two packets come.
-/
import Derived.Test.YtmlecinneceniaaGreatDoorSxL0
namespace Go.Proofs.YtmlecinneceniaaGreatDoor.Sx
open Go Go.RowKit
noncomputable section
set_option linter.unusedVariables false

theorem k0stepD : chkF Tryz.prog G0 hk0 ex0 100000 ls5 (mkT (s4T 0)) ⟨mkB s3H, s3N⟩ k0s5T k0s5H k0s5N = true := by kernel_rfl
theorem k0rc0 : chkF Tryz.prog G0 hk0 ex0 100000 [rA] (args0 [.ptr 271 0] 0 .nil) ⟨mkB k0s5H, k0s5N⟩ k0a0T k0s5H k0s5N = true := by kernel_rfl
theorem k0rc2 : chkR Tryz.prog G0 hk0 ex0 100000 XA 2 (mkT k0a0T) ⟨mkB k0s5H, k0s5N⟩ k0a2T k0a2H k0a2N = true := by kernel_rfl
end
end Go.Proofs.YtmlecinneceniaaGreatDoor.Sx
