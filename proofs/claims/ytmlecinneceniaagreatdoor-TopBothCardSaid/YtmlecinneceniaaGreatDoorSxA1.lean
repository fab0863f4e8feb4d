/-
  Both close (first: 1); two packets come.
-/
import Derived.Test.YtmlecinneceniaaGreatDoorSxL1
namespace Go.Proofs.YtmlecinneceniaaGreatDoor.Sx
open Go Go.RowKit
noncomputable section
set_option linter.unusedVariables false

theorem k1stepD : chkF Tryz.prog G0 hk0 ex0 100000 ls5 (mkT (s4T 1)) ⟨mkB s3H, s3N⟩ k1s5T k1s5H k1s5N = true := by kernel_rfl
theorem k1rc0 : chkF Tryz.prog G0 hk0 ex0 100000 [rA] (args0 [.ptr 271 0] 0 .nil) ⟨mkB k1s5H, k1s5N⟩ k1a0T k1s5H k1s5N = true := by kernel_rfl
theorem k1rc2 : chkR Tryz.prog G0 hk0 ex0 100000 XA 2 (mkT k1a0T) ⟨mkB k1s5H, k1s5N⟩ k1a2T k1a2H k1a2N = true := by kernel_rfl
end
end Go.Proofs.YtmlecinneceniaaGreatDoor.Sx
