/-
  The first part: what the package wakes to; two hosts that have dialed.
-/
import Derived.Test.YtmlecinneceniaaGreatDoorSxP
namespace Go.Proofs.YtmlecinneceniaaGreatDoor.Sx
open Go Go.RowKit
noncomputable section
set_option linter.unusedVariables false

theorem stepA : chkF Tryz.prog G0 hk0 ex0 100000 ls1 T0 h0 sAT sAH sAN = true := by kernel_rfl
theorem stepB : chkF Tryz.prog G0 hk0 ex0 100000 ls2 (mkT sAT) ⟨mkB sAH, sAN⟩ s3T s3H s3N = true := by kernel_rfl
noncomputable def chk4 (l : Nat) : Bool := chkF Tryz.prog G0 hk0 ex0 100000 [cd4] ((mkT s3T).set 2 (some (.int .u8 (.ofNat l)))) ⟨mkB s3H, s3N⟩ (s4T (Nat.mod l 2)) s3H s3N
theorem stepC : belowB chk4 256 = true := by kernel_rfl
end
end Go.Proofs.YtmlecinneceniaaGreatDoor.Sx
