/-
  The last packets come; then the rounds of ticks (first: 1).
-/
import Derived.Test.YtmlecinneceniaaGreatDoorSxL1
namespace Go.Proofs.YtmlecinneceniaaGreatDoor.Sx
open Go Go.RowKit
noncomputable section
set_option linter.unusedVariables false

theorem k1rc8 : chkR Tryz.prog G0 hk0 ex0 100000 XA 2 (mkT k1a6T) ⟨mkB k1a6H, k1a6N⟩ k1a8T k1a8H k1a8N = true := by kernel_rfl
theorem k1rc9 : chkE Tryz.prog G0 hk0 ex0 100000 XA 0 (mkT k1a8T) ⟨mkB k1a8H, k1a8N⟩ [] k1aEH k1aEN = true := by kernel_rfl
theorem k1stepE : chkF Tryz.prog G0 hk0 ex0 100000 [cd6] (mkT k1s5T) ⟨mkB k1s5H, k1s5N⟩ k1s6T k1s5H k1s5N = true := by kernel_rfl
theorem k1runs1 : chkR Tryz.prog G0 k1hk ex0 100000 rnd 1 (mkT k1s6T) ⟨mkB k1s5H, k1s5N⟩ k1r1T k1r1H k1r1N = true := by kernel_rfl
theorem k1runsR : chkR Tryz.prog G0 hk0 ex0 100000 rnd 19 (mkT k1r1T) ⟨mkB k1r1H, k1r1N⟩ k1sRT k1sRH k1sRN = true := by kernel_rfl
theorem k1runsE : chkE Tryz.prog G0 hk0 ex0 100000 rnd 0 (mkT k1sRT) ⟨mkB k1sRH, k1sRN⟩ k1sET k1sEH k1sEN = true := by kernel_rfl
theorem k1runsF : retF Tryz.prog G0 hk0 ex0 6 100000 tlC (mkT k1sET) ⟨mkB k1sEH, k1sEN⟩ = true := by kernel_rfl
end
end Go.Proofs.YtmlecinneceniaaGreatDoor.Sx
