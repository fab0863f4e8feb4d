/-
  The last packets come; then the rounds of ticks (first: 0).
-/
import Derived.Test.YtmlecinneceniaaGreatDoorSxL0
namespace Go.Proofs.YtmlecinneceniaaGreatDoor.Sx
open Go Go.RowKit
noncomputable section
set_option linter.unusedVariables false

theorem k0rc8 : chkR Tryz.prog G0 hk0 ex0 100000 XA 2 (mkT k0a6T) ⟨mkB k0a6H, k0a6N⟩ k0a8T k0a8H k0a8N = true := by kernel_rfl
theorem k0rc9 : chkE Tryz.prog G0 hk0 ex0 100000 XA 0 (mkT k0a8T) ⟨mkB k0a8H, k0a8N⟩ [] k0aEH k0aEN = true := by kernel_rfl
theorem k0stepE : chkF Tryz.prog G0 hk0 ex0 100000 [cd6] (mkT k0s5T) ⟨mkB k0s5H, k0s5N⟩ k0s6T k0s5H k0s5N = true := by kernel_rfl
theorem k0runs1 : chkR Tryz.prog G0 k0hk ex0 100000 rnd 1 (mkT k0s6T) ⟨mkB k0s5H, k0s5N⟩ k0r1T k0r1H k0r1N = true := by kernel_rfl
theorem k0runsR : chkR Tryz.prog G0 hk0 ex0 100000 rnd 19 (mkT k0r1T) ⟨mkB k0r1H, k0r1N⟩ k0sRT k0sRH k0sRN = true := by kernel_rfl
theorem k0runsE : chkE Tryz.prog G0 hk0 ex0 100000 rnd 0 (mkT k0sRT) ⟨mkB k0sRH, k0sRN⟩ k0sET k0sEH k0sEN = true := by kernel_rfl
theorem k0runsF : retF Tryz.prog G0 hk0 ex0 6 100000 tlC (mkT k0sET) ⟨mkB k0sEH, k0sEN⟩ = true := by kernel_rfl
end
end Go.Proofs.YtmlecinneceniaaGreatDoor.Sx
