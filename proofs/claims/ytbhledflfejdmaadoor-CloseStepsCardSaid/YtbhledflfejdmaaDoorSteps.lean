/- The law CloseSteps. -/
import Derived.Test.YtbhledflfejdmaaDoorTo2
namespace Go.Proofs.YtbhledflfejdmaaDoor
open Go.ChangeShapes Go.WideShapes Go.ChangeAt Go.RowKit
set_option linter.unusedVariables false

set_option maxHeartbeats 1000000 in
theorem lawCloseSteps (w : World) (hT : Tab w) (s e : Int) :
    Calls Tryd.prog 3 #[.int .i64 s, .int .i64 e] w fun r w' => r = .returned (.bool true) ∧ Fine w w' := by
  have HT := Lib.hid hT
  have hst := step_to s e
  obtain ⟨t, ht⟩ : ∃ t, toOf s e = t := ⟨_, rfl⟩
  rw [ht] at hst
  have HTo := Lib.hid ht
  clear ht hT
  have hcase : s = 1 ∨ s = 2 ∨ s = 3 ∨ s = 4 ∨ (s ≠ 1 ∧ s ≠ 2 ∧ s ≠ 3 ∧ s ≠ 4) := by omega
  by_cases hp : 0 ≤ t
  · have HS : Hid (stepOf s e = (t, true)) := by show _ = _; rw [hst, if_pos hp]
    clear hst
    rcases hcase with rfl | rfl | rfl | rfl | ⟨h1, h2, h3, h4⟩
    case' inr.inr.inr.inr =>
      have b1 : (s == 1) = false := by simp [h1]
      have b2 : (s == 2) = false := by simp [h2]
      have b3 : (s == 3) = false := by simp [h3]
      have b4 : (s == 4) = false := by simp [h4]
      have hw : decide (s = 1 ∨ s = 4) = false := by simp [h1, h4]
      have hr : decide (1 ≤ s ∧ s ≤ 3) = false := by simp; omega
    all_goals
      go_enter Tryd.func3, Tryd.ntmps3
      go_wp2_with fail
      refine (wakes_any _ HT.out).mono ?_; rintro r w1 ⟨rfl, f1⟩
      go_wp2_with fail
      refine (step_any _ e _ (HT.out.fine f1)).mono ?_; rintro r w2 ⟨rfl, f2⟩
      rw [HS.out]
      go_wp2_with fail
      refine (to_any _ e _).mono ?_; rintro r w3 ⟨rfl, f3⟩
      rw [HTo.out]
      go_wp2_with fail
      refine (writes_any _ _).mono ?_; rintro r w4 ⟨rfl, f4⟩
      go_wp2_with fail
      refine (reads_any _ _).mono ?_; rintro r w5 ⟨rfl, f5⟩
      go_wp2
      go_ret
      exact ⟨rfl, (((f1.trans f2).trans f3).trans f4).trans f5⟩
  · have HS : Hid (stepOf s e = (s, false)) := by show _ = _; rw [hst, if_neg hp]
    clear hst
    rcases hcase with rfl | rfl | rfl | rfl | ⟨h1, h2, h3, h4⟩
    case' inr.inr.inr.inr =>
      have b1 : (s == 1) = false := by simp [h1]
      have b2 : (s == 2) = false := by simp [h2]
      have b3 : (s == 3) = false := by simp [h3]
      have b4 : (s == 4) = false := by simp [h4]
      have hw : decide (s = 1 ∨ s = 4) = false := by simp [h1, h4]
      have hr : decide (1 ≤ s ∧ s ≤ 3) = false := by simp; omega
    all_goals
      go_enter Tryd.func3, Tryd.ntmps3
      go_wp2_with fail
      refine (wakes_any _ HT.out).mono ?_; rintro r w1 ⟨rfl, f1⟩
      go_wp2_with fail
      refine (step_any _ e _ (HT.out.fine f1)).mono ?_; rintro r w2 ⟨rfl, f2⟩
      rw [HS.out]
      go_wp2_with fail
      refine (to_any _ e _).mono ?_; rintro r w3 ⟨rfl, f3⟩
      rw [HTo.out]
      go_wp2_with fail
      refine (writes_any _ _).mono ?_; rintro r w4 ⟨rfl, f4⟩
      go_wp2_with fail
      refine (reads_any _ _).mono ?_; rintro r w5 ⟨rfl, f5⟩
      go_wp2
      go_ret
      exact ⟨rfl, (((f1.trans f2).trans f3).trans f4).trans f5⟩
end Go.Proofs.YtbhledflfejdmaaDoor
