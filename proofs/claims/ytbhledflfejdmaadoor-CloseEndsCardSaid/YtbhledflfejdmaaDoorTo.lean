/- Contracts of ref.To, close.Writes, close.Reads; the plain law of CloseSteps and CloseSides. -/
import Derived.Test.YtbhledflfejdmaaDoorStep
namespace Go.Proofs.YtbhledflfejdmaaDoor
open Go.ChangeShapes Go.WideShapes Go.ChangeAt Go.RowKit
set_option linter.unusedVariables false

def toOf (s e : Int) : Int :=
  if e = 5 ∧ 0 ≤ s ∧ s < 8 then 8
  else if s = 0 ∧ e = 0 then 1
  else if s = 1 ∧ e = 1 then 2
  else if s = 1 ∧ e = 3 then 4
  else if s = 2 ∧ e = 2 then 3
  else if s = 2 ∧ e = 3 then 5
  else if (s = 3 ∧ e = 3) ∨ (s = 5 ∧ e = 2) ∨ (s = 6 ∧ e = 2) then 7
  else if s = 4 ∧ e = 1 then 6
  else if s = 7 ∧ e = 4 then 8
  else -1
theorem step_to (s e : Int) : stepOf s e = if 0 ≤ toOf s e then (toOf s e, true) else (s, false) := by
  unfold stepOf toOf tabZ
  simp only [look]
  repeat' split
  all_goals first | rfl | (exfalso; omega) | (congr 1; omega)

theorem writes_any (s : Int) (w : World) : Calls Tryd.prog 10 #[.int .i64 s] w fun r w' => r = .returned (.bool (decide (s = 1 ∨ s = 4))) ∧ Fine w w' := by
  go_enter Tryd.func10, Tryd.ntmps10
  go_wp2
  all_goals
    go_ret
    refine ⟨ret_bool ?_, Fine.refl _⟩
    by_cases h1 : s = 1 <;> by_cases h4 : s = 4 <;> simp_all
theorem reads_any (s : Int) (w : World) : Calls Tryd.prog 11 #[.int .i64 s] w fun r w' => r = .returned (.bool (decide (1 ≤ s ∧ s ≤ 3))) ∧ Fine w w' := by
  go_enter Tryd.func11, Tryd.ntmps11
  go_wp2
  all_goals
    go_ret
    refine ⟨ret_bool ?_, Fine.refl _⟩
    by_cases h1 : 1 ≤ s <;> by_cases h4 : s ≤ 3 <;> simp_all <;> omega
theorem wakes_any (w : World) (hT : Tab w) : Calls Tryd.prog 7 #[] w fun r w' => r = .returned (.bool true) ∧ Fine w w' := by
  have HT := Lib.hid hT
  clear hT
  go_enter Tryd.func7, Tryd.ntmps7
  go_wp2_with fail
  refine (step_any 2 3 _ HT.out).mono ?_; rintro r w1 ⟨rfl, f1⟩
  have h : stepOf 2 3 = (5, true) := by decide
  rw [h]
  go_wp2
  go_ret
  exact ⟨rfl, f1⟩
end Go.Proofs.YtbhledflfejdmaaDoor
