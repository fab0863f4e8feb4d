/- The laws of option: the document's sizes; a truth and a number as bytes. -/
import Derived.Test.YthnennleblgjeaaDoorXOpt6
namespace Go.Proofs.YthnennleblgjeaaDoor
set_option linter.unusedVariables false
set_option linter.unusedSimpArgs false
open Go.ChangeShapes Go.WideShapes Go.ChangeAt Go.RowKit
set_option linter.unusedVariables false
/-- How many bytes a kind has. -/
def sizeK (k : Int) : Int := match k with
  | 1 => 9 | 2 => 11 | 3 => 13 | 4 => 9 | 5 => 13 | 6 => 2 | 7 => 2 | 8 => 2 | 9 => 5 | 10 => 9 | 11 => 2 | _ => 0
theorem sizeK_out {k : Int} (h : k < 1 ∨ 11 < k) : sizeK k = 0 := by
  unfold sizeK
  split <;> first | omega | rfl
set_option maxHeartbeats 2000000 in
set_option maxRecDepth 50000 in
theorem size_any (k : Int) (w : World) : Calls Tryd.prog 58 #[.int .i64 k] w fun r w' => r = .returned (.int .i64 (sizeK k)) ∧ Fine w w' := by
  by_cases h : k < 1 ∨ 11 < k
  · rw [sizeK_out h]
    rcases h with h | h
    · go_enter Tryd.func58, Tryd.ntmps58
      go_wp2_with fail
      go_ret
      exact ⟨rfl, (by repeat (first | exact Fine.refl _ | assumption | refine Fine.alloc ?_ _ | refine Fine.drew ?_ | refine Fine.drewN ?_ _ | refine Fine.trans ?_ (by assumption) | (refine Fine.kept ?_ (by assumption) (by intro x hx; first | omega | (simp; omega))) | (refine Fine.setCell ?_ (by first | assumption | (simp; done) | (simp; omega)) _)))⟩
    · go_enter Tryd.func58, Tryd.ntmps58
      go_wp2_with fail
      go_ret
      exact ⟨rfl, (by repeat (first | exact Fine.refl _ | assumption | refine Fine.alloc ?_ _ | refine Fine.drew ?_ | refine Fine.drewN ?_ _ | refine Fine.trans ?_ (by assumption) | (refine Fine.kept ?_ (by assumption) (by intro x hx; first | omega | (simp; omega))) | (refine Fine.setCell ?_ (by first | assumption | (simp; done) | (simp; omega)) _)))⟩
  · have hk : k = 1 ∨ k = 2 ∨ k = 3 ∨ k = 4 ∨ k = 5 ∨ k = 6 ∨ k = 7 ∨ k = 8 ∨ k = 9 ∨ k = 10 ∨ k = 11 := by omega
    clear h
    rcases hk with rfl | rfl | rfl | rfl | rfl | rfl | rfl | rfl | rfl | rfl | rfl
    all_goals
      go_enter Tryd.func58, Tryd.ntmps58
      go_wp2_with fail
      go_ret
      exact ⟨rfl, (by repeat (first | exact Fine.refl _ | assumption | refine Fine.alloc ?_ _ | refine Fine.drew ?_ | refine Fine.drewN ?_ _ | refine Fine.trans ?_ (by assumption) | (refine Fine.kept ?_ (by assumption) (by intro x hx; first | omega | (simp; omega))) | (refine Fine.setCell ?_ (by first | assumption | (simp; done) | (simp; omega)) _)))⟩
theorem truth_any (t : Bool) (w : World) : Calls Tryd.prog 72 #[.bool t] w fun r w' => r = .returned (.int .u8 (if t then 1 else 0)) ∧ Fine w w' := by
  cases t
  · go_enter Tryd.func72, Tryd.ntmps72
    go_wp2_with fail
    go_ret
    exact ⟨rfl, (by repeat (first | exact Fine.refl _ | assumption | refine Fine.alloc ?_ _ | refine Fine.drew ?_ | refine Fine.drewN ?_ _ | refine Fine.trans ?_ (by assumption) | (refine Fine.kept ?_ (by assumption) (by intro x hx; first | omega | (simp; omega))) | (refine Fine.setCell ?_ (by first | assumption | (simp; done) | (simp; omega)) _)))⟩
  · go_enter Tryd.func72, Tryd.ntmps72
    go_wp2_with fail
    go_ret
    exact ⟨rfl, (by repeat (first | exact Fine.refl _ | assumption | refine Fine.alloc ?_ _ | refine Fine.drew ?_ | refine Fine.drewN ?_ _ | refine Fine.trans ?_ (by assumption) | (refine Fine.kept ?_ (by assumption) (by intro x hx; first | omega | (simp; omega))) | (refine Fine.setCell ?_ (by first | assumption | (simp; done) | (simp; omega)) _)))⟩
theorem refNum_any (n x : Int) (w : World) : Calls Tryd.prog 73 #[.int .i64 n, .int .i64 x] w fun e w' => ∃ v, e = .returned v ∧ OwnB w' w.heap.size v (be (width x) (IntKind.u64.wrap n)) ∧ Fine w w' := by
  go_enter Tryd.func73, Tryd.ntmps73
  go_wp2_with fail
  refine (bytes_any (IntKind.u64.wrap n) (by rw [IntKind.wrap_u64]; omega) x w).mono ?_
  rintro e w1 ⟨v, rfl, h1, f1⟩
  go_wp2_with fail
  go_ret
  exact ⟨_, rfl, h1, f1⟩
end Go.Proofs.YthnennleblgjeaaDoor
