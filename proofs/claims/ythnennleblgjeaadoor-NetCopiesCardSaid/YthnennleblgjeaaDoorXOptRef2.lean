/- The laws of option: what the document lets an option tell. -/
import Derived.Test.YthnennleblgjeaaDoorXOptRef1
namespace Go.Proofs.YthnennleblgjeaaDoor
set_option linter.unusedVariables false
set_option linter.unusedSimpArgs false
open Go.ChangeShapes Go.WideShapes Go.ChangeAt Go.RowKit
set_option linter.unusedVariables false
def mayB (ad : Int) (h : Bool) (a : Int) (m : Bool) (d l : Int) (f : Bool) : Bool := !(decide (3 < ad) || decide (8 < l)) && ((h || decide (a = 0)) && (m || (decide (d = 0) && decide (l = 0) && !f)))
set_option maxHeartbeats 4000000 in
set_option maxRecDepth 20000 in
theorem may_any (V : Nat → Int) (w : World) : Calls Tryd.prog 59 #[.agg (optL V).toArray] w fun r w' => r = .returned (.bool (mayB (V 5) (decide (V 8 = 1)) (V 9) (decide (V 10 = 1)) (V 11) (V 12) (decide (V 13 = 1)))) ∧ Fine w w' := by
  obtain ⟨t7, h7⟩ : ∃ t, decide (V 7 = 1) = t := ⟨_, rfl⟩
  obtain ⟨t8, h8⟩ : ∃ t, decide (V 8 = 1) = t := ⟨_, rfl⟩
  obtain ⟨t10, h10⟩ : ∃ t, decide (V 10 = 1) = t := ⟨_, rfl⟩
  obtain ⟨t13, h13⟩ : ∃ t, decide (V 13 = 1) = t := ⟨_, rfl⟩
  unfold optL
  rw [h7, h8, h10, h13]
  clear h7 h8 h10 h13
  generalize V 0 = v0
  generalize V 1 = v1
  generalize V 2 = v2
  generalize V 3 = v3
  generalize V 4 = v4
  generalize V 5 = v5
  generalize V 6 = v6
  generalize V 9 = v9
  generalize V 11 = v11
  generalize V 12 = v12
  cases t8 <;> cases t10 <;> cases t13 <;> (by_cases e9 : v9 = 0) <;> (by_cases e12 : v12 = 0)
  all_goals (go_enter Tryd.func59, Tryd.ntmps59; go_wp2_with fail)
  all_goals go_ret
  all_goals (refine ⟨?_, (by repeat (first | exact Fine.refl _ | assumption | refine Fine.alloc ?_ _ | refine Fine.drew ?_ | refine Fine.drewN ?_ _ | refine Fine.trans ?_ (by assumption) | (refine Fine.kept ?_ (by assumption) (by intro x hx; first | omega | (simp; omega))) | (refine Fine.setCell ?_ (by first | assumption | (simp; done) | (simp; omega)) _)))⟩; simp [mayB, *]; try omega)
end Go.Proofs.YthnennleblgjeaaDoor
