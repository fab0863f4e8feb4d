/- The document's Right of a segment that is not: the window, the lengths. -/
import Derived.Test.YthnennleblgjeaaDoorSeg1
namespace Go.Proofs.YthnennleblgjeaaDoor
open Go.ChangeShapes Go.WideShapes Go.ChangeAt Go.RowKit
set_option linter.unusedVariables false
set_option linter.unusedSimpArgs false
set_option maxHeartbeats 4000000 in
set_option maxRecDepth 100000 in
theorem rright_bad8 (N : Nat → Int) (A B : Option Addr) (n m c d : Nat) (w : World) (e0 : ¬ N 0 < 0) (e1 : ¬ N 0 > 3) (e2 : ¬ N 1 < 0) (e3 : ¬ N 1 > 3) (e4 : ¬ N 2 < 0) (e5 : ¬ N 2 > 65535) (e6 : ¬ N 3 < 0) (e7 : ¬ N 3 > 65535) (e8 : N 10 < 0) : Calls Tryd.prog 15 #[.agg (segL N (.slice A n c) (.slice B m d)).toArray] w fun r w' => r = .returned (.bool false) ∧ Fine w w' := by
  go_enter Tryd.func15, Tryd.ntmps15
  go_wp2_with fail
  go_ret
  exact ⟨rfl, (by repeat (first | exact Fine.refl _ | assumption | refine Fine.alloc ?_ _ | refine Fine.drew ?_ | refine Fine.drewN ?_ _ | refine Fine.trans ?_ (by assumption) | (refine Fine.kept ?_ (by assumption) (by intro x hx; first | omega | (simp; omega))) | (refine Fine.setCell ?_ (by first | assumption | (simp; done) | (simp; omega)) _)))⟩
set_option maxHeartbeats 4000000 in
set_option maxRecDepth 100000 in
theorem rright_bad9 (N : Nat → Int) (A B : Option Addr) (n m c d : Nat) (w : World) (e0 : ¬ N 0 < 0) (e1 : ¬ N 0 > 3) (e2 : ¬ N 1 < 0) (e3 : ¬ N 1 > 3) (e4 : ¬ N 2 < 0) (e5 : ¬ N 2 > 65535) (e6 : ¬ N 3 < 0) (e7 : ¬ N 3 > 65535) (e8 : ¬ N 10 < 0) (e9 : N 10 > 65535) : Calls Tryd.prog 15 #[.agg (segL N (.slice A n c) (.slice B m d)).toArray] w fun r w' => r = .returned (.bool false) ∧ Fine w w' := by
  go_enter Tryd.func15, Tryd.ntmps15
  go_wp2_with fail
  go_ret
  exact ⟨rfl, (by repeat (first | exact Fine.refl _ | assumption | refine Fine.alloc ?_ _ | refine Fine.drew ?_ | refine Fine.drewN ?_ _ | refine Fine.trans ?_ (by assumption) | (refine Fine.kept ?_ (by assumption) (by intro x hx; first | omega | (simp; omega))) | (refine Fine.setCell ?_ (by first | assumption | (simp; done) | (simp; omega)) _)))⟩
set_option maxHeartbeats 4000000 in
set_option maxRecDepth 100000 in
theorem rright_bad10 (N : Nat → Int) (A B : Option Addr) (n m c d : Nat) (w : World) (e0 : ¬ N 0 < 0) (e1 : ¬ N 0 > 3) (e2 : ¬ N 1 < 0) (e3 : ¬ N 1 > 3) (e4 : ¬ N 2 < 0) (e5 : ¬ N 2 > 65535) (e6 : ¬ N 3 < 0) (e7 : ¬ N 3 > 65535) (e8 : ¬ N 10 < 0) (e9 : ¬ N 10 > 65535) (e10 : (n : Int) > 4) : Calls Tryd.prog 15 #[.agg (segL N (.slice A n c) (.slice B m d)).toArray] w fun r w' => r = .returned (.bool false) ∧ Fine w w' := by
  go_enter Tryd.func15, Tryd.ntmps15
  go_wp2_with fail
  go_ret
  exact ⟨rfl, (by repeat (first | exact Fine.refl _ | assumption | refine Fine.alloc ?_ _ | refine Fine.drew ?_ | refine Fine.drewN ?_ _ | refine Fine.trans ?_ (by assumption) | (refine Fine.kept ?_ (by assumption) (by intro x hx; first | omega | (simp; omega))) | (refine Fine.setCell ?_ (by first | assumption | (simp; done) | (simp; omega)) _)))⟩
set_option maxHeartbeats 4000000 in
set_option maxRecDepth 100000 in
theorem rright_bad11 (N : Nat → Int) (A B : Option Addr) (n m c d : Nat) (w : World) (e0 : ¬ N 0 < 0) (e1 : ¬ N 0 > 3) (e2 : ¬ N 1 < 0) (e3 : ¬ N 1 > 3) (e4 : ¬ N 2 < 0) (e5 : ¬ N 2 > 65535) (e6 : ¬ N 3 < 0) (e7 : ¬ N 3 > 65535) (e8 : ¬ N 10 < 0) (e9 : ¬ N 10 > 65535) (e10 : ¬ (n : Int) > 4) (e11 : (m : Int) > 8) : Calls Tryd.prog 15 #[.agg (segL N (.slice A n c) (.slice B m d)).toArray] w fun r w' => r = .returned (.bool false) ∧ Fine w w' := by
  go_enter Tryd.func15, Tryd.ntmps15
  go_wp2_with fail
  go_ret
  exact ⟨rfl, (by repeat (first | exact Fine.refl _ | assumption | refine Fine.alloc ?_ _ | refine Fine.drew ?_ | refine Fine.drewN ?_ _ | refine Fine.trans ?_ (by assumption) | (refine Fine.kept ?_ (by assumption) (by intro x hx; first | omega | (simp; omega))) | (refine Fine.setCell ?_ (by first | assumption | (simp; done) | (simp; omega)) _)))⟩
end Go.Proofs.YthnennleblgjeaaDoor
