/- segment.Same of segments of which a number is unlike. -/
import Derived.Test.YthnennleblgjeaaDoorXSeg1
namespace Go.Proofs.YthnennleblgjeaaDoor
set_option linter.unusedVariables false
set_option linter.unusedSimpArgs false
open Go.ChangeShapes Go.WideShapes Go.ChangeAt Go.RowKit
set_option linter.unusedVariables false
set_option maxHeartbeats 4000000 in
set_option maxRecDepth 100000 in
theorem same_bad0 (N M : Nat → Int) (A B A' B' : Option Addr) (n1 n2 n3 n4 c d c' d' : Nat) (w : World)  (e0 : (N 0 == M 0) = false) : Calls Tryd.prog 18 #[.agg (segL N (.slice A n1 c) (.slice B n3 d)).toArray, .agg (segL M (.slice A' n2 c') (.slice B' n4 d')).toArray] w fun r w' => r = .returned (.bool false) ∧ Fine w w' := by
  go_enter Tryd.func18, Tryd.ntmps18
  go_wp2_with fail
  go_ret
  exact ⟨rfl, (by repeat (first | exact Fine.refl _ | assumption | refine Fine.alloc ?_ _ | refine Fine.drew ?_ | refine Fine.drewN ?_ _ | refine Fine.trans ?_ (by assumption) | (refine Fine.kept ?_ (by assumption) (by intro x hx; first | omega | (simp; omega))) | (refine Fine.setCell ?_ (by first | assumption | (simp; done) | (simp; omega)) _)))⟩
set_option maxHeartbeats 4000000 in
set_option maxRecDepth 100000 in
theorem same_bad1 (N M : Nat → Int) (A B A' B' : Option Addr) (n1 n2 n3 n4 c d c' d' : Nat) (w : World) (e0 : (N 0 == M 0) = true) (e1 : (N 1 == M 1) = false) : Calls Tryd.prog 18 #[.agg (segL N (.slice A n1 c) (.slice B n3 d)).toArray, .agg (segL M (.slice A' n2 c') (.slice B' n4 d')).toArray] w fun r w' => r = .returned (.bool false) ∧ Fine w w' := by
  go_enter Tryd.func18, Tryd.ntmps18
  go_wp2_with fail
  go_ret
  exact ⟨rfl, (by repeat (first | exact Fine.refl _ | assumption | refine Fine.alloc ?_ _ | refine Fine.drew ?_ | refine Fine.drewN ?_ _ | refine Fine.trans ?_ (by assumption) | (refine Fine.kept ?_ (by assumption) (by intro x hx; first | omega | (simp; omega))) | (refine Fine.setCell ?_ (by first | assumption | (simp; done) | (simp; omega)) _)))⟩
set_option maxHeartbeats 4000000 in
set_option maxRecDepth 100000 in
theorem same_bad2 (N M : Nat → Int) (A B A' B' : Option Addr) (n1 n2 n3 n4 c d c' d' : Nat) (w : World) (e0 : (N 0 == M 0) = true) (e1 : (N 1 == M 1) = true) (e2 : (N 2 == M 2) = false) : Calls Tryd.prog 18 #[.agg (segL N (.slice A n1 c) (.slice B n3 d)).toArray, .agg (segL M (.slice A' n2 c') (.slice B' n4 d')).toArray] w fun r w' => r = .returned (.bool false) ∧ Fine w w' := by
  go_enter Tryd.func18, Tryd.ntmps18
  go_wp2_with fail
  go_ret
  exact ⟨rfl, (by repeat (first | exact Fine.refl _ | assumption | refine Fine.alloc ?_ _ | refine Fine.drew ?_ | refine Fine.drewN ?_ _ | refine Fine.trans ?_ (by assumption) | (refine Fine.kept ?_ (by assumption) (by intro x hx; first | omega | (simp; omega))) | (refine Fine.setCell ?_ (by first | assumption | (simp; done) | (simp; omega)) _)))⟩
set_option maxHeartbeats 4000000 in
set_option maxRecDepth 100000 in
theorem same_bad3 (N M : Nat → Int) (A B A' B' : Option Addr) (n1 n2 n3 n4 c d c' d' : Nat) (w : World) (e0 : (N 0 == M 0) = true) (e1 : (N 1 == M 1) = true) (e2 : (N 2 == M 2) = true) (e3 : (N 3 == M 3) = false) : Calls Tryd.prog 18 #[.agg (segL N (.slice A n1 c) (.slice B n3 d)).toArray, .agg (segL M (.slice A' n2 c') (.slice B' n4 d')).toArray] w fun r w' => r = .returned (.bool false) ∧ Fine w w' := by
  go_enter Tryd.func18, Tryd.ntmps18
  go_wp2_with fail
  go_ret
  exact ⟨rfl, (by repeat (first | exact Fine.refl _ | assumption | refine Fine.alloc ?_ _ | refine Fine.drew ?_ | refine Fine.drewN ?_ _ | refine Fine.trans ?_ (by assumption) | (refine Fine.kept ?_ (by assumption) (by intro x hx; first | omega | (simp; omega))) | (refine Fine.setCell ?_ (by first | assumption | (simp; done) | (simp; omega)) _)))⟩
set_option maxHeartbeats 4000000 in
set_option maxRecDepth 100000 in
theorem same_bad4 (N M : Nat → Int) (A B A' B' : Option Addr) (n1 n2 n3 n4 c d c' d' : Nat) (w : World) (e0 : (N 0 == M 0) = true) (e1 : (N 1 == M 1) = true) (e2 : (N 2 == M 2) = true) (e3 : (N 3 == M 3) = true) (e4 : (N 4 == M 4) = false) : Calls Tryd.prog 18 #[.agg (segL N (.slice A n1 c) (.slice B n3 d)).toArray, .agg (segL M (.slice A' n2 c') (.slice B' n4 d')).toArray] w fun r w' => r = .returned (.bool false) ∧ Fine w w' := by
  go_enter Tryd.func18, Tryd.ntmps18
  go_wp2_with fail
  go_ret
  exact ⟨rfl, (by repeat (first | exact Fine.refl _ | assumption | refine Fine.alloc ?_ _ | refine Fine.drew ?_ | refine Fine.drewN ?_ _ | refine Fine.trans ?_ (by assumption) | (refine Fine.kept ?_ (by assumption) (by intro x hx; first | omega | (simp; omega))) | (refine Fine.setCell ?_ (by first | assumption | (simp; done) | (simp; omega)) _)))⟩
set_option maxHeartbeats 4000000 in
set_option maxRecDepth 100000 in
theorem same_bad5 (N M : Nat → Int) (A B A' B' : Option Addr) (n1 n2 n3 n4 c d c' d' : Nat) (w : World) (e0 : (N 0 == M 0) = true) (e1 : (N 1 == M 1) = true) (e2 : (N 2 == M 2) = true) (e3 : (N 3 == M 3) = true) (e4 : (N 4 == M 4) = true) (e5 : (N 5 == M 5) = false) : Calls Tryd.prog 18 #[.agg (segL N (.slice A n1 c) (.slice B n3 d)).toArray, .agg (segL M (.slice A' n2 c') (.slice B' n4 d')).toArray] w fun r w' => r = .returned (.bool false) ∧ Fine w w' := by
  go_enter Tryd.func18, Tryd.ntmps18
  go_wp2_with fail
  go_ret
  exact ⟨rfl, (by repeat (first | exact Fine.refl _ | assumption | refine Fine.alloc ?_ _ | refine Fine.drew ?_ | refine Fine.drewN ?_ _ | refine Fine.trans ?_ (by assumption) | (refine Fine.kept ?_ (by assumption) (by intro x hx; first | omega | (simp; omega))) | (refine Fine.setCell ?_ (by first | assumption | (simp; done) | (simp; omega)) _)))⟩
set_option maxHeartbeats 4000000 in
set_option maxRecDepth 100000 in
theorem same_bad6 (N M : Nat → Int) (A B A' B' : Option Addr) (n1 n2 n3 n4 c d c' d' : Nat) (w : World) (e0 : (N 0 == M 0) = true) (e1 : (N 1 == M 1) = true) (e2 : (N 2 == M 2) = true) (e3 : (N 3 == M 3) = true) (e4 : (N 4 == M 4) = true) (e5 : (N 5 == M 5) = true) (e6 : (decide (N 6 = 1) == decide (M 6 = 1)) = false) : Calls Tryd.prog 18 #[.agg (segL N (.slice A n1 c) (.slice B n3 d)).toArray, .agg (segL M (.slice A' n2 c') (.slice B' n4 d')).toArray] w fun r w' => r = .returned (.bool false) ∧ Fine w w' := by
  go_enter Tryd.func18, Tryd.ntmps18
  go_wp2_with fail
  go_ret
  exact ⟨rfl, (by repeat (first | exact Fine.refl _ | assumption | refine Fine.alloc ?_ _ | refine Fine.drew ?_ | refine Fine.drewN ?_ _ | refine Fine.trans ?_ (by assumption) | (refine Fine.kept ?_ (by assumption) (by intro x hx; first | omega | (simp; omega))) | (refine Fine.setCell ?_ (by first | assumption | (simp; done) | (simp; omega)) _)))⟩
set_option maxHeartbeats 4000000 in
set_option maxRecDepth 100000 in
theorem same_bad7 (N M : Nat → Int) (A B A' B' : Option Addr) (n1 n2 n3 n4 c d c' d' : Nat) (w : World) (e0 : (N 0 == M 0) = true) (e1 : (N 1 == M 1) = true) (e2 : (N 2 == M 2) = true) (e3 : (N 3 == M 3) = true) (e4 : (N 4 == M 4) = true) (e5 : (N 5 == M 5) = true) (e6 : (decide (N 6 = 1) == decide (M 6 = 1)) = true) (e7 : (decide (N 7 = 1) == decide (M 7 = 1)) = false) : Calls Tryd.prog 18 #[.agg (segL N (.slice A n1 c) (.slice B n3 d)).toArray, .agg (segL M (.slice A' n2 c') (.slice B' n4 d')).toArray] w fun r w' => r = .returned (.bool false) ∧ Fine w w' := by
  go_enter Tryd.func18, Tryd.ntmps18
  go_wp2_with fail
  go_ret
  exact ⟨rfl, (by repeat (first | exact Fine.refl _ | assumption | refine Fine.alloc ?_ _ | refine Fine.drew ?_ | refine Fine.drewN ?_ _ | refine Fine.trans ?_ (by assumption) | (refine Fine.kept ?_ (by assumption) (by intro x hx; first | omega | (simp; omega))) | (refine Fine.setCell ?_ (by first | assumption | (simp; done) | (simp; omega)) _)))⟩
set_option maxHeartbeats 4000000 in
set_option maxRecDepth 100000 in
theorem same_bad8 (N M : Nat → Int) (A B A' B' : Option Addr) (n1 n2 n3 n4 c d c' d' : Nat) (w : World) (e0 : (N 0 == M 0) = true) (e1 : (N 1 == M 1) = true) (e2 : (N 2 == M 2) = true) (e3 : (N 3 == M 3) = true) (e4 : (N 4 == M 4) = true) (e5 : (N 5 == M 5) = true) (e6 : (decide (N 6 = 1) == decide (M 6 = 1)) = true) (e7 : (decide (N 7 = 1) == decide (M 7 = 1)) = true) (e8 : (decide (N 8 = 1) == decide (M 8 = 1)) = false) : Calls Tryd.prog 18 #[.agg (segL N (.slice A n1 c) (.slice B n3 d)).toArray, .agg (segL M (.slice A' n2 c') (.slice B' n4 d')).toArray] w fun r w' => r = .returned (.bool false) ∧ Fine w w' := by
  go_enter Tryd.func18, Tryd.ntmps18
  go_wp2_with fail
  go_ret
  exact ⟨rfl, (by repeat (first | exact Fine.refl _ | assumption | refine Fine.alloc ?_ _ | refine Fine.drew ?_ | refine Fine.drewN ?_ _ | refine Fine.trans ?_ (by assumption) | (refine Fine.kept ?_ (by assumption) (by intro x hx; first | omega | (simp; omega))) | (refine Fine.setCell ?_ (by first | assumption | (simp; done) | (simp; omega)) _)))⟩
set_option maxHeartbeats 4000000 in
set_option maxRecDepth 100000 in
theorem same_bad9 (N M : Nat → Int) (A B A' B' : Option Addr) (n1 n2 n3 n4 c d c' d' : Nat) (w : World) (e0 : (N 0 == M 0) = true) (e1 : (N 1 == M 1) = true) (e2 : (N 2 == M 2) = true) (e3 : (N 3 == M 3) = true) (e4 : (N 4 == M 4) = true) (e5 : (N 5 == M 5) = true) (e6 : (decide (N 6 = 1) == decide (M 6 = 1)) = true) (e7 : (decide (N 7 = 1) == decide (M 7 = 1)) = true) (e8 : (decide (N 8 = 1) == decide (M 8 = 1)) = true) (e9 : (decide (N 9 = 1) == decide (M 9 = 1)) = false) : Calls Tryd.prog 18 #[.agg (segL N (.slice A n1 c) (.slice B n3 d)).toArray, .agg (segL M (.slice A' n2 c') (.slice B' n4 d')).toArray] w fun r w' => r = .returned (.bool false) ∧ Fine w w' := by
  go_enter Tryd.func18, Tryd.ntmps18
  go_wp2_with fail
  go_ret
  exact ⟨rfl, (by repeat (first | exact Fine.refl _ | assumption | refine Fine.alloc ?_ _ | refine Fine.drew ?_ | refine Fine.drewN ?_ _ | refine Fine.trans ?_ (by assumption) | (refine Fine.kept ?_ (by assumption) (by intro x hx; first | omega | (simp; omega))) | (refine Fine.setCell ?_ (by first | assumption | (simp; done) | (simp; omega)) _)))⟩
set_option maxHeartbeats 4000000 in
set_option maxRecDepth 100000 in
theorem same_bad10 (N M : Nat → Int) (A B A' B' : Option Addr) (n1 n2 n3 n4 c d c' d' : Nat) (w : World) (e0 : (N 0 == M 0) = true) (e1 : (N 1 == M 1) = true) (e2 : (N 2 == M 2) = true) (e3 : (N 3 == M 3) = true) (e4 : (N 4 == M 4) = true) (e5 : (N 5 == M 5) = true) (e6 : (decide (N 6 = 1) == decide (M 6 = 1)) = true) (e7 : (decide (N 7 = 1) == decide (M 7 = 1)) = true) (e8 : (decide (N 8 = 1) == decide (M 8 = 1)) = true) (e9 : (decide (N 9 = 1) == decide (M 9 = 1)) = true) (e10 : (N 10 == M 10) = false) : Calls Tryd.prog 18 #[.agg (segL N (.slice A n1 c) (.slice B n3 d)).toArray, .agg (segL M (.slice A' n2 c') (.slice B' n4 d')).toArray] w fun r w' => r = .returned (.bool false) ∧ Fine w w' := by
  go_enter Tryd.func18, Tryd.ntmps18
  go_wp2_with fail
  go_ret
  exact ⟨rfl, (by repeat (first | exact Fine.refl _ | assumption | refine Fine.alloc ?_ _ | refine Fine.drew ?_ | refine Fine.drewN ?_ _ | refine Fine.trans ?_ (by assumption) | (refine Fine.kept ?_ (by assumption) (by intro x hx; first | omega | (simp; omega))) | (refine Fine.setCell ?_ (by first | assumption | (simp; done) | (simp; omega)) _)))⟩
end Go.Proofs.YthnennleblgjeaaDoor
