/- The document's Same of segments of which a number is unlike: the first numbers. The document's Same of segments of which a number is unlike: the further numbers. The document's Same of segments of which a number is unlike: the last numbers. The document's Same. -/
import Derived.Test.YthnennleblgjeaaDoorXSeg1
import Derived.Test.YthnennleblgjeaaDoorXSeg2
namespace Go.Proofs.YthnennleblgjeaaDoor
set_option linter.unusedVariables false
set_option linter.unusedSimpArgs false
open Go.ChangeShapes Go.WideShapes Go.ChangeAt Go.RowKit
set_option linter.unusedVariables false
set_option linter.unusedSimpArgs false
set_option maxHeartbeats 4000000 in
set_option maxRecDepth 100000 in
theorem rsame_bad0 (N M : Nat → Int) (A B A' B' : Option Addr) (n1 n2 n3 n4 c d c' d' : Nat) (w : World) (p6 p7 p8 p9 q6 q7 q8 q9 : Bool)  (e0 : (N 0 != M 0) = true) : Calls Tryd.prog 17 #[.agg #[.int .i64 (N 0), .int .i64 (N 1), .int .i64 (N 2), .int .i64 (N 3), .int .u32 (N 4), .int .u32 (N 5), .bool p6, .bool p7, .bool p8, .bool p9, .int .i64 (N 10), .slice A n1 c, .slice B n3 d], .agg #[.int .i64 (M 0), .int .i64 (M 1), .int .i64 (M 2), .int .i64 (M 3), .int .u32 (M 4), .int .u32 (M 5), .bool q6, .bool q7, .bool q8, .bool q9, .int .i64 (M 10), .slice A' n2 c', .slice B' n4 d']] w fun r w' => r = .returned (.bool false) ∧ Fine w w' := by
  go_enter Tryd.func17, Tryd.ntmps17
  go_wp2_with fail
  go_ret
  exact ⟨rfl, (by repeat (first | exact Fine.refl _ | assumption | refine Fine.alloc ?_ _ | refine Fine.drew ?_ | refine Fine.drewN ?_ _ | refine Fine.trans ?_ (by assumption) | (refine Fine.kept ?_ (by assumption) (by intro x hx; first | omega | (simp; omega))) | (refine Fine.setCell ?_ (by first | assumption | (simp; done) | (simp; omega)) _)))⟩
set_option maxHeartbeats 4000000 in
set_option maxRecDepth 100000 in
theorem rsame_bad1 (N M : Nat → Int) (A B A' B' : Option Addr) (n1 n2 n3 n4 c d c' d' : Nat) (w : World) (p6 p7 p8 p9 q6 q7 q8 q9 : Bool) (e0 : (N 0 != M 0) = false) (e1 : (N 1 != M 1) = true) : Calls Tryd.prog 17 #[.agg #[.int .i64 (N 0), .int .i64 (N 1), .int .i64 (N 2), .int .i64 (N 3), .int .u32 (N 4), .int .u32 (N 5), .bool p6, .bool p7, .bool p8, .bool p9, .int .i64 (N 10), .slice A n1 c, .slice B n3 d], .agg #[.int .i64 (M 0), .int .i64 (M 1), .int .i64 (M 2), .int .i64 (M 3), .int .u32 (M 4), .int .u32 (M 5), .bool q6, .bool q7, .bool q8, .bool q9, .int .i64 (M 10), .slice A' n2 c', .slice B' n4 d']] w fun r w' => r = .returned (.bool false) ∧ Fine w w' := by
  go_enter Tryd.func17, Tryd.ntmps17
  go_wp2_with fail
  go_ret
  exact ⟨rfl, (by repeat (first | exact Fine.refl _ | assumption | refine Fine.alloc ?_ _ | refine Fine.drew ?_ | refine Fine.drewN ?_ _ | refine Fine.trans ?_ (by assumption) | (refine Fine.kept ?_ (by assumption) (by intro x hx; first | omega | (simp; omega))) | (refine Fine.setCell ?_ (by first | assumption | (simp; done) | (simp; omega)) _)))⟩
set_option maxHeartbeats 4000000 in
set_option maxRecDepth 100000 in
theorem rsame_bad2 (N M : Nat → Int) (A B A' B' : Option Addr) (n1 n2 n3 n4 c d c' d' : Nat) (w : World) (p6 p7 p8 p9 q6 q7 q8 q9 : Bool) (e0 : (N 0 != M 0) = false) (e1 : (N 1 != M 1) = false) (e2 : (N 2 != M 2) = true) : Calls Tryd.prog 17 #[.agg #[.int .i64 (N 0), .int .i64 (N 1), .int .i64 (N 2), .int .i64 (N 3), .int .u32 (N 4), .int .u32 (N 5), .bool p6, .bool p7, .bool p8, .bool p9, .int .i64 (N 10), .slice A n1 c, .slice B n3 d], .agg #[.int .i64 (M 0), .int .i64 (M 1), .int .i64 (M 2), .int .i64 (M 3), .int .u32 (M 4), .int .u32 (M 5), .bool q6, .bool q7, .bool q8, .bool q9, .int .i64 (M 10), .slice A' n2 c', .slice B' n4 d']] w fun r w' => r = .returned (.bool false) ∧ Fine w w' := by
  go_enter Tryd.func17, Tryd.ntmps17
  go_wp2_with fail
  go_ret
  exact ⟨rfl, (by repeat (first | exact Fine.refl _ | assumption | refine Fine.alloc ?_ _ | refine Fine.drew ?_ | refine Fine.drewN ?_ _ | refine Fine.trans ?_ (by assumption) | (refine Fine.kept ?_ (by assumption) (by intro x hx; first | omega | (simp; omega))) | (refine Fine.setCell ?_ (by first | assumption | (simp; done) | (simp; omega)) _)))⟩
set_option maxHeartbeats 4000000 in
set_option maxRecDepth 100000 in
theorem rsame_bad3 (N M : Nat → Int) (A B A' B' : Option Addr) (n1 n2 n3 n4 c d c' d' : Nat) (w : World) (p6 p7 p8 p9 q6 q7 q8 q9 : Bool) (e0 : (N 0 != M 0) = false) (e1 : (N 1 != M 1) = false) (e2 : (N 2 != M 2) = false) (e3 : (N 3 != M 3) = true) : Calls Tryd.prog 17 #[.agg #[.int .i64 (N 0), .int .i64 (N 1), .int .i64 (N 2), .int .i64 (N 3), .int .u32 (N 4), .int .u32 (N 5), .bool p6, .bool p7, .bool p8, .bool p9, .int .i64 (N 10), .slice A n1 c, .slice B n3 d], .agg #[.int .i64 (M 0), .int .i64 (M 1), .int .i64 (M 2), .int .i64 (M 3), .int .u32 (M 4), .int .u32 (M 5), .bool q6, .bool q7, .bool q8, .bool q9, .int .i64 (M 10), .slice A' n2 c', .slice B' n4 d']] w fun r w' => r = .returned (.bool false) ∧ Fine w w' := by
  go_enter Tryd.func17, Tryd.ntmps17
  go_wp2_with fail
  go_ret
  exact ⟨rfl, (by repeat (first | exact Fine.refl _ | assumption | refine Fine.alloc ?_ _ | refine Fine.drew ?_ | refine Fine.drewN ?_ _ | refine Fine.trans ?_ (by assumption) | (refine Fine.kept ?_ (by assumption) (by intro x hx; first | omega | (simp; omega))) | (refine Fine.setCell ?_ (by first | assumption | (simp; done) | (simp; omega)) _)))⟩
set_option maxHeartbeats 4000000 in
set_option maxRecDepth 100000 in
theorem rsame_bad4 (N M : Nat → Int) (A B A' B' : Option Addr) (n1 n2 n3 n4 c d c' d' : Nat) (w : World) (p6 p7 p8 p9 q6 q7 q8 q9 : Bool) (e0 : (N 0 != M 0) = false) (e1 : (N 1 != M 1) = false) (e2 : (N 2 != M 2) = false) (e3 : (N 3 != M 3) = false) (e4 : (N 4 != M 4) = true) : Calls Tryd.prog 17 #[.agg #[.int .i64 (N 0), .int .i64 (N 1), .int .i64 (N 2), .int .i64 (N 3), .int .u32 (N 4), .int .u32 (N 5), .bool p6, .bool p7, .bool p8, .bool p9, .int .i64 (N 10), .slice A n1 c, .slice B n3 d], .agg #[.int .i64 (M 0), .int .i64 (M 1), .int .i64 (M 2), .int .i64 (M 3), .int .u32 (M 4), .int .u32 (M 5), .bool q6, .bool q7, .bool q8, .bool q9, .int .i64 (M 10), .slice A' n2 c', .slice B' n4 d']] w fun r w' => r = .returned (.bool false) ∧ Fine w w' := by
  go_enter Tryd.func17, Tryd.ntmps17
  go_wp2_with fail
  go_ret
  exact ⟨rfl, (by repeat (first | exact Fine.refl _ | assumption | refine Fine.alloc ?_ _ | refine Fine.drew ?_ | refine Fine.drewN ?_ _ | refine Fine.trans ?_ (by assumption) | (refine Fine.kept ?_ (by assumption) (by intro x hx; first | omega | (simp; omega))) | (refine Fine.setCell ?_ (by first | assumption | (simp; done) | (simp; omega)) _)))⟩
set_option maxHeartbeats 4000000 in
set_option maxRecDepth 100000 in
theorem rsame_bad5 (N M : Nat → Int) (A B A' B' : Option Addr) (n1 n2 n3 n4 c d c' d' : Nat) (w : World) (p6 p7 p8 p9 q6 q7 q8 q9 : Bool) (e0 : (N 0 != M 0) = false) (e1 : (N 1 != M 1) = false) (e2 : (N 2 != M 2) = false) (e3 : (N 3 != M 3) = false) (e4 : (N 4 != M 4) = false) (e5 : (N 5 != M 5) = true) : Calls Tryd.prog 17 #[.agg #[.int .i64 (N 0), .int .i64 (N 1), .int .i64 (N 2), .int .i64 (N 3), .int .u32 (N 4), .int .u32 (N 5), .bool p6, .bool p7, .bool p8, .bool p9, .int .i64 (N 10), .slice A n1 c, .slice B n3 d], .agg #[.int .i64 (M 0), .int .i64 (M 1), .int .i64 (M 2), .int .i64 (M 3), .int .u32 (M 4), .int .u32 (M 5), .bool q6, .bool q7, .bool q8, .bool q9, .int .i64 (M 10), .slice A' n2 c', .slice B' n4 d']] w fun r w' => r = .returned (.bool false) ∧ Fine w w' := by
  go_enter Tryd.func17, Tryd.ntmps17
  go_wp2_with fail
  go_ret
  exact ⟨rfl, (by repeat (first | exact Fine.refl _ | assumption | refine Fine.alloc ?_ _ | refine Fine.drew ?_ | refine Fine.drewN ?_ _ | refine Fine.trans ?_ (by assumption) | (refine Fine.kept ?_ (by assumption) (by intro x hx; first | omega | (simp; omega))) | (refine Fine.setCell ?_ (by first | assumption | (simp; done) | (simp; omega)) _)))⟩
set_option maxHeartbeats 4000000 in
set_option maxRecDepth 100000 in
theorem rsame_bad6 (N M : Nat → Int) (A B A' B' : Option Addr) (n1 n2 n3 n4 c d c' d' : Nat) (w : World) (p6 p7 p8 p9 q6 q7 q8 q9 : Bool) (e0 : (N 0 != M 0) = false) (e1 : (N 1 != M 1) = false) (e2 : (N 2 != M 2) = false) (e3 : (N 3 != M 3) = false) (e4 : (N 4 != M 4) = false) (e5 : (N 5 != M 5) = false) (e10 : (N 10 != M 10) = true) : Calls Tryd.prog 17 #[.agg #[.int .i64 (N 0), .int .i64 (N 1), .int .i64 (N 2), .int .i64 (N 3), .int .u32 (N 4), .int .u32 (N 5), .bool p6, .bool p7, .bool p8, .bool p9, .int .i64 (N 10), .slice A n1 c, .slice B n3 d], .agg #[.int .i64 (M 0), .int .i64 (M 1), .int .i64 (M 2), .int .i64 (M 3), .int .u32 (M 4), .int .u32 (M 5), .bool q6, .bool q7, .bool q8, .bool q9, .int .i64 (M 10), .slice A' n2 c', .slice B' n4 d']] w fun r w' => r = .returned (.bool false) ∧ Fine w w' := by
  go_enter Tryd.func17, Tryd.ntmps17
  go_wp2_with fail
  go_ret
  exact ⟨rfl, (by repeat (first | exact Fine.refl _ | assumption | refine Fine.alloc ?_ _ | refine Fine.drew ?_ | refine Fine.drewN ?_ _ | refine Fine.trans ?_ (by assumption) | (refine Fine.kept ?_ (by assumption) (by intro x hx; first | omega | (simp; omega))) | (refine Fine.setCell ?_ (by first | assumption | (simp; done) | (simp; omega)) _)))⟩
end Go.Proofs.YthnennleblgjeaaDoor
namespace Go.Proofs.YthnennleblgjeaaDoor
set_option linter.unusedVariables false
set_option linter.unusedSimpArgs false
open Go.ChangeShapes Go.WideShapes Go.ChangeAt Go.RowKit
set_option linter.unusedVariables false
set_option linter.unusedSimpArgs false
set_option maxHeartbeats 4000000 in
set_option maxRecDepth 100000 in
theorem rsame_bad7 (N M : Nat → Int) (A B A' B' : Option Addr) (n1 n2 n3 n4 c d c' d' : Nat) (w : World) (p6 p7 p8 p9 q7 q8 q9 : Bool) (e0 : (N 0 != M 0) = false) (e1 : (N 1 != M 1) = false) (e2 : (N 2 != M 2) = false) (e3 : (N 3 != M 3) = false) (e4 : (N 4 != M 4) = false) (e5 : (N 5 != M 5) = false) (e10 : (N 10 != M 10) = false) : Calls Tryd.prog 17 #[.agg #[.int .i64 (N 0), .int .i64 (N 1), .int .i64 (N 2), .int .i64 (N 3), .int .u32 (N 4), .int .u32 (N 5), .bool p6, .bool p7, .bool p8, .bool p9, .int .i64 (N 10), .slice A n1 c, .slice B n3 d], .agg #[.int .i64 (M 0), .int .i64 (M 1), .int .i64 (M 2), .int .i64 (M 3), .int .u32 (M 4), .int .u32 (M 5), .bool (!p6), .bool q7, .bool q8, .bool q9, .int .i64 (M 10), .slice A' n2 c', .slice B' n4 d']] w fun r w' => r = .returned (.bool false) ∧ Fine w w' := by
  cases p6
  · go_enter Tryd.func17, Tryd.ntmps17
    simp only [Bool.not_true, Bool.not_false]
    go_wp2_with fail
    go_ret
    exact ⟨rfl, (by repeat (first | exact Fine.refl _ | assumption | refine Fine.alloc ?_ _ | refine Fine.drew ?_ | refine Fine.drewN ?_ _ | refine Fine.trans ?_ (by assumption) | (refine Fine.kept ?_ (by assumption) (by intro x hx; first | omega | (simp; omega))) | (refine Fine.setCell ?_ (by first | assumption | (simp; done) | (simp; omega)) _)))⟩
  · go_enter Tryd.func17, Tryd.ntmps17
    simp only [Bool.not_true, Bool.not_false]
    go_wp2_with fail
    go_ret
    exact ⟨rfl, (by repeat (first | exact Fine.refl _ | assumption | refine Fine.alloc ?_ _ | refine Fine.drew ?_ | refine Fine.drewN ?_ _ | refine Fine.trans ?_ (by assumption) | (refine Fine.kept ?_ (by assumption) (by intro x hx; first | omega | (simp; omega))) | (refine Fine.setCell ?_ (by first | assumption | (simp; done) | (simp; omega)) _)))⟩
set_option maxHeartbeats 4000000 in
set_option maxRecDepth 100000 in
theorem rsame_bad8 (N M : Nat → Int) (A B A' B' : Option Addr) (n1 n2 n3 n4 c d c' d' : Nat) (w : World) (p6 p7 p8 p9 q8 q9 : Bool) (e0 : (N 0 != M 0) = false) (e1 : (N 1 != M 1) = false) (e2 : (N 2 != M 2) = false) (e3 : (N 3 != M 3) = false) (e4 : (N 4 != M 4) = false) (e5 : (N 5 != M 5) = false) (e10 : (N 10 != M 10) = false) : Calls Tryd.prog 17 #[.agg #[.int .i64 (N 0), .int .i64 (N 1), .int .i64 (N 2), .int .i64 (N 3), .int .u32 (N 4), .int .u32 (N 5), .bool p6, .bool p7, .bool p8, .bool p9, .int .i64 (N 10), .slice A n1 c, .slice B n3 d], .agg #[.int .i64 (M 0), .int .i64 (M 1), .int .i64 (M 2), .int .i64 (M 3), .int .u32 (M 4), .int .u32 (M 5), .bool p6, .bool (!p7), .bool q8, .bool q9, .int .i64 (M 10), .slice A' n2 c', .slice B' n4 d']] w fun r w' => r = .returned (.bool false) ∧ Fine w w' := by
  cases p7
  · go_enter Tryd.func17, Tryd.ntmps17
    simp only [Bool.not_true, Bool.not_false]
    go_wp2_with fail
    go_ret
    exact ⟨rfl, (by repeat (first | exact Fine.refl _ | assumption | refine Fine.alloc ?_ _ | refine Fine.drew ?_ | refine Fine.drewN ?_ _ | refine Fine.trans ?_ (by assumption) | (refine Fine.kept ?_ (by assumption) (by intro x hx; first | omega | (simp; omega))) | (refine Fine.setCell ?_ (by first | assumption | (simp; done) | (simp; omega)) _)))⟩
  · go_enter Tryd.func17, Tryd.ntmps17
    simp only [Bool.not_true, Bool.not_false]
    go_wp2_with fail
    go_ret
    exact ⟨rfl, (by repeat (first | exact Fine.refl _ | assumption | refine Fine.alloc ?_ _ | refine Fine.drew ?_ | refine Fine.drewN ?_ _ | refine Fine.trans ?_ (by assumption) | (refine Fine.kept ?_ (by assumption) (by intro x hx; first | omega | (simp; omega))) | (refine Fine.setCell ?_ (by first | assumption | (simp; done) | (simp; omega)) _)))⟩
set_option maxHeartbeats 4000000 in
set_option maxRecDepth 100000 in
theorem rsame_bad9 (N M : Nat → Int) (A B A' B' : Option Addr) (n1 n2 n3 n4 c d c' d' : Nat) (w : World) (p6 p7 p8 p9 q9 : Bool) (e0 : (N 0 != M 0) = false) (e1 : (N 1 != M 1) = false) (e2 : (N 2 != M 2) = false) (e3 : (N 3 != M 3) = false) (e4 : (N 4 != M 4) = false) (e5 : (N 5 != M 5) = false) (e10 : (N 10 != M 10) = false) : Calls Tryd.prog 17 #[.agg #[.int .i64 (N 0), .int .i64 (N 1), .int .i64 (N 2), .int .i64 (N 3), .int .u32 (N 4), .int .u32 (N 5), .bool p6, .bool p7, .bool p8, .bool p9, .int .i64 (N 10), .slice A n1 c, .slice B n3 d], .agg #[.int .i64 (M 0), .int .i64 (M 1), .int .i64 (M 2), .int .i64 (M 3), .int .u32 (M 4), .int .u32 (M 5), .bool p6, .bool p7, .bool (!p8), .bool q9, .int .i64 (M 10), .slice A' n2 c', .slice B' n4 d']] w fun r w' => r = .returned (.bool false) ∧ Fine w w' := by
  cases p8
  · go_enter Tryd.func17, Tryd.ntmps17
    simp only [Bool.not_true, Bool.not_false]
    go_wp2_with fail
    go_ret
    exact ⟨rfl, (by repeat (first | exact Fine.refl _ | assumption | refine Fine.alloc ?_ _ | refine Fine.drew ?_ | refine Fine.drewN ?_ _ | refine Fine.trans ?_ (by assumption) | (refine Fine.kept ?_ (by assumption) (by intro x hx; first | omega | (simp; omega))) | (refine Fine.setCell ?_ (by first | assumption | (simp; done) | (simp; omega)) _)))⟩
  · go_enter Tryd.func17, Tryd.ntmps17
    simp only [Bool.not_true, Bool.not_false]
    go_wp2_with fail
    go_ret
    exact ⟨rfl, (by repeat (first | exact Fine.refl _ | assumption | refine Fine.alloc ?_ _ | refine Fine.drew ?_ | refine Fine.drewN ?_ _ | refine Fine.trans ?_ (by assumption) | (refine Fine.kept ?_ (by assumption) (by intro x hx; first | omega | (simp; omega))) | (refine Fine.setCell ?_ (by first | assumption | (simp; done) | (simp; omega)) _)))⟩
end Go.Proofs.YthnennleblgjeaaDoor
namespace Go.Proofs.YthnennleblgjeaaDoor
set_option linter.unusedVariables false
set_option linter.unusedSimpArgs false
open Go.ChangeShapes Go.WideShapes Go.ChangeAt Go.RowKit
set_option linter.unusedVariables false
set_option linter.unusedSimpArgs false
set_option maxHeartbeats 4000000 in
set_option maxRecDepth 100000 in
theorem rsame_bad10 (N M : Nat → Int) (A B A' B' : Option Addr) (n1 n2 n3 n4 c d c' d' : Nat) (w : World) (p6 p7 p8 p9 : Bool) (e0 : (N 0 != M 0) = false) (e1 : (N 1 != M 1) = false) (e2 : (N 2 != M 2) = false) (e3 : (N 3 != M 3) = false) (e4 : (N 4 != M 4) = false) (e5 : (N 5 != M 5) = false) (e10 : (N 10 != M 10) = false) : Calls Tryd.prog 17 #[.agg #[.int .i64 (N 0), .int .i64 (N 1), .int .i64 (N 2), .int .i64 (N 3), .int .u32 (N 4), .int .u32 (N 5), .bool p6, .bool p7, .bool p8, .bool p9, .int .i64 (N 10), .slice A n1 c, .slice B n3 d], .agg #[.int .i64 (M 0), .int .i64 (M 1), .int .i64 (M 2), .int .i64 (M 3), .int .u32 (M 4), .int .u32 (M 5), .bool p6, .bool p7, .bool p8, .bool (!p9), .int .i64 (M 10), .slice A' n2 c', .slice B' n4 d']] w fun r w' => r = .returned (.bool false) ∧ Fine w w' := by
  cases p9
  · go_enter Tryd.func17, Tryd.ntmps17
    simp only [Bool.not_true, Bool.not_false]
    go_wp2_with fail
    go_ret
    exact ⟨rfl, (by repeat (first | exact Fine.refl _ | assumption | refine Fine.alloc ?_ _ | refine Fine.drew ?_ | refine Fine.drewN ?_ _ | refine Fine.trans ?_ (by assumption) | (refine Fine.kept ?_ (by assumption) (by intro x hx; first | omega | (simp; omega))) | (refine Fine.setCell ?_ (by first | assumption | (simp; done) | (simp; omega)) _)))⟩
  · go_enter Tryd.func17, Tryd.ntmps17
    simp only [Bool.not_true, Bool.not_false]
    go_wp2_with fail
    go_ret
    exact ⟨rfl, (by repeat (first | exact Fine.refl _ | assumption | refine Fine.alloc ?_ _ | refine Fine.drew ?_ | refine Fine.drewN ?_ _ | refine Fine.trans ?_ (by assumption) | (refine Fine.kept ?_ (by assumption) (by intro x hx; first | omega | (simp; omega))) | (refine Fine.setCell ?_ (by first | assumption | (simp; done) | (simp; omega)) _)))⟩
set_option maxHeartbeats 4000000 in
set_option maxRecDepth 100000 in
theorem rsame_bad11 (N M : Nat → Int) (A B A' B' : Option Addr) (n1 n2 n3 n4 c d c' d' : Nat) (w : World) (p6 p7 p8 p9 : Bool) (e0 : (N 0 != M 0) = false) (e1 : (N 1 != M 1) = false) (e2 : (N 2 != M 2) = false) (e3 : (N 3 != M 3) = false) (e4 : (N 4 != M 4) = false) (e5 : (N 5 != M 5) = false) (e10 : (N 10 != M 10) = false) (el : ((n1 : Int) != (n2 : Int)) = true) : Calls Tryd.prog 17 #[.agg #[.int .i64 (N 0), .int .i64 (N 1), .int .i64 (N 2), .int .i64 (N 3), .int .u32 (N 4), .int .u32 (N 5), .bool p6, .bool p7, .bool p8, .bool p9, .int .i64 (N 10), .slice A n1 c, .slice B n3 d], .agg #[.int .i64 (M 0), .int .i64 (M 1), .int .i64 (M 2), .int .i64 (M 3), .int .u32 (M 4), .int .u32 (M 5), .bool p6, .bool p7, .bool p8, .bool p9, .int .i64 (M 10), .slice A' n2 c', .slice B' n4 d']] w fun r w' => r = .returned (.bool false) ∧ Fine w w' := by
  go_enter Tryd.func17, Tryd.ntmps17
  go_wp2_with fail
  go_ret
  exact ⟨rfl, (by repeat (first | exact Fine.refl _ | assumption | refine Fine.alloc ?_ _ | refine Fine.drew ?_ | refine Fine.drewN ?_ _ | refine Fine.trans ?_ (by assumption) | (refine Fine.kept ?_ (by assumption) (by intro x hx; first | omega | (simp; omega))) | (refine Fine.setCell ?_ (by first | assumption | (simp; done) | (simp; omega)) _)))⟩
end Go.Proofs.YthnennleblgjeaaDoor
namespace Go.Proofs.YthnennleblgjeaaDoor
set_option linter.unusedVariables false
set_option linter.unusedSimpArgs false
open Go.ChangeShapes Go.WideShapes Go.ChangeAt Go.RowKit
set_option linter.unusedVariables false
set_option linter.unusedSimpArgs false
attribute [local go_sem ↓ high] eq56b
set_option maxHeartbeats 4000000 in
set_option maxRecDepth 100000 in
theorem rsame_good (N M : Nat → Int) (A B A' B' : Option Addr) (n1 n2 n3 n4 c d c' d' : Nat) (w : World) (l m : List (Nat → Int)) (xs ys : List Int) (hn1 : n1 = l.length) (hn2 : n2 = m.length) (hn3 : n3 = xs.length) (hn4 : n4 = ys.length) (hl : l.length ≤ 100000) (hx : xs.length ≤ 1000000)
    (h1 : RS layO w A c l) (h2 : RS layO w A' c' m) (h3 : BS w B d xs) (h4 : BS w B' d' ys) (p6 p7 p8 p9 : Bool) (e0 : (N 0 != M 0) = false) (e1 : (N 1 != M 1) = false) (e2 : (N 2 != M 2) = false) (e3 : (N 3 != M 3) = false) (e4 : (N 4 != M 4) = false) (e5 : (N 5 != M 5) = false) (e10 : (N 10 != M 10) = false) (el : ((n1 : Int) != (n2 : Int)) = false) :
    Calls Tryd.prog 17 #[.agg #[.int .i64 (N 0), .int .i64 (N 1), .int .i64 (N 2), .int .i64 (N 3), .int .u32 (N 4), .int .u32 (N 5), .bool p6, .bool p7, .bool p8, .bool p9, .int .i64 (N 10), .slice A n1 c, .slice B n3 d], .agg #[.int .i64 (M 0), .int .i64 (M 1), .int .i64 (M 2), .int .i64 (M 3), .int .u32 (M 4), .int .u32 (M 5), .bool p6, .bool p7, .bool p8, .bool p9, .int .i64 (M 10), .slice A' n2 c', .slice B' n4 d']] w fun r w' => r = .returned (.bool (optsEq l m && decide (xs = ys))) ∧ Fine w w' := by
  have hnn : n1 = n2 := by
    have h : (n1 : Int) = (n2 : Int) := by simpa using el
    omega
  have HL : Hid (l.length = m.length) := Lib.hid (by rw [← hn1, ← hn2, hnn])
  have hlt12 : n1 ≤ n2 := by omega
  have HN1 := Lib.hid hn1; clear hn1
  have HN2 := Lib.hid hn2; clear hn2
  have HN3 := Lib.hid hn3; clear hn3
  have HN4 := Lib.hid hn4; clear hn4
  have H1 := Lib.hid h1; clear h1
  have H2 := Lib.hid h2; clear h2
  have H3 := Lib.hid h3; clear h3
  have H4 := Lib.hid h4; clear h4
  clear hnn
  have hn1b : (n1 : Int) ≤ 100000 := by have := HN1.out; omega
  obtain ⟨q, hq⟩ : ∃ q, (optsEq l m && decide (xs = ys)) = q := ⟨_, rfl⟩
  rw [hq]
  have HQ := Lib.hid hq; clear hq
  go_enter Tryd.func17, Tryd.ntmps17
  go_wp2_with fail
  have b1 : Blk ((w.alloc (.cells #[.int .i64 (N 0), .int .i64 (N 1), .int .i64 (N 2), .int .i64 (N 3), .int .u32 (N 4), .int .u32 (N 5), .bool p6, .bool p7, .bool p8, .bool p9, .int .i64 (N 10), .slice A n1 c, .slice B n3 d] 26)).alloc (.cells #[.int .i64 (M 0), .int .i64 (M 1), .int .i64 (M 2), .int .i64 (M 3), .int .u32 (M 4), .int .u32 (M 5), .bool p6, .bool p7, .bool p8, .bool p9, .int .i64 (M 10), .slice A' n2 c', .slice B' n4 d'] 26)) w.heap.size 26 #[.int .i64 (N 0), .int .i64 (N 1), .int .i64 (N 2), .int .i64 (N 3), .int .u32 (N 4), .int .u32 (N 5), .bool p6, .bool p7, .bool p8, .bool p9, .int .i64 (N 10), .slice A n1 c, .slice B n3 d] := (Blk.new w 26 _).alloc _
  have b2 : Blk ((w.alloc (.cells #[.int .i64 (N 0), .int .i64 (N 1), .int .i64 (N 2), .int .i64 (N 3), .int .u32 (N 4), .int .u32 (N 5), .bool p6, .bool p7, .bool p8, .bool p9, .int .i64 (N 10), .slice A n1 c, .slice B n3 d] 26)).alloc (.cells #[.int .i64 (M 0), .int .i64 (M 1), .int .i64 (M 2), .int .i64 (M 3), .int .u32 (M 4), .int .u32 (M 5), .bool p6, .bool p7, .bool p8, .bool p9, .int .i64 (M 10), .slice A' n2 c', .slice B' n4 d'] 26)) (w.heap.size + 1) 26 #[.int .i64 (M 0), .int .i64 (M 1), .int .i64 (M 2), .int .i64 (M 3), .int .u32 (M 4), .int .u32 (M 5), .bool p6, .bool p7, .bool p8, .bool p9, .int .i64 (M 10), .slice A' n2 c', .slice B' n4 d'] := Blk.newAt (by simp)
  have f1 : Fine w ((w.alloc (.cells #[.int .i64 (N 0), .int .i64 (N 1), .int .i64 (N 2), .int .i64 (N 3), .int .u32 (N 4), .int .u32 (N 5), .bool p6, .bool p7, .bool p8, .bool p9, .int .i64 (N 10), .slice A n1 c, .slice B n3 d] 26)).alloc (.cells #[.int .i64 (M 0), .int .i64 (M 1), .int .i64 (M 2), .int .i64 (M 3), .int .u32 (M 4), .int .u32 (M 5), .bool p6, .bool p7, .bool p8, .bool p9, .int .i64 (M 10), .slice A' n2 c', .slice B' n4 d'] 26)) := ((Fine.refl w).alloc _).alloc _
  generalize ((w.alloc (.cells #[.int .i64 (N 0), .int .i64 (N 1), .int .i64 (N 2), .int .i64 (N 3), .int .u32 (N 4), .int .u32 (N 5), .bool p6, .bool p7, .bool p8, .bool p9, .int .i64 (N 10), .slice A n1 c, .slice B n3 d] 26)).alloc (.cells #[.int .i64 (M 0), .int .i64 (M 1), .int .i64 (M 2), .int .i64 (M 3), .int .u32 (M 4), .int .u32 (M 5), .bool p6, .bool p7, .bool p8, .bool p9, .int .i64 (M 10), .slice A' n2 c', .slice B' n4 d'] 26)) = w1 at b1 b2 f1 ⊢
  generalize w.heap.size = x1 at b1 b2 ⊢
  obtain ⟨x2, hx2⟩ : ∃ x2, x1 + 1 = x2 := ⟨_, rfl⟩
  rw [hx2] at b2 ⊢
  clear hx2
  have B1 := Lib.hid b1; clear b1
  have B2 := Lib.hid b2; clear b2
  clear e0 e1 e2 e3 e4 e5 e10 el
  go_loopw [5] (fun s wr => ∃ i : Nat, i ≤ n1 ∧ s = .int .i64 i ∧ Hid (Fine w1 wr ∧ ∀ j, j < i → ∀ V U, l[j]? = some V → m[j]? = some U → optEq V U = true)) (fun s _ => n1 - (intOf s).toNat)
  case atStart => exact ⟨0, Nat.zero_le _, rfl, Lib.hid ⟨Fine.refl w1, fun j hj => absurd hj (by omega)⟩⟩
  case round =>
    obtain ⟨i, hi, rfl, hR⟩ := hrel
    have s1 : wr.cell? ⟨x1, 11, none⟩ = some (.slice A n1 c) := (B1.out.fine hR.out.1).cell 11
    have s2 : wr.cell? ⟨x2, 11, none⟩ = some (.slice A' n2 c') := (B2.out.fine hR.out.1).cell 11
    by_cases hlt : i < n1
    · have hlt2 : i < n2 := by omega
      obtain ⟨V, hV0⟩ : ∃ V, l[i]? = some V := ⟨_, List.getElem?_eq_getElem (by have := HN1.out; omega)⟩
      obtain ⟨U, hU0⟩ : ∃ U, m[i]? = some U := ⟨_, List.getElem?_eq_getElem (by have := HN2.out; omega)⟩
      obtain ⟨b, o, rfl, hb, hc⟩ := (H1.out.fine (f1.trans hR.out.1)).at_ hV0
      obtain ⟨b2, o2, rfl, hb2, hd⟩ := (H2.out.fine (f1.trans hR.out.1)).at_ hU0
      have c0 := hc 0 (.int .i64 (V 0)) rfl
      have d0 := hd 0 (.int .i64 (U 0)) rfl
      have c1 := hc 1 (.int .u64 (V 1)) rfl
      have d1 := hd 1 (.int .u64 (U 1)) rfl
      have c2 := hc 2 (.int .u64 (V 2)) rfl
      have d2 := hd 2 (.int .u64 (U 2)) rfl
      have c3 := hc 3 (.int .u32 (V 3)) rfl
      have d3 := hd 3 (.int .u32 (U 3)) rfl
      have c4 := hc 4 (.int .u32 (V 4)) rfl
      have d4 := hd 4 (.int .u32 (U 4)) rfl
      have c5 := hc 5 (.int .i64 (V 5)) rfl
      have d5 := hd 5 (.int .i64 (U 5)) rfl
      have c6 := hc 6 (.int .i64 (V 6)) rfl
      have d6 := hd 6 (.int .i64 (U 6)) rfl
      have c7 := hc 7 (.bool (decide (V 7 = 1))) rfl
      have d7 := hd 7 (.bool (decide (U 7 = 1))) rfl
      have c8 := hc 8 (.bool (decide (V 8 = 1))) rfl
      have d8 := hd 8 (.bool (decide (U 8 = 1))) rfl
      have c9 := hc 9 (.int .i64 (V 9)) rfl
      have d9 := hd 9 (.int .i64 (U 9)) rfl
      have c10 := hc 10 (.bool (decide (V 10 = 1))) rfl
      have d10 := hd 10 (.bool (decide (U 10 = 1))) rfl
      have c11 := hc 11 (.int .i64 (V 11)) rfl
      have d11 := hd 11 (.int .i64 (U 11)) rfl
      have c12 := hc 12 (.int .i64 (V 12)) rfl
      have d12 := hd 12 (.int .i64 (U 12)) rfl
      have c13 := hc 13 (.bool (decide (V 13 = 1))) rfl
      have d13 := hd 13 (.bool (decide (U 13 = 1))) rfl
      have HV0 := Lib.hid hV0
      have HU0 := Lib.hid hU0
      clear hc hd hV0 hU0
      simp only [← Nat.add_assoc, Nat.add_zero] at c0 d0 c1 d1 c2 d2 c3 d3 c4 d4 c5 d5 c6 d6 c7 d7 c8 d8 c9 d9 c10 d10 c11 d11 c12 d12 c13 d13
      obtain ⟨p, hp⟩ : ∃ p, optEq V U = p := ⟨_, rfl⟩
      have E := (eqB_opt V U).trans hp
      have HP := Lib.hid hp; clear hp
      go_wp2_with fail
      cases p
      · go_quiet (fail)
        go_wp2_with fail
        go_ret
        exact ⟨by rw [← HQ.out, optsEq_none i HL.out hR.out.2 HV0.out HU0.out HP.out]; rfl, (f1.trans hR.out.1).drewN _⟩
      · go_quiet (fail)
        have HN : ∀ wz, Fine wr wz → Hid (Fine w1 wz ∧ ∀ j, j < i + 1 → ∀ V U, l[j]? = some V → m[j]? = some U → optEq V U = true) := fun wz fz => Lib.hid ⟨hR.out.1.trans fz, fun j hj V' U' e1 e2 => by
          by_cases e : j = i
          · subst e
            rw [HV0.out] at e1; rw [HU0.out] at e2; cases e1; cases e2; exact HP.out
          · exact hR.out.2 j (by omega) V' U' e1 e2⟩
        go_wp2_with fail
        exact ⟨⟨i + 1, hlt, by simp, HN _ ((Fine.refl wr).drewN _)⟩, by simp only [intOf]; omega⟩
    · have hie : i = n1 := by omega
      subst hie
      have HE : Hid (optsEq l m = true) := Lib.hid (optsEq_all HL.out (fun j hj => hR.out.2 j (by have := HN1.out; omega)))
      have fw := f1.trans hR.out.1
      have s3 : wr.cell? ⟨x1, 12, none⟩ = some (.slice B n3 d) := (B1.out.fine hR.out.1).cell 12
      have s4 : wr.cell? ⟨x2, 12, none⟩ = some (.slice B' n4 d') := (B2.out.fine hR.out.1).cell 12
      clear hR
      go_wp2_with fail
      refine (same_n B B' n3 n4 d d' xs ys wr (H3.out.fine fw) (H4.out.fine fw) HN3.out HN4.out (by omega)).mono ?_
      rintro y w3 ⟨rfl, f3⟩
      have f03 := fw.trans f3
      go_wp2_with fail
      go_ret
      exact ⟨by rw [← HQ.out]; simp [HE.out], f03⟩
theorem rsame_seg (N M : Nat → Int) (A B A' B' : Option Addr) (n1 n2 n3 n4 c d c' d' : Nat) (w : World) (l m : List (Nat → Int)) (xs ys : List Int) (hn1 : n1 = l.length) (hn2 : n2 = m.length) (hn3 : n3 = xs.length) (hn4 : n4 = ys.length) (hl : l.length ≤ 100000) (hx : xs.length ≤ 1000000)
    (h1 : RS layO w A c l) (h2 : RS layO w A' c' m) (h3 : BS w B d xs) (h4 : BS w B' d' ys) :
    Calls Tryd.prog 17 #[.agg (segL N (.slice A n1 c) (.slice B n3 d)).toArray, .agg (segL M (.slice A' n2 c') (.slice B' n4 d')).toArray] w fun r w' => r = .returned (.bool (sameS N M l m xs ys)) ∧ Fine w w' := by
  have k0 : (N 0 != M 0) = !(N 0 == M 0) := rfl
  have k1 : (N 1 != M 1) = !(N 1 == M 1) := rfl
  have k2 : (N 2 != M 2) = !(N 2 == M 2) := rfl
  have k3 : (N 3 != M 3) = !(N 3 == M 3) := rfl
  have k4 : (N 4 != M 4) = !(N 4 == M 4) := rfl
  have k5 : (N 5 != M 5) = !(N 5 == M 5) := rfl
  have k10 : (N 10 != M 10) = !(N 10 == M 10) := rfl
  by_cases e0 : (N 0 == M 0) = true
  · rw [e0] at k0
    by_cases e1 : (N 1 == M 1) = true
    · rw [e1] at k1
      by_cases e2 : (N 2 == M 2) = true
      · rw [e2] at k2
        by_cases e3 : (N 3 == M 3) = true
        · rw [e3] at k3
          by_cases e4 : (N 4 == M 4) = true
          · rw [e4] at k4
            by_cases e5 : (N 5 == M 5) = true
            · rw [e5] at k5
              by_cases e10 : (N 10 == M 10) = true
              · rw [e10] at k10
                by_cases e6 : (decide (N 6 = 1) == decide (M 6 = 1)) = true
                · have g6 : decide (M 6 = 1) = decide (N 6 = 1) := (beq_iff_eq.mp e6).symm
                  by_cases e7 : (decide (N 7 = 1) == decide (M 7 = 1)) = true
                  · have g7 : decide (M 7 = 1) = decide (N 7 = 1) := (beq_iff_eq.mp e7).symm
                    by_cases e8 : (decide (N 8 = 1) == decide (M 8 = 1)) = true
                    · have g8 : decide (M 8 = 1) = decide (N 8 = 1) := (beq_iff_eq.mp e8).symm
                      by_cases e9 : (decide (N 9 = 1) == decide (M 9 = 1)) = true
                      · have g9 : decide (M 9 = 1) = decide (N 9 = 1) := (beq_iff_eq.mp e9).symm
                        by_cases hl12 : n1 = n2
                        · have e : sameN N M = true := by simp only [sameN, e0, e1, e2, e3, e4, e5, e6, e7, e8, e9, e10]; rfl
                          have g := rsame_good N M A B A' B' n1 n2 n3 n4 c d c' d' w l m xs ys hn1 hn2 hn3 hn4 hl hx h1 h2 h3 h4 (decide (N 6 = 1)) (decide (N 7 = 1)) (decide (N 8 = 1)) (decide (N 9 = 1)) k0 k1 k2 k3 k4 k5 k10 (by simp [hl12])
                          unfold sameS
                          rw [e, Bool.true_and]
                          unfold segL
                          rw [g6, g7, g8, g9]
                          exact g
                        · have g := rsame_bad11 N M A B A' B' n1 n2 n3 n4 c d c' d' w (decide (N 6 = 1)) (decide (N 7 = 1)) (decide (N 8 = 1)) (decide (N 9 = 1)) k0 k1 k2 k3 k4 k5 k10 (by simp; omega)
                          have e : sameS N M l m xs ys = false := by unfold sameS; rw [optsEq_len (by omega)]; simp
                          rw [e]
                          unfold segL
                          rw [g6, g7, g8, g9]
                          exact g
                      · have e := Bool.eq_false_iff.mpr e9
                        have g9 : decide (M 9 = 1) = !decide (N 9 = 1) := by cases h : decide (M 9 = 1) <;> cases h' : decide (N 9 = 1) <;> first | rfl | (rw [h, h'] at e; cases e)
                        have g := rsame_bad10 N M A B A' B' n1 n2 n3 n4 c d c' d' w (decide (N 6 = 1)) (decide (N 7 = 1)) (decide (N 8 = 1)) (decide (N 9 = 1))  k0 k1 k2 k3 k4 k5 k10
                        have e2 : sameS N M l m xs ys = false := by unfold sameS sameN; rw [e]; simp
                        rw [e2]
                        unfold segL
                        rw [g6, g7, g8, g9]
                        exact g
                    · have e := Bool.eq_false_iff.mpr e8
                      have g8 : decide (M 8 = 1) = !decide (N 8 = 1) := by cases h : decide (M 8 = 1) <;> cases h' : decide (N 8 = 1) <;> first | rfl | (rw [h, h'] at e; cases e)
                      have g := rsame_bad9 N M A B A' B' n1 n2 n3 n4 c d c' d' w (decide (N 6 = 1)) (decide (N 7 = 1)) (decide (N 8 = 1)) (decide (N 9 = 1)) (decide (M 9 = 1)) k0 k1 k2 k3 k4 k5 k10
                      have e2 : sameS N M l m xs ys = false := by unfold sameS sameN; rw [e]; simp
                      rw [e2]
                      unfold segL
                      rw [g6, g7, g8]
                      exact g
                  · have e := Bool.eq_false_iff.mpr e7
                    have g7 : decide (M 7 = 1) = !decide (N 7 = 1) := by cases h : decide (M 7 = 1) <;> cases h' : decide (N 7 = 1) <;> first | rfl | (rw [h, h'] at e; cases e)
                    have g := rsame_bad8 N M A B A' B' n1 n2 n3 n4 c d c' d' w (decide (N 6 = 1)) (decide (N 7 = 1)) (decide (N 8 = 1)) (decide (N 9 = 1)) (decide (M 8 = 1)) (decide (M 9 = 1)) k0 k1 k2 k3 k4 k5 k10
                    have e2 : sameS N M l m xs ys = false := by unfold sameS sameN; rw [e]; simp
                    rw [e2]
                    unfold segL
                    rw [g6, g7]
                    exact g
                · have e := Bool.eq_false_iff.mpr e6
                  have g6 : decide (M 6 = 1) = !decide (N 6 = 1) := by cases h : decide (M 6 = 1) <;> cases h' : decide (N 6 = 1) <;> first | rfl | (rw [h, h'] at e; cases e)
                  have g := rsame_bad7 N M A B A' B' n1 n2 n3 n4 c d c' d' w (decide (N 6 = 1)) (decide (N 7 = 1)) (decide (N 8 = 1)) (decide (N 9 = 1)) (decide (M 7 = 1)) (decide (M 8 = 1)) (decide (M 9 = 1)) k0 k1 k2 k3 k4 k5 k10
                  have e2 : sameS N M l m xs ys = false := by unfold sameS sameN; rw [e]; simp
                  rw [e2]
                  unfold segL
                  rw [g6]
                  exact g
              · have e := Bool.eq_false_iff.mpr e10
                rw [e] at k10
                have g := rsame_bad6 N M A B A' B' n1 n2 n3 n4 c d c' d' w (decide (N 6 = 1)) (decide (N 7 = 1)) (decide (N 8 = 1)) (decide (N 9 = 1)) (decide (M 6 = 1)) (decide (M 7 = 1)) (decide (M 8 = 1)) (decide (M 9 = 1)) k0 k1 k2 k3 k4 k5 k10
                have e2 : sameS N M l m xs ys = false := by unfold sameS sameN; rw [e]; simp
                rw [e2]
                exact g
            · have e := Bool.eq_false_iff.mpr e5
              rw [e] at k5
              have g := rsame_bad5 N M A B A' B' n1 n2 n3 n4 c d c' d' w (decide (N 6 = 1)) (decide (N 7 = 1)) (decide (N 8 = 1)) (decide (N 9 = 1)) (decide (M 6 = 1)) (decide (M 7 = 1)) (decide (M 8 = 1)) (decide (M 9 = 1)) k0 k1 k2 k3 k4 k5
              have e2 : sameS N M l m xs ys = false := by unfold sameS sameN; rw [e]; simp
              rw [e2]
              exact g
          · have e := Bool.eq_false_iff.mpr e4
            rw [e] at k4
            have g := rsame_bad4 N M A B A' B' n1 n2 n3 n4 c d c' d' w (decide (N 6 = 1)) (decide (N 7 = 1)) (decide (N 8 = 1)) (decide (N 9 = 1)) (decide (M 6 = 1)) (decide (M 7 = 1)) (decide (M 8 = 1)) (decide (M 9 = 1)) k0 k1 k2 k3 k4
            have e2 : sameS N M l m xs ys = false := by unfold sameS sameN; rw [e]; simp
            rw [e2]
            exact g
        · have e := Bool.eq_false_iff.mpr e3
          rw [e] at k3
          have g := rsame_bad3 N M A B A' B' n1 n2 n3 n4 c d c' d' w (decide (N 6 = 1)) (decide (N 7 = 1)) (decide (N 8 = 1)) (decide (N 9 = 1)) (decide (M 6 = 1)) (decide (M 7 = 1)) (decide (M 8 = 1)) (decide (M 9 = 1)) k0 k1 k2 k3
          have e2 : sameS N M l m xs ys = false := by unfold sameS sameN; rw [e]; simp
          rw [e2]
          exact g
      · have e := Bool.eq_false_iff.mpr e2
        rw [e] at k2
        have g := rsame_bad2 N M A B A' B' n1 n2 n3 n4 c d c' d' w (decide (N 6 = 1)) (decide (N 7 = 1)) (decide (N 8 = 1)) (decide (N 9 = 1)) (decide (M 6 = 1)) (decide (M 7 = 1)) (decide (M 8 = 1)) (decide (M 9 = 1)) k0 k1 k2
        have e2 : sameS N M l m xs ys = false := by unfold sameS sameN; rw [e]; simp
        rw [e2]
        exact g
    · have e := Bool.eq_false_iff.mpr e1
      rw [e] at k1
      have g := rsame_bad1 N M A B A' B' n1 n2 n3 n4 c d c' d' w (decide (N 6 = 1)) (decide (N 7 = 1)) (decide (N 8 = 1)) (decide (N 9 = 1)) (decide (M 6 = 1)) (decide (M 7 = 1)) (decide (M 8 = 1)) (decide (M 9 = 1)) k0 k1
      have e2 : sameS N M l m xs ys = false := by unfold sameS sameN; rw [e]; simp
      rw [e2]
      exact g
  · have e := Bool.eq_false_iff.mpr e0
    rw [e] at k0
    have g := rsame_bad0 N M A B A' B' n1 n2 n3 n4 c d c' d' w (decide (N 6 = 1)) (decide (N 7 = 1)) (decide (N 8 = 1)) (decide (N 9 = 1)) (decide (M 6 = 1)) (decide (M 7 = 1)) (decide (M 8 = 1)) (decide (M 9 = 1))  k0
    have e2 : sameS N M l m xs ys = false := by unfold sameS sameN; rw [e]; simp
    rw [e2]
    exact g
end Go.Proofs.YthnennleblgjeaaDoor
