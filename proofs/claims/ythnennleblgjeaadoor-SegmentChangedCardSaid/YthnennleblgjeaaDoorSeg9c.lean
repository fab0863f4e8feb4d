/- The document's Same of segments of which a number is unlike: the last numbers. -/
import Derived.Test.YthnennleblgjeaaDoorSeg1
namespace Go.Proofs.YthnennleblgjeaaDoor
open Go.ChangeShapes Go.WideShapes Go.ChangeAt Go.RowKit
set_option linter.unusedVariables false
set_option linter.unusedSimpArgs false
set_option maxHeartbeats 4000000 in
set_option maxRecDepth 100000 in
theorem rsame_bad10 (N M : Nat → Int) (A B A' B' : Option Addr) (n1 n2 n3 n4 c d c' d' : Nat) (w : World) (p6 p7 p8 p9 : Bool) (e0 : (N 0 != M 0) = false) (e1 : (N 1 != M 1) = false) (e2 : (N 2 != M 2) = false) (e3 : (N 3 != M 3) = false) (e4 : (N 4 != M 4) = false) (e5 : (N 5 != M 5) = false) (e10 : (N 10 != M 10) = false) : Calls Tryd.prog 17 #[.agg #[.int .i64 (N 0), .int .i64 (N 1), .int .i64 (N 2), .int .i64 (N 3), .int .u32 (N 4), .int .u32 (N 5), .bool p6, .bool p7, .bool p8, .bool p9, .int .i64 (N 10), .slice A n1 c, .slice B n3 d], .agg #[.int .i64 (M 0), .int .i64 (M 1), .int .i64 (M 2), .int .i64 (M 3), .int .u32 (M 4), .int .u32 (M 5), .bool p6, .bool p7, .bool p8, .bool (!p9), .int .i64 (M 10), .slice A' n2 c', .slice B' n4 d']] w fun r w' => r = .returned (.bool false) ∧ Fine w w' := by
  cases p9
  · go_enter Tryd.func17, Tryd.ntmps17
    simp only [Bool.not_true, Bool.not_false]
    go_wp2_with fail
    go_ret
    exact ⟨rfl, (by repeat (first | exact Fine.refl _ | assumption | refine Fine.alloc ?_ _ | refine Fine.drew ?_ | refine Fine.drewN ?_ _ | refine Fine.trans ?_ (by assumption) | (refine Fine.kept ?_ (by assumption) (by intro x hx; first | omega | (simp; omega))) | (refine Fine.setCell ?_ (by first | assumption | (simp; done) | (simp; omega)) _)))⟩
  · go_enter Tryd.func17, Tryd.ntmps17
    simp only [Bool.not_true, Bool.not_false]
    go_wp2_with fail
    go_ret
    exact ⟨rfl, (by repeat (first | exact Fine.refl _ | assumption | refine Fine.alloc ?_ _ | refine Fine.drew ?_ | refine Fine.drewN ?_ _ | refine Fine.trans ?_ (by assumption) | (refine Fine.kept ?_ (by assumption) (by intro x hx; first | omega | (simp; omega))) | (refine Fine.setCell ?_ (by first | assumption | (simp; done) | (simp; omega)) _)))⟩
set_option maxHeartbeats 4000000 in
set_option maxRecDepth 100000 in
theorem rsame_bad11 (N M : Nat → Int) (A B A' B' : Option Addr) (n1 n2 n3 n4 c d c' d' : Nat) (w : World) (p6 p7 p8 p9 : Bool) (e0 : (N 0 != M 0) = false) (e1 : (N 1 != M 1) = false) (e2 : (N 2 != M 2) = false) (e3 : (N 3 != M 3) = false) (e4 : (N 4 != M 4) = false) (e5 : (N 5 != M 5) = false) (e10 : (N 10 != M 10) = false) (el : ((n1 : Int) != (n2 : Int)) = true) : Calls Tryd.prog 17 #[.agg #[.int .i64 (N 0), .int .i64 (N 1), .int .i64 (N 2), .int .i64 (N 3), .int .u32 (N 4), .int .u32 (N 5), .bool p6, .bool p7, .bool p8, .bool p9, .int .i64 (N 10), .slice A n1 c, .slice B n3 d], .agg #[.int .i64 (M 0), .int .i64 (M 1), .int .i64 (M 2), .int .i64 (M 3), .int .u32 (M 4), .int .u32 (M 5), .bool p6, .bool p7, .bool p8, .bool p9, .int .i64 (M 10), .slice A' n2 c', .slice B' n4 d']] w fun r w' => r = .returned (.bool false) ∧ Fine w w' := by
  go_enter Tryd.func17, Tryd.ntmps17
  go_wp2_with fail
  go_ret
  exact ⟨rfl, (by repeat (first | exact Fine.refl _ | assumption | refine Fine.alloc ?_ _ | refine Fine.drew ?_ | refine Fine.drewN ?_ _ | refine Fine.trans ?_ (by assumption) | (refine Fine.kept ?_ (by assumption) (by intro x hx; first | omega | (simp; omega))) | (refine Fine.setCell ?_ (by first | assumption | (simp; done) | (simp; omega)) _)))⟩
end Go.Proofs.YthnennleblgjeaaDoor
