/- Contracts of the functions of package serial and of its reference. -/
import Derived.Test.YtkhiippnebjjmaaRows
import Derived.Test.YtkhiippnebjjmaaPlain
import Derived.Test.YtkhiippnebjjmaaFine
import Derived.WalkKit
import Derived.ProofKit
import Derived.OpenShut
import Derived.Lib.Hide
namespace Go.Proofs.Ytkhiippnebjjmaa
open Go.ChangeShapes Go.WideShapes Go.ChangeAt Go.RowKit
set_option linter.unusedVariables false

theorem steps_any (a b : Int) (w : World) :
    Calls Try.prog 17 #[.agg #[.int .u32 a], .int .u32 b] w fun e w' => e = .returned (.int .u32 (dist a b)) ∧ Fine w w' := by
  go_enter Try.func17, Try.ntmps17
  go_wp2
  go_ret
  exact ⟨rfl, (by repeat (first | exact Fine.refl _ | assumption | refine Fine.alloc ?_ _ | refine Fine.drew ?_ | refine Fine.trans ?_ (by assumption)))⟩

theorem long_any (a b : Int) (w : World) :
    Calls Try.prog 16 #[.agg #[.int .u32 a, .int .u32 b]] w fun e w' => e = .returned (.int .u32 (dist a b)) ∧ Fine w w' := by
  go_enter Try.func16, Try.ntmps16
  go_wp2_with (go_at_call 17; refine (steps_any _ _ _).mono ?_; rintro e w' ⟨rfl, hg⟩)
  go_ret
  exact ⟨rfl, (by repeat (first | exact Fine.refl _ | assumption | refine Fine.alloc ?_ _ | refine Fine.drew ?_ | refine Fine.trans ?_ (by assumption)))⟩

theorem Steps_any (a b : Int) (w : World) :
    Calls Try.prog 9 #[.int .u32 a, .int .u32 b] w fun e w' => e = .returned (.int .i64 (dist a b)) ∧ Fine w w' := by
  have hd := dist_bd a b
  go_enter Try.func9, Try.ntmps9
  go_wp2_with (go_at_call 16; refine (long_any _ _ _).mono ?_; rintro e w' ⟨rfl, hg⟩)
  go_ret
  exact ⟨rfl, (by repeat (first | exact Fine.refl _ | assumption | refine Fine.alloc ?_ _ | refine Fine.drew ?_ | refine Fine.trans ?_ (by assumption)))⟩

theorem Before_any (a b : Int) (w : World) :
    Calls Try.prog 10 #[.int .u32 a, .int .u32 b] w fun e w' => e = .returned (.bool (bef a b)) ∧ Fine w w' := by
  have hd := dist_bd a b
  go_enter Try.func10, Try.ntmps10
  go_wp2_with (go_at_call 16; refine (long_any _ _ _).mono ?_; rintro e w' ⟨rfl, hg⟩)
  · go_ret
    exact ⟨ret_bool (by unfold bef; simp [*]), (by repeat (first | exact Fine.refl _ | assumption | refine Fine.alloc ?_ _ | refine Fine.drew ?_ | refine Fine.trans ?_ (by assumption)))⟩
  · go_ret
    exact ⟨ret_bool (by have h : dist a b ≤ 0 := by assumption
                        unfold bef; simp; omega), (by repeat (first | exact Fine.refl _ | assumption | refine Fine.alloc ?_ _ | refine Fine.drew ?_ | refine Fine.trans ?_ (by assumption)))⟩

theorem On_any (a n : Int) (w : World) :
    Calls Try.prog 8 #[.int .u32 a, .int .i64 n] w fun e w' => e = .returned (.int .u32 (on a n)) ∧ Fine w w' := by
  go_enter Try.func8, Try.ntmps8
  go_wp2
  go_ret
  exact ⟨ret_int (by unfold on; simp [go_sem] <;> omega), (by repeat (first | exact Fine.refl _ | assumption | refine Fine.alloc ?_ _ | refine Fine.drew ?_ | refine Fine.trans ?_ (by assumption)))⟩

theorem In_any (x f n : Int) (w : World) :
    Calls Try.prog 11 #[.int .u32 x, .int .u32 f, .int .i64 n] w fun e w' => e = .returned (.bool (decide (dist f x < n))) ∧ Fine w w' := by
  have hd := dist_bd f x
  go_enter Try.func11, Try.ntmps11
  go_wp2_with (go_at_call 9; refine (Steps_any _ _ _).mono ?_; rintro e w' ⟨rfl, hg⟩)
  go_ret
  exact ⟨rfl, (by repeat (first | exact Fine.refl _ | assumption | refine Fine.alloc ?_ _ | refine Fine.drew ?_ | refine Fine.trans ?_ (by assumption)))⟩

theorem Later_any (a b : Int) (w : World) :
    Calls Try.prog 12 #[.int .u32 a, .int .u32 b] w fun e w' => e = .returned (.int .u32 (later a b)) ∧ Fine w w' := by
  go_enter Try.func12, Try.ntmps12
  go_wp2_with (go_at_call 10; refine (Before_any _ _ _).mono ?_; rintro e w' ⟨rfl, hg⟩)
  · go_ret
    exact ⟨ret_int (by unfold later; simp [*]), (by repeat (first | exact Fine.refl _ | assumption | refine Fine.alloc ?_ _ | refine Fine.drew ?_ | refine Fine.trans ?_ (by assumption)))⟩
  · go_ret
    exact ⟨ret_int (by unfold later; simp [*]), (by repeat (first | exact Fine.refl _ | assumption | refine Fine.alloc ?_ _ | refine Fine.drew ?_ | refine Fine.trans ?_ (by assumption)))⟩

theorem wakes_any (w : World) :
    Calls Try.prog 7 #[] w fun e w' => e = .returned (.bool true) ∧ Fine w w' := by
  have h1 : bef 4294967295 3 = true := by decide
  have h2 : bef 3 3 = false := by decide
  go_enter Try.func7, Try.ntmps7
  go_wp2_with (go_at_call 10; refine (Before_any _ _ _).mono ?_; rintro e w' ⟨rfl, hg⟩)
  go_ret
  exact ⟨rfl, (by repeat (first | exact Fine.refl _ | assumption | refine Fine.alloc ?_ _ | refine Fine.drew ?_ | refine Fine.trans ?_ (by assumption)))⟩

theorem rSteps_any (a b : Int) (ha : 0 ≤ a ∧ a < 4294967296) (hb : 0 ≤ b ∧ b < 4294967296) (w : World) :
    Calls Try.prog 14 #[.int .u32 a, .int .u32 b] w fun e w' => e = .returned (.int .i64 (dist a b)) ∧ Fine w w' := by
  have HD := Lib.hid (dist_ref a b ha hb)
  go_enter Try.func14, Try.ntmps14
  go_wp2
  all_goals
    go_ret
    exact ⟨ret_int (by rw [HD.out]; split <;> omega), (by repeat (first | exact Fine.refl _ | assumption | refine Fine.alloc ?_ _ | refine Fine.drew ?_ | refine Fine.trans ?_ (by assumption)))⟩

theorem rBefore_any (a b : Int) (ha : 0 ≤ a ∧ a < 4294967296) (hb : 0 ≤ b ∧ b < 4294967296) (w : World) :
    Calls Try.prog 13 #[.int .u32 a, .int .u32 b] w fun e w' => e = .returned (.bool (bef a b)) ∧ Fine w w' := by
  have hd := dist_bd a b
  go_enter Try.func13, Try.ntmps13
  go_wp2_with (go_at_call 14; refine (rSteps_any _ _ ha hb _).mono ?_; rintro e w' ⟨rfl, hg⟩)
  · go_ret
    exact ⟨ret_bool (by unfold bef; have h : 1 ≤ dist a b := by assumption
                        simp; omega), (by repeat (first | exact Fine.refl _ | assumption | refine Fine.alloc ?_ _ | refine Fine.drew ?_ | refine Fine.trans ?_ (by assumption)))⟩
  · go_ret
    exact ⟨ret_bool (by unfold bef; have h : dist a b < 1 := by assumption
                        simp; omega), (by repeat (first | exact Fine.refl _ | assumption | refine Fine.alloc ?_ _ | refine Fine.drew ?_ | refine Fine.trans ?_ (by assumption)))⟩


theorem rOn_any (a n : Int) (ha : 0 ≤ a ∧ a < 4294967296) (w : World) :
    Calls Try.prog 15 #[.int .u32 a, .int .i64 n] w fun e w' => e = .returned (.int .u32 (on a n)) ∧ Fine w w' := by
  have HD := Lib.hid (on_ref a n ha)
  have hm := tmod_bd n
  have hn := on_bd a n
  go_enter Try.func15, Try.ntmps15
  go_wp2
  · go_ret
    have h : n.tmod 4294967296 < 0 := by assumption
    have e := HD.out
    rw [if_pos h, Int.tmod_eq_emod_of_nonneg (by omega)] at e
    exact ⟨ret_int (by rw [← e]), (by repeat (first | exact Fine.refl _ | assumption | refine Fine.alloc ?_ _ | refine Fine.drew ?_ | refine Fine.trans ?_ (by assumption)))⟩
  · go_ret
    have h : 0 ≤ n.tmod 4294967296 := by assumption
    have e := HD.out
    rw [if_neg (by omega), Int.tmod_eq_emod_of_nonneg (by omega)] at e
    exact ⟨ret_int (by rw [← e]), (by repeat (first | exact Fine.refl _ | assumption | refine Fine.alloc ?_ _ | refine Fine.drew ?_ | refine Fine.trans ?_ (by assumption)))⟩

theorem lawSerialGoes (a : Int) (wa : (Lit.int .u32 a).wf = true) (b : Int) (wb : (Lit.int .u32 b).wf = true) (w : World) :
    Calls Try.prog 3 #[.int .u32 a, .int .u32 b] w fun e w' => e = .returned (.bool true) ∧ Below w.heap.size w w' := by
  have ha := bounds_u32 wa
  have hb := bounds_u32 wb
  have hd := dist_bd a b
  have e1 := on_dist a b (by omega)
  have e2 := on_neg a b (by omega)
  have hs : a = b → bef a b = false ∧ bef b a = false := by rintro rfl; exact ⟨bef_self a, bef_self a⟩
  have hh := bef_half a b
  have ho := bef_other a b (by omega) (by omega)
  show Calls _ _ _ _ fun e w' => e = .returned (.bool true) ∧ Fine w w'
  by_cases hab : a = b
  · obtain ⟨f1, f2⟩ := hs hab
    have hab' : (a == b) = true := by simpa using hab
    clear hs hh ho hab
    go_enter Try.func3, Try.ntmps3
    go_wp2_with (first | (go_at_call 7; refine (wakes_any _).mono ?_; rintro e w' ⟨rfl, hg⟩) | (go_at_call 8; refine (On_any _ _ _).mono ?_; rintro e w' ⟨rfl, hg⟩) | (go_at_call 9; refine (Steps_any _ _ _).mono ?_; rintro e w' ⟨rfl, hg⟩) | (go_at_call 10; refine (Before_any _ _ _).mono ?_; rintro e w' ⟨rfl, hg⟩))
    go_ret
    exact ⟨rfl, (by repeat (first | exact Fine.refl _ | assumption | refine Fine.alloc ?_ _ | refine Fine.drew ?_ | refine Fine.trans ?_ (by assumption)))⟩
  · have hab' : (a == b) = false := by simpa using hab
    by_cases hhalf : dist a b = 2147483648
    · obtain ⟨f1, f2⟩ := hh hhalf
      have hh' : (dist a b == 2147483648) = true := by simpa using hhalf
      clear hs hh ho hab hhalf
      go_enter Try.func3, Try.ntmps3
      go_wp2_with (first | (go_at_call 7; refine (wakes_any _).mono ?_; rintro e w' ⟨rfl, hg⟩) | (go_at_call 8; refine (On_any _ _ _).mono ?_; rintro e w' ⟨rfl, hg⟩) | (go_at_call 9; refine (Steps_any _ _ _).mono ?_; rintro e w' ⟨rfl, hg⟩) | (go_at_call 10; refine (Before_any _ _ _).mono ?_; rintro e w' ⟨rfl, hg⟩))
      go_ret
      exact ⟨rfl, (by repeat (first | exact Fine.refl _ | assumption | refine Fine.alloc ?_ _ | refine Fine.drew ?_ | refine Fine.trans ?_ (by assumption)))⟩
    · have hh' : (dist a b == 2147483648) = false := by simpa using hhalf
      have ho' := ho hab hhalf
      clear hs hh ho hab hhalf
      have hne : (bef a b != !bef a b) = true := by cases bef a b <;> rfl
      go_enter Try.func3, Try.ntmps3
      go_wp2_with (first | (go_at_call 7; refine (wakes_any _).mono ?_; rintro e w' ⟨rfl, hg⟩) | (go_at_call 8; refine (On_any _ _ _).mono ?_; rintro e w' ⟨rfl, hg⟩) | (go_at_call 9; refine (Steps_any _ _ _).mono ?_; rintro e w' ⟨rfl, hg⟩) | (go_at_call 10; refine (Before_any _ _ _).mono ?_; rintro e w' ⟨rfl, hg⟩))
      all_goals
        go_ret
        exact ⟨ret_bool (by simp), (by repeat (first | exact Fine.refl _ | assumption | refine Fine.alloc ?_ _ | refine Fine.drew ?_ | refine Fine.trans ?_ (by assumption)))⟩

theorem lawSerialTurns (a : Int) (wa : (Lit.int .u32 a).wf = true) (b : Int) (wb : (Lit.int .u32 b).wf = true) (n : Int) (wn : (Lit.int .i64 n).wf = true) (w : World) :
    Calls Try.prog 5 #[.int .u32 a, .int .u32 b, .int .i64 n] w fun e w' => e = .returned (.bool true) ∧ Below w.heap.size w w' := by
  have e1 := dist_on a b n
  have e2 := bef_on a b n
  have e3 := later_on a b n
  clear wa wb wn
  show Calls _ _ _ _ fun e w' => e = .returned (.bool true) ∧ Fine w w'
  go_enter Try.func5, Try.ntmps5
  go_wp2_with (first | (go_at_call 7; refine (wakes_any _).mono ?_; rintro e w' ⟨rfl, hg⟩) | (go_at_call 8; refine (On_any _ _ _).mono ?_; rintro e w' ⟨rfl, hg⟩) | (go_at_call 9; refine (Steps_any _ _ _).mono ?_; rintro e w' ⟨rfl, hg⟩) | (go_at_call 10; refine (Before_any _ _ _).mono ?_; rintro e w' ⟨rfl, hg⟩) | (go_at_call 12; refine (Later_any _ _ _).mono ?_; rintro e w' ⟨rfl, hg⟩))
  go_ret
  exact ⟨rfl, (by repeat (first | exact Fine.refl _ | assumption | refine Fine.alloc ?_ _ | refine Fine.drew ?_ | refine Fine.trans ?_ (by assumption)))⟩

theorem lawSerialIn (f : Int) (wf : (Lit.int .u32 f).wf = true) (n : Int) (wn : (Lit.int .u16 n).wf = true) (w : World) :
    Calls Try.prog 4 #[.int .u32 f, .int .u16 n] w fun e w' => e = .returned (.bool true) ∧ Below w.heap.size w w' := by
  have hf := bounds_u32 wf
  have hn := bounds_u16 wn
  have e0 : dist f f = 0 := by unfold dist; simp
  have e1 : dist f (on f (-1)) = 4294967295 := by unfold dist on; omega
  have e2 : dist f (on f n) = n := by unfold dist on; omega
  have e3 : 1 ≤ n → dist f (on f (n - 1)) = n - 1 := by intro h; unfold dist on; omega
  show Calls _ _ _ _ fun e w' => e = .returned (.bool true) ∧ Fine w w'
  by_cases h0 : n = 0
  · subst h0
    clear wf wn e3
    go_enter Try.func4, Try.ntmps4
    go_wp2_with (first | (go_at_call 7; refine (wakes_any _).mono ?_; rintro e w' ⟨rfl, hg⟩) | (go_at_call 8; refine (On_any _ _ _).mono ?_; rintro e w' ⟨rfl, hg⟩) | (go_at_call 11; refine (In_any _ _ _ _).mono ?_; rintro e w' ⟨rfl, hg⟩))
    go_ret
    exact ⟨rfl, (by repeat (first | exact Fine.refl _ | assumption | refine Fine.alloc ?_ _ | refine Fine.drew ?_ | refine Fine.trans ?_ (by assumption)))⟩
  · have e4 := e3 (by omega)
    have hp : 0 < n := by omega
    have hz : (n == 0) = false := by simpa using h0
    clear wf wn e3 h0
    go_enter Try.func4, Try.ntmps4
    go_wp2_with (first | (go_at_call 7; refine (wakes_any _).mono ?_; rintro e w' ⟨rfl, hg⟩) | (go_at_call 8; refine (On_any _ _ _).mono ?_; rintro e w' ⟨rfl, hg⟩) | (go_at_call 11; refine (In_any _ _ _ _).mono ?_; rintro e w' ⟨rfl, hg⟩))
    go_ret
    exact ⟨ret_bool (by simp; omega), (by repeat (first | exact Fine.refl _ | assumption | refine Fine.alloc ?_ _ | refine Fine.drew ?_ | refine Fine.trans ?_ (by assumption)))⟩

theorem lawSerialSays (a : Int) (wa : (Lit.int .u32 a).wf = true) (b : Int) (wb : (Lit.int .u32 b).wf = true) (n : Int) (wn : (Lit.int .i64 n).wf = true) (w : World) :
    Calls Try.prog 6 #[.int .u32 a, .int .u32 b, .int .i64 n] w fun e w' => e = .returned (.bool true) ∧ Below w.heap.size w w' := by
  have ha := bounds_u32 wa
  have hb := bounds_u32 wb
  have hd := dist_bd a b
  have hl : later a b = if bef a b = true then b else a := rfl
  clear wa wb wn
  show Calls _ _ _ _ fun e w' => e = .returned (.bool true) ∧ Fine w w'
  cases hbe : bef a b
  all_goals
    simp [hbe] at hl
    go_enter Try.func6, Try.ntmps6
    go_wp2_with (first | (go_at_call 7; refine (wakes_any _).mono ?_; rintro e w' ⟨rfl, hg⟩) | (go_at_call 8; refine (On_any _ _ _).mono ?_; rintro e w' ⟨rfl, hg⟩) | (go_at_call 9; refine (Steps_any _ _ _).mono ?_; rintro e w' ⟨rfl, hg⟩) | (go_at_call 10; refine (Before_any _ _ _).mono ?_; rintro e w' ⟨rfl, hg⟩) | (go_at_call 12; refine (Later_any _ _ _).mono ?_; rintro e w' ⟨rfl, hg⟩) | (go_at_call 11; refine (In_any _ _ _ _).mono ?_; rintro e w' ⟨rfl, hg⟩) | (go_at_call 13; refine (rBefore_any _ _ (by omega) (by omega) _).mono ?_; rintro e w' ⟨rfl, hg⟩) | (go_at_call 14; refine (rSteps_any _ _ (by omega) (by omega) _).mono ?_; rintro e w' ⟨rfl, hg⟩) | (go_at_call 15; refine (rOn_any _ _ (by omega) _).mono ?_; rintro e w' ⟨rfl, hg⟩))
    go_ret
    exact ⟨ret_bool (by simp), (by repeat (first | exact Fine.refl _ | assumption | refine Fine.alloc ?_ _ | refine Fine.drew ?_ | refine Fine.trans ?_ (by assumption)))⟩
end Go.Proofs.Ytkhiippnebjjmaa
