/- The laws' example; Reply. -/
import Derived.Test.YthnennleblgjeaaDoorXSeg7
namespace Go.Proofs.YthnennleblgjeaaDoor
set_option linter.unusedVariables false
set_option linter.unusedSimpArgs false
open Go.ChangeShapes Go.WideShapes Go.ChangeAt Go.RowKit
set_option linter.unusedVariables false
theorem zero_right : segRightB zeroN [] [] = true := by kernel_rfl
theorem segB_len {N : Nat → Int} {l : List (Nat → Int)} {xs : List Int} : (segB N l xs).length = 19 + ((l.flatMap optB).length + xs.length) := by
  unfold segB
  rw [List.length_append, List.length_append, headB_len]
theorem putOf_even (l : List Int) : (putOf l).length % 2 = 0 := by
  have := pad_even l
  rw [putOf_length]
  omega
theorem putOf_le (l : List Int) : l.length + 2 ≤ (putOf l).length ∧ (putOf l).length ≤ l.length + 3 := by
  have := pad_le l
  rw [putOf_length]
  omega
theorem bare_len (N : Nat → Int) : (putOf (segB N [] [])).length = 22 := by
  have h1 := putOf_even (segB N [] [])
  have h2 := putOf_le (segB N [] [])
  have h3 : (segB N [] []).length = 19 := by rw [segB_len]; rfl
  omega
set_option maxHeartbeats 2000000 in
set_option maxRecDepth 50000 in
theorem wakes_any (w : World) (hT : TabW w) : Calls Tryd.prog 12 #[] w fun r w' => r = .returned (.bool true) ∧ Fine w w' := by
  have HP := Lib.hid (segPut_any zeroN none none 0 0 0 0 [] [] rfl rfl (by simp) zeroN_ok (fun V hV => by cases hV) w hT (RS.nil_ _ _) (BS.nil_ _))
  go_enter Tryd.func12, Tryd.ntmps12
  go_wp2_with fail
  refine HP.out.mono ?_
  rintro x w2 ⟨f2, ⟨_, v, rfl, o⟩ | ⟨h, _⟩⟩
  · obtain ⟨A, c, rfl, _, _⟩ := o.form
    rw [bare_len]
    clear o HP
    go_wp2_with fail
    go_ret
    exact ⟨rfl, f2⟩
  · rw [zero_right] at h
    cases h
def replyN (N : Nat → Int) : Nat → Int := fun j => match j with | 0 => N 1 | 1 => N 0 | 2 => N 3 | 3 => N 2 | _ => 0
theorem replyN_ok {N : Nat → Int} (h : OkN N) : OkN (replyN N) := fun j hj => by
  match j, hj with
  | 0, _ => exact h 1 (by decide) | 1, _ => exact h 0 (by decide) | 2, _ => exact h 3 (by decide) | 3, _ => exact h 2 (by decide)
  | 4, _ => exact zeroN_ok 4 (by decide) | 5, _ => exact zeroN_ok 5 (by decide) | 6, _ => exact Or.inl rfl | 7, _ => exact Or.inl rfl | 8, _ => exact Or.inl rfl | 9, _ => exact Or.inl rfl | 10, _ => exact zeroN_ok 10 (by decide)
set_option maxHeartbeats 2000000 in
set_option maxRecDepth 50000 in
theorem reply_any (N : Nat → Int) (vo vd : Value) (A B : Option Addr) (n c m d : Nat) (hvo : vo = .slice A n c) (hvd : vd = .slice B m d) (w : World) :
    Calls Tryd.prog 16 #[.agg (segL N vo vd).toArray] w fun r w' => r = .returned (.agg (segL (replyN N) (.slice none 0 0) (.slice none 0 0)).toArray) ∧ Fine w w' := by
  subst hvo hvd
  go_enter Tryd.func16, Tryd.ntmps16
  go_wp2_with fail
  exact bodyPost_ret (v := .agg (segL (replyN N) (.slice none 0 0) (.slice none 0 0)).toArray) (by simp [results, Tryd.results16, go_sem, replyN]) rfl ⟨rfl, (by repeat (first | exact Fine.refl _ | assumption | refine Fine.alloc ?_ _ | refine Fine.drew ?_ | refine Fine.drewN ?_ _ | refine Fine.trans ?_ (by assumption) | (refine Fine.kept ?_ (by assumption) (by intro x hx; first | omega | (simp; omega))) | (refine Fine.setCell ?_ (by first | assumption | (simp; done) | (simp; omega)) _)))⟩
end Go.Proofs.YthnennleblgjeaaDoor
