/- The laws of option: the program's answers are the document's, no program in sight. -/
import Derived.Test.YthnennleblgjeaaDoorOptPlain
namespace Go.Proofs.YthnennleblgjeaaDoor
open Go.ChangeShapes Go.WideShapes Go.ChangeAt Go.RowKit
set_option linter.unusedVariables false
theorem again_big {x : Int} (h : 0 ≤ x ∧ x < 18446744073709551616) : setV .big (num (be 8 x)) = x := by
  simp only [setV]
  rw [num_be8]; omega
theorem again_word {x : Int} (h : 0 ≤ x ∧ x < 4294967296) : setV .word (num (be 4 x)) = x := by
  simp only [setV]
  rw [num_be4]; omega
theorem again_is {x : Int} (h : x = 0 ∨ x = 1) : setV .is (num (be 1 x)) = x := by
  simp only [setV]
  rw [num_be1]
  rcases h with rfl | rfl <;> rfl
theorem again_n1 {x : Int} : setV .n (num (be 1 x)) = x % 256 := by
  simp only [setV]
  rw [num_be1]; unfold wrap64; omega
theorem again_n4 {x : Int} : setV .n (num (be 4 x)) = x % 4294967296 := by
  simp only [setV]
  rw [num_be4]; unfold wrap64; omega
def refRightB (V : Nat → Int) : Bool :=
  !(decide (sizeK (V 0) = 0) || (decide (V 0 = 9) && decide (V 11 < 0))) && ((decide (V 0 = 9) || mayB (V 5) (decide (V 8 = 1)) (V 9) (decide (V 10 = 1)) (V 11) (V 12) (decide (V 13 = 1))) && optEq (parseV (optB V)) V)
theorem right_false {V : Nat → Int} (h : V 0 < 1 ∨ 11 < V 0) : rightF V = false := by
  cases hr : rightF V
  · rfl
  · have := right_kind hr; omega
theorem optEq_p {U V : Nat → Int} (h7 : V 7 = 0 ∨ V 7 = 1) (h8 : V 8 = 0 ∨ V 8 = 1) (h10 : V 10 = 0 ∨ V 10 = 1) (h13 : V 13 = 0 ∨ V 13 = 1) (u7 : U 7 = 0 ∨ U 7 = 1) (u8 : U 8 = 0 ∨ U 8 = 1) (u10 : U 10 = 0 ∨ U 10 = 1) (u13 : U 13 = 0 ∨ U 13 = 1) :
    optEq U V = true ↔ U 0 = V 0 ∧ U 1 = V 1 ∧ U 2 = V 2 ∧ U 3 = V 3 ∧ U 4 = V 4 ∧ U 5 = V 5 ∧ U 6 = V 6 ∧ U 7 = V 7 ∧ U 8 = V 8 ∧ U 9 = V 9 ∧ U 10 = V 10 ∧ U 11 = V 11 ∧ U 12 = V 12 ∧ U 13 = V 13 := by
  have key : ∀ x y : Int, (x = 0 ∨ x = 1) → (y = 0 ∨ y = 1) → ((decide (x = 1) == decide (y = 1)) = true ↔ x = y) := fun x y hx hy => by
    rcases hx with rfl | rfl <;> rcases hy with rfl | rfl <;> simp
  unfold optEq
  simp only [Bool.and_eq_true, beq_iff_eq (α := Int), key _ _ u7 h7, key _ _ u8 h8, key _ _ u10 h10, key _ _ u13 h13]
def Tr (x : Int) : Prop := x = 0 ∨ x = 1
set_option maxHeartbeats 4000000 in
theorem right_ref {V : Nat → Int} (hV : OkV V) : rightF V = refRightB V := by
  by_cases hk : V 0 < 1 ∨ 11 < V 0
  · rw [right_false hk]
    unfold refRightB
    rw [sizeK_out hk]
    simp
  · have hk' : 1 ≤ V 0 ∧ V 0 ≤ 11 := by omega
    have a1 := again_big (hV 1 (by decide))
    have a2 := again_big (hV 2 (by decide))
    have a3 := again_word (hV 3 (by decide))
    have a4 := again_word (hV 4 (by decide))
    have a7 := again_is (hV 7 (by decide))
    have a8 := again_is (hV 8 (by decide))
    have a10 := again_is (hV 10 (by decide))
    have a13 := again_is (hV 13 (by decide))
    have h7 : V 7 = 0 ∨ V 7 = 1 := hV 7 (by decide)
    have h8 : V 8 = 0 ∨ V 8 = 1 := hV 8 (by decide)
    have h10 : V 10 = 0 ∨ V 10 = 1 := hV 10 (by decide)
    have h13 : V 13 = 0 ∨ V 13 = 1 := hV 13 (by decide)
    have hsz : sizeK (V 0) ≠ 0 := by rw [sizeK_width hk']; omega
    unfold rightF refRightB
    rw [parse_optB hk']
    have hcs : V 0 = 1 ∨ V 0 = 2 ∨ V 0 = 3 ∨ V 0 = 4 ∨ V 0 = 5 ∨ V 0 = 6 ∨ V 0 = 7 ∨ V 0 = 8 ∨ V 0 = 9 ∨ V 0 = 10 ∨ V 0 = 11 := by omega
    rcases hcs with e | e | e | e | e | e | e | e | e | e | e
    all_goals
      rw [e] at hsz ⊢
      simp only [fieldsOf, againF, fk, a1, a2, a3, a4, a7, a8, a10, a13, again_n1, again_n4, List.all_cons, List.all_nil, fitsF, List.length_cons, List.length_nil]
      rw [Bool.eq_iff_iff]
      simp only [Bool.and_eq_true]
      rw [optEq_p h7 h8 h10 h13 (by simp [ownV]; try omega) (by simp [ownV]; try omega) (by simp [ownV]; try omega) (by simp [ownV]; try omega), optEq_p h7 h8 h10 h13 (by simp [upd, kindV]; try omega) (by simp [upd, kindV]; try omega) (by simp [upd, kindV]; try omega) (by simp [upd, kindV]; try omega)]
      simp [ownV, upd, kindV, mayB, dataB, e, hsz, Int.reducePow]
      try omega
end Go.Proofs.YthnennleblgjeaaDoor
