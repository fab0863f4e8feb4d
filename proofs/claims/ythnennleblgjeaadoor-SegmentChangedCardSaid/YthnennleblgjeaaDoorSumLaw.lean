/- The laws SumOf, SumGood and SumChanged. -/
import Derived.Test.YthnennleblgjeaaDoorSum3
namespace Go.Proofs.YthnennleblgjeaaDoor
open Go.ChangeShapes Go.WideShapes Go.ChangeAt Go.RowKit
set_option linter.unusedVariables false

theorem putOf_length (l : List Int) : (putOf l).length = (pad l).length + 2 := by unfold putOf; simp [be_length]
theorem putOf_bytes {l : List Int} (h : Bytes l) : Bytes (putOf l) := (pad_bytes h).append (be_bytes 2 _)
theorem great_put {l : List Int} (h : Bytes l) : great false (putOf l) = great false (pad l) + sumOf (pad l) := by
  have hs := sum_bd (pad_bytes h)
  have he := pad_even l
  unfold putOf
  rw [great_append, be2 _ hs]
  simp [great, he]
  omega
theorem good_put {l : List Int} (h : Bytes l) : goodB (putOf l) = true := by
  have hp := pad_even l
  have hl := putOf_length l
  have hg := great_nonneg false (pad l) (pad_bytes h)
  have hs : sumOf (putOf l) = 0 := by
    unfold sumOf
    rw [great_put h]
    unfold sumOf
    rw [told_zero _ (by have := told_bd _ hg; omega)]
    unfold told
    split <;> constructor <;> omega
  unfold goodB
  simp [hs]
  omega
/-- One byte of what is good is changed. -/
theorem good_changed {l : List Int} (h : Bytes l) (hg : goodB l = true) (i : Nat) (hi : i < l.length) (z : Int) (hz : 0 ≤ z ∧ z ≤ 255) (hne : z ≠ l.getD i 0) : goodB (l.set i z) = false := by
  have hx := h.getD i
  have e1 : l = l.take i ++ ([l.getD i 0] ++ l.drop (i + 1)) := by
    have := List.drop_eq_getElem_cons hi
    conv => lhs; rw [← List.take_append_drop i l, this]
    simp [List.getD, hi]
  have e2 : l.set i z = l.take i ++ ([z] ++ l.drop (i + 1)) := by
    rw [List.set_eq_take_append_cons_drop, if_pos hi]; rfl
  have g1 : great false l = great false (l.take i) + great (false ^^ ((l.take i).length % 2 == 1)) ([l.getD i 0] ++ l.drop (i + 1)) := by
    conv => lhs; rw [e1]
    rw [great_append]
  have g2 : great false (l.set i z) = great false (l.take i) + great (false ^^ ((l.take i).length % 2 == 1)) ([z] ++ l.drop (i + 1)) := by rw [e2, great_append]
  have n1 := great_nonneg false l h
  have hb2 : Bytes (l.set i z) := fun x hx' => by
    rcases List.mem_or_eq_of_mem_set hx' with hx' | rfl
    · exact h x hx'
    · exact hz
  have n2 := great_nonneg false (l.set i z) hb2
  unfold goodB at hg ⊢
  simp only [Bool.and_eq_true, decide_eq_true_eq] at hg
  obtain ⟨h2, h3, h4⟩ := hg
  unfold sumOf at h4
  rw [told_zero _ n1] at h4
  have key : sumOf (l.set i z) ≠ 0 := by
    unfold sumOf
    rw [Ne, told_zero _ n2]
    rintro ⟨_, hm⟩
    have hm1 := h4.2
    rw [g2] at hm
    rw [g1] at hm1
    clear g1 g2 e1 e2 n1 n2 h4
    generalize l.getD i 0 = y at hm1 hx hne
    generalize great false (l.take i) = G at hm hm1
    rcases Bool.eq_false_or_eq_true (false ^^ ((l.take i).length % 2 == 1)) with hb | hb
    · rw [hb] at hm hm1
      simp only [List.singleton_append, great] at hm hm1
      simp at hm hm1
      generalize great false (l.drop (i + 1)) = R at hm hm1
      omega
    · rw [hb] at hm hm1
      simp only [List.singleton_append, great] at hm hm1
      simp at hm hm1
      generalize great true (l.drop (i + 1)) = R at hm hm1
      omega
  simp [key]

end Go.Proofs.YthnennleblgjeaaDoor
