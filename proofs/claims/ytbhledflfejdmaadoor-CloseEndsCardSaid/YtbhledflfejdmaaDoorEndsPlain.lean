/- Plain law of CloseEnds: each state but the first one comes to its end, and stays there; each step leads. -/
import Derived.Test.YtbhledflfejdmaaDoorPaths
namespace Go.Proofs.YtbhledflfejdmaaDoor
set_option linter.unusedVariables false

def nxt (s e : Int) : Int := (stepOf s e).1
theorem nxt_led (s e : Int) (h0 : 0 ≤ e) (h5 : e ≤ 5) : refLed s (nxt s e) = true := by
  rw [led_eq]
  unfold nxt
  have hs := step_to s e
  by_cases hp : 0 ≤ toOf s e
  · rw [if_pos hp] at hs
    have : ledTo s (stepOf s e).1 = true := by
      unfold ledTo
      refine any_hit 6 e.toNat _ (by omega) ?_
      rw [Int.toNat_of_nonneg h0, hs]
      simp
    rw [this]; simp
  · rw [if_neg hp] at hs
    rw [hs]; simp
theorem nxt_bd (s e : Int) (h1 : 1 ≤ s) (h8 : s ≤ 8) : 1 ≤ nxt s e ∧ nxt s e ≤ 8 := by
  unfold nxt stepOf tabZ
  simp only [look]
  repeat' split
  all_goals simp
  all_goals omega
/-- Closing, acknowledging, the other one's end, the waiting's. -/
def four (s : Int) : Int := nxt (nxt (nxt (nxt s 1) 2) 3) 4
theorem six (s : Int) (h1 : 1 ≤ s) (h8 : s ≤ 8) : four (four (four (four (four (four s))))) = 8 := by
  have h : s = 1 ∨ s = 2 ∨ s = 3 ∨ s = 4 ∨ s = 5 ∨ s = 6 ∨ s = 7 ∨ s = 8 := by omega
  rcases h with rfl | rfl | rfl | rfl | rfl | rfl | rfl | rfl <;> decide
theorem stays (e : Int) : stepOf 8 e = (8, false) := by
  unfold stepOf tabZ
  simp [look]
theorem pathTo_snoc (l : List Int) (x y : Int) (hl : l ≠ []) (hx : l.getD (l.length - 1) 0 = x) (h : pathTo l (l.length - 1) = true) (hxy : refLed x y = true) : pathTo (l ++ [y]) ((l ++ [y]).length - 1) = true := by
  have hp : 0 < l.length := List.length_pos_iff.2 hl
  have e : (l ++ [y]).length - 1 = (l.length - 1) + 1 := by simp; omega
  rw [e, path_succ]
  have e1 : (l ++ [y]).getD (l.length - 1) 0 = x := by rw [← hx]; simp [List.getD, List.getElem?_append_left (show l.length - 1 < l.length by omega)]
  have e2 : (l ++ [y]).getD (l.length - 1 + 1) 0 = y := by rw [show l.length - 1 + 1 = l.length by omega]; simp [List.getD]
  rw [e1, e2, hxy, Bool.and_true]
  unfold pathTo at h ⊢
  rw [List.all_eq_true] at h ⊢
  intro k hk
  have hk' := List.mem_range.1 hk
  have h2 := h k hk
  simp only [List.getD] at h2 ⊢
  rw [List.getElem?_append_left (by omega), List.getElem?_append_left (by omega)]
  exact h2
end Go.Proofs.YtbhledflfejdmaaDoor
