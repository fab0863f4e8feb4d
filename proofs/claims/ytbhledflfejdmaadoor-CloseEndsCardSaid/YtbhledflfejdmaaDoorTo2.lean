/- The contract of ref.To. -/
import Derived.Test.YtbhledflfejdmaaDoorTo
namespace Go.Proofs.YtbhledflfejdmaaDoor
open Go.ChangeShapes Go.WideShapes Go.ChangeAt Go.RowKit
set_option linter.unusedVariables false
theorem ne_beq {a b : Int} (h : a ≠ b) : (a == b) = false := by simp [h]

set_option maxHeartbeats 2000000 in
theorem to_any (s e : Int) (w : World) : Calls Tryd.prog 9 #[.int .i64 s, .int .i64 e] w fun r w' => r = .returned (.int .i64 (toOf s e)) ∧ Fine w w' := by
  by_cases hs : 0 ≤ s ∧ s < 8
  · have h8 : s = 0 ∨ s = 1 ∨ s = 2 ∨ s = 3 ∨ s = 4 ∨ s = 5 ∨ s = 6 ∨ s = 7 := by omega
    clear hs
    rcases h8 with rfl | rfl | rfl | rfl | rfl | rfl | rfl | rfl
    · by_cases h0 : e = 0
      · subst h0
        have hz : toOf 0 0 = 1 := by decide
        rw [hz]
        clear hz
        go_enter Tryd.func9, Tryd.ntmps9
        go_wp2
        go_ret
        exact ⟨rfl, Fine.refl _⟩
      · by_cases h5 : e = 5
        · subst h5
          have hz : toOf 0 5 = 8 := by decide
          rw [hz]
          clear hz
          go_enter Tryd.func9, Tryd.ntmps9
          go_wp2
          go_ret
          exact ⟨rfl, Fine.refl _⟩
        · have hz : toOf 0 e = -1 := by unfold toOf; (repeat' split) <;> omega
          rw [hz]
          clear hz
          have b0 := ne_beq h0
          have b5 := ne_beq h5
          go_enter Tryd.func9, Tryd.ntmps9
          go_wp2
          go_ret
          exact ⟨rfl, Fine.refl _⟩
    · by_cases h1 : e = 1
      · subst h1
        have hz : toOf 1 1 = 2 := by decide
        rw [hz]
        clear hz
        go_enter Tryd.func9, Tryd.ntmps9
        go_wp2
        go_ret
        exact ⟨rfl, Fine.refl _⟩
      · by_cases h3 : e = 3
        · subst h3
          have hz : toOf 1 3 = 4 := by decide
          rw [hz]
          clear hz
          go_enter Tryd.func9, Tryd.ntmps9
          go_wp2
          go_ret
          exact ⟨rfl, Fine.refl _⟩
        · by_cases h5 : e = 5
          · subst h5
            have hz : toOf 1 5 = 8 := by decide
            rw [hz]
            clear hz
            go_enter Tryd.func9, Tryd.ntmps9
            go_wp2
            go_ret
            exact ⟨rfl, Fine.refl _⟩
          · have hz : toOf 1 e = -1 := by unfold toOf; (repeat' split) <;> omega
            rw [hz]
            clear hz
            have b1 := ne_beq h1
            have b3 := ne_beq h3
            have b5 := ne_beq h5
            go_enter Tryd.func9, Tryd.ntmps9
            go_wp2
            go_ret
            exact ⟨rfl, Fine.refl _⟩
    · by_cases h2 : e = 2
      · subst h2
        have hz : toOf 2 2 = 3 := by decide
        rw [hz]
        clear hz
        go_enter Tryd.func9, Tryd.ntmps9
        go_wp2
        go_ret
        exact ⟨rfl, Fine.refl _⟩
      · by_cases h3 : e = 3
        · subst h3
          have hz : toOf 2 3 = 5 := by decide
          rw [hz]
          clear hz
          go_enter Tryd.func9, Tryd.ntmps9
          go_wp2
          go_ret
          exact ⟨rfl, Fine.refl _⟩
        · by_cases h5 : e = 5
          · subst h5
            have hz : toOf 2 5 = 8 := by decide
            rw [hz]
            clear hz
            go_enter Tryd.func9, Tryd.ntmps9
            go_wp2
            go_ret
            exact ⟨rfl, Fine.refl _⟩
          · have hz : toOf 2 e = -1 := by unfold toOf; (repeat' split) <;> omega
            rw [hz]
            clear hz
            have b2 := ne_beq h2
            have b3 := ne_beq h3
            have b5 := ne_beq h5
            go_enter Tryd.func9, Tryd.ntmps9
            go_wp2
            go_ret
            exact ⟨rfl, Fine.refl _⟩
    · by_cases h3 : e = 3
      · subst h3
        have hz : toOf 3 3 = 7 := by decide
        rw [hz]
        clear hz
        go_enter Tryd.func9, Tryd.ntmps9
        go_wp2
        go_ret
        exact ⟨rfl, Fine.refl _⟩
      · by_cases h5 : e = 5
        · subst h5
          have hz : toOf 3 5 = 8 := by decide
          rw [hz]
          clear hz
          go_enter Tryd.func9, Tryd.ntmps9
          go_wp2
          go_ret
          exact ⟨rfl, Fine.refl _⟩
        · have hz : toOf 3 e = -1 := by unfold toOf; (repeat' split) <;> omega
          rw [hz]
          clear hz
          have b3 := ne_beq h3
          have b5 := ne_beq h5
          go_enter Tryd.func9, Tryd.ntmps9
          go_wp2
          go_ret
          exact ⟨rfl, Fine.refl _⟩
    · by_cases h1 : e = 1
      · subst h1
        have hz : toOf 4 1 = 6 := by decide
        rw [hz]
        clear hz
        go_enter Tryd.func9, Tryd.ntmps9
        go_wp2
        go_ret
        exact ⟨rfl, Fine.refl _⟩
      · by_cases h5 : e = 5
        · subst h5
          have hz : toOf 4 5 = 8 := by decide
          rw [hz]
          clear hz
          go_enter Tryd.func9, Tryd.ntmps9
          go_wp2
          go_ret
          exact ⟨rfl, Fine.refl _⟩
        · have hz : toOf 4 e = -1 := by unfold toOf; (repeat' split) <;> omega
          rw [hz]
          clear hz
          have b1 := ne_beq h1
          have b5 := ne_beq h5
          go_enter Tryd.func9, Tryd.ntmps9
          go_wp2
          go_ret
          exact ⟨rfl, Fine.refl _⟩
    · by_cases h2 : e = 2
      · subst h2
        have hz : toOf 5 2 = 7 := by decide
        rw [hz]
        clear hz
        go_enter Tryd.func9, Tryd.ntmps9
        go_wp2
        go_ret
        exact ⟨rfl, Fine.refl _⟩
      · by_cases h5 : e = 5
        · subst h5
          have hz : toOf 5 5 = 8 := by decide
          rw [hz]
          clear hz
          go_enter Tryd.func9, Tryd.ntmps9
          go_wp2
          go_ret
          exact ⟨rfl, Fine.refl _⟩
        · have hz : toOf 5 e = -1 := by unfold toOf; (repeat' split) <;> omega
          rw [hz]
          clear hz
          have b2 := ne_beq h2
          have b5 := ne_beq h5
          go_enter Tryd.func9, Tryd.ntmps9
          go_wp2
          go_ret
          exact ⟨rfl, Fine.refl _⟩
    · by_cases h2 : e = 2
      · subst h2
        have hz : toOf 6 2 = 7 := by decide
        rw [hz]
        clear hz
        go_enter Tryd.func9, Tryd.ntmps9
        go_wp2
        go_ret
        exact ⟨rfl, Fine.refl _⟩
      · by_cases h5 : e = 5
        · subst h5
          have hz : toOf 6 5 = 8 := by decide
          rw [hz]
          clear hz
          go_enter Tryd.func9, Tryd.ntmps9
          go_wp2
          go_ret
          exact ⟨rfl, Fine.refl _⟩
        · have hz : toOf 6 e = -1 := by unfold toOf; (repeat' split) <;> omega
          rw [hz]
          clear hz
          have b2 := ne_beq h2
          have b5 := ne_beq h5
          go_enter Tryd.func9, Tryd.ntmps9
          go_wp2
          go_ret
          exact ⟨rfl, Fine.refl _⟩
    · by_cases h4 : e = 4
      · subst h4
        have hz : toOf 7 4 = 8 := by decide
        rw [hz]
        clear hz
        go_enter Tryd.func9, Tryd.ntmps9
        go_wp2
        go_ret
        exact ⟨rfl, Fine.refl _⟩
      · by_cases h5 : e = 5
        · subst h5
          have hz : toOf 7 5 = 8 := by decide
          rw [hz]
          clear hz
          go_enter Tryd.func9, Tryd.ntmps9
          go_wp2
          go_ret
          exact ⟨rfl, Fine.refl _⟩
        · have hz : toOf 7 e = -1 := by unfold toOf; (repeat' split) <;> omega
          rw [hz]
          clear hz
          have b4 := ne_beq h4
          have b5 := ne_beq h5
          go_enter Tryd.func9, Tryd.ntmps9
          go_wp2
          go_ret
          exact ⟨rfl, Fine.refl _⟩
  · have hz : toOf s e = -1 := by unfold toOf; (repeat' split) <;> omega
    rw [hz]
    clear hz
    have b0 := ne_beq (show s ≠ 0 by omega)
    have b1 := ne_beq (show s ≠ 1 by omega)
    have b2 := ne_beq (show s ≠ 2 by omega)
    have b3 := ne_beq (show s ≠ 3 by omega)
    have b4 := ne_beq (show s ≠ 4 by omega)
    have b5 := ne_beq (show s ≠ 5 by omega)
    have b6 := ne_beq (show s ≠ 6 by omega)
    have b7 := ne_beq (show s ≠ 7 by omega)
    have h3 : (e = 5 ∧ (e == 5) = true ∧ s < 0) ∨ (e = 5 ∧ (e == 5) = true ∧ 0 ≤ s ∧ 8 ≤ s) ∨ (e ≠ 5 ∧ (e == 5) = false) := by
      by_cases h : e = 5
      · by_cases h0 : 0 ≤ s
        · exact .inr (.inl ⟨h, by simp [h], h0, by omega⟩)
        · exact .inl ⟨h, by simp [h], by omega⟩
      · exact .inr (.inr ⟨h, by simp [h]⟩)
    clear hs
    rcases h3 with ⟨h5, h5b, h0⟩ | ⟨h5, h5b, h0, h8⟩ | ⟨h5, h5b⟩
    all_goals
      go_enter Tryd.func9, Tryd.ntmps9
      go_wp2
      go_ret
      exact ⟨rfl, Fine.refl _⟩
end Go.Proofs.YtbhledflfejdmaaDoor
