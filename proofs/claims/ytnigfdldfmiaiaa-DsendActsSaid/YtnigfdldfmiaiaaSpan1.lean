/- Contracts of span's small functions: to, held, sort.Search. -/
import Derived.Test.YtnigfdldfmiaiaaSpanPlain
import Derived.Test.YtnigfdldfmiaiaaRow
import Derived.Test.YtnigfdldfmiaiaaChecked
import Derived.Test.YtnigfdldfmiaiaaStructs
import Derived.IntWalk
import Derived.Deep.CutBlock
import Derived.Deep.DeepCutAuto
namespace Go.Proofs.Ytnigfdldfmiaiaa
open Go.ChangeShapes Go.WideShapes Go.ChangeAt Go.RowKit
set_option linter.unusedVariables false
set_option linter.unusedSimpArgs false
def layR : Lay Rn 2 := { cs := fun r => [.int .i64 r.1, .int .i64 r.2], len := fun _ => rfl, one := fun r u hu => by simp at hu; rcases hu with rfl | rfl <;> rfl, pos := by decide }
theorem sliceR : SliceTy Try.prog 29 32 2 16 := SliceTy.mk' (z := .agg #[.int .i64 0, .int .i64 0]) Try.underlying29 (by kernel_rfl) rfl
/-- Small enough that sums don't go round. -/
def Sml (r : Rn) : Prop := -4611686018427387904 ≤ r.1 ∧ r.1 ≤ 4611686018427387904 ∧ -4611686018427387904 ≤ r.2 ∧ r.2 ≤ 4611686018427387904
theorem Tidy.sml {l : List Rn} (h : Tidy l) {r : Rn} (hr : r ∈ l) : Sml r := by
  have := h.ok r hr
  unfold rto at this
  exact ⟨by omega, by omega, by omega, by omega⟩
set_option maxHeartbeats 1000000 in
theorem to_any (a b s : Int) (hs : a + b = s) (hb : -9223372036854775808 ≤ s ∧ s ≤ 9223372036854775807) (w : World) : Calls Try.prog 72 #[.agg #[.int .i64 a, .int .i64 b]] w fun r w' => r = .returned (.int .i64 s) ∧ Fine w w' := by
  have e : IntKind.i64.wrap (a + b) = s := by rw [hs]; exact IntWalk.i64_in _ (by omega)
  go_enter Try.func72, Try.ntmps72
  go_wp2_with fail
  go_ret
  exact ⟨by first | rfl | rw [e] | rw [hs], (Fine.refl w).alloc _⟩
set_option maxHeartbeats 2000000 in
set_option maxRecDepth 20000 in
theorem held_any (f n : Int) (hf : -9223372036854775808 ≤ f ∧ f ≤ 9223372036854775807) (hn : -9223372036854775808 ≤ n ∧ n ≤ 9223372036854775807) (w : World) : Calls Try.prog 69 #[.int .i64 f, .int .i64 n] w fun r w' => r = .returned (.agg #[.int .i64 (heldR f n).1, .int .i64 (heldR f n).2]) ∧ Fine w w' := by
  by_cases h1 : f < 0
  · by_cases h2 : 0 < n
    · have h2' : n > 0 := h2
      obtain ⟨s, hs⟩ : ∃ s, n + f = s := ⟨_, rfl⟩
      have e : IntKind.i64.wrap (n + f) = s := by rw [hs]; exact IntWalk.i64_in _ (by omega)
      have hsb : -9223372036854775808 ≤ s ∧ s ≤ 9223372036854775807 := by omega
      by_cases h3 : s ≤ 0
      · have E : heldR f n = (0, 0) := by unfold heldR; rw [if_pos ⟨h1, h2⟩, hs, if_pos h3]
        rw [E]
        clear E h2 hf hn
        go_enter Try.func69, Try.ntmps69
        go_wp2_with fail
        all_goals exact bodyPost_ret (v := .agg #[.int .i64 0, .int .i64 0]) (by simp [results, Try.results69, go_sem]) rfl ⟨rfl, (Fine.refl w).alloc _⟩
      · by_cases h4 : s ≤ 4294967296
        · have E : heldR f n = (0, s) := by unfold heldR; rw [if_pos ⟨h1, h2⟩, hs, if_neg h3, Int.min_eq_left h4]
          rw [E]
          clear E h2 hf hn
          go_enter Try.func69, Try.ntmps69
          go_wp2_with fail
          all_goals exact bodyPost_ret (v := .agg #[.int .i64 0, .int .i64 s]) (by simp [results, Try.results69, go_sem]) rfl ⟨rfl, (Fine.refl w).alloc _⟩
        · have h4' : 4294967296 < s := by omega
          have E : heldR f n = (0, 4294967296) := by unfold heldR; rw [if_pos ⟨h1, h2⟩, hs, if_neg h3, Int.min_eq_right (by omega)]
          rw [E]
          clear E h2 hf hn h4
          go_enter Try.func69, Try.ntmps69
          go_wp2_with fail
          all_goals exact bodyPost_ret (v := .agg #[.int .i64 0, .int .i64 4294967296]) (by simp [results, Try.results69, go_sem]) rfl ⟨rfl, (Fine.refl w).alloc _⟩
    · have h2' : ¬ n > 0 := h2
      have h3 : n ≤ 0 := by omega
      have E : heldR f n = (0, 0) := by unfold heldR; rw [if_neg (by omega), if_pos (Or.inl h3)]
      rw [E]
      clear E h2 hf hn
      go_enter Try.func69, Try.ntmps69
      go_wp2_with fail
      all_goals exact bodyPost_ret (v := .agg #[.int .i64 0, .int .i64 0]) (by simp [results, Try.results69, go_sem]) rfl ⟨rfl, (Fine.refl w).alloc _⟩
  · by_cases h2 : n ≤ 0
    · have E : heldR f n = (0, 0) := by unfold heldR; rw [if_neg (by omega), if_pos (Or.inl h2)]
      rw [E]
      clear E hf hn
      go_enter Try.func69, Try.ntmps69
      go_wp2_with fail
      all_goals exact bodyPost_ret (v := .agg #[.int .i64 0, .int .i64 0]) (by simp [results, Try.results69, go_sem]) rfl ⟨rfl, (Fine.refl w).alloc _⟩
    · by_cases h3 : 4294967296 ≤ f
      · have h3' : f ≥ 4294967296 := h3
        have E : heldR f n = (0, 0) := by unfold heldR; rw [if_neg (by omega), if_pos (Or.inr h3)]
        rw [E]
        clear E hf hn h3
        go_enter Try.func69, Try.ntmps69
        go_wp2_with fail
        all_goals exact bodyPost_ret (v := .agg #[.int .i64 0, .int .i64 0]) (by simp [results, Try.results69, go_sem]) rfl ⟨rfl, (Fine.refl w).alloc _⟩
      · obtain ⟨q, hq⟩ : ∃ q, 4294967296 - f = q := ⟨_, rfl⟩
        have e : IntKind.i64.wrap (4294967296 - f) = q := by rw [hq]; exact IntWalk.i64_in _ (by omega)
        have h3' : ¬ f ≥ 4294967296 := h3
        have hqb : 0 ≤ q ∧ q ≤ 4294967296 := by omega
        by_cases h4 : n ≤ q
        · have E : heldR f n = (f, n) := by unfold heldR; rw [if_neg (by omega), if_neg (by omega), hq, Int.min_eq_left h4]
          rw [E]
          clear E hf hn h3 hqb
          go_enter Try.func69, Try.ntmps69
          go_wp2_with fail
          all_goals exact bodyPost_ret (v := .agg #[.int .i64 f, .int .i64 n]) (by simp [results, Try.results69, go_sem]) rfl ⟨rfl, (Fine.refl w).alloc _⟩
        · have h4' : q < n := by omega
          have E : heldR f n = (f, q) := by unfold heldR; rw [if_neg (by omega), if_neg (by omega), hq, Int.min_eq_right (by omega)]
          rw [E]
          clear E hf hn h3 h4 hqb
          go_enter Try.func69, Try.ntmps69
          go_wp2_with fail
          all_goals exact bodyPost_ret (v := .agg #[.int .i64 f, .int .i64 q]) (by simp [results, Try.results69, go_sem]) rfl ⟨rfl, (Fine.refl w).alloc _⟩
end Go.Proofs.Ytnigfdldfmiaiaa
