/- Contracts of close.leads and ref.Leads, and that they say the same. -/
import Derived.Test.YtbhledflfejdmaaDoorTo2
namespace Go.Proofs.YtbhledflfejdmaaDoor
open Go.ChangeShapes Go.WideShapes Go.ChangeAt Go.RowKit
set_option linter.unusedVariables false

def ledTo (s t : Int) : Bool := (List.range 6).any fun k => decide (stepOf s (k : Int) = (t, true))
def refLed (a b : Int) : Bool := ((List.range 6).any fun k => decide (toOf a (k : Int) = b ∧ 0 ≤ b)) || decide (a = b)
theorem any_succ (n : Nat) (f : Nat → Bool) : (List.range (n + 1)).any f = ((List.range n).any f || f n) := by rw [List.range_succ]; simp
theorem any_hit (n k : Nat) (f : Nat → Bool) (hk : k < n) (h : f k = true) : (List.range n).any f = true := List.any_eq_true.2 ⟨k, List.mem_range.2 hk, h⟩
theorem led_eq (a b : Int) : refLed a b = (decide (a = b) || ledTo a b) := by
  unfold refLed ledTo
  have h : ∀ k : Nat, decide (toOf a (k : Int) = b ∧ 0 ≤ b) = decide (stepOf a (k : Int) = (b, true)) := by
    intro k
    rw [step_to]
    by_cases hp : 0 ≤ toOf a k
    · rw [if_pos hp]
      by_cases e : toOf a k = b
      · subst e; simp [hp]
      · simp [e]
    · rw [if_neg hp]
      by_cases e : toOf a k = b
      · subst e; simp [hp]
      · simp [e]
  simp only [h]
  rw [Bool.or_comm]

set_option maxHeartbeats 1000000 in
theorem leads_any (s t : Int) (w : World) (hT : Tab w) : Calls Tryd.prog 14 #[.int .i64 s, .int .i64 t] w fun r w' => r = .returned (.bool (ledTo s t)) ∧ Fine w w' := by
  have HT := Lib.hid hT
  clear hT
  obtain ⟨z, hz⟩ : ∃ z, ledTo s t = z := ⟨_, rfl⟩
  rw [hz]
  have HZ := Lib.hid hz
  clear hz
  go_enter Tryd.func14, Tryd.ntmps14
  go_wp2
  go_loopw [8] (fun i wr => ∃ k : Nat, k ≤ 6 ∧ i = .int .i64 k ∧ Hid ((List.range k).any (fun k => decide (stepOf s (k : Int) = (t, true))) = false) ∧ Fine w wr) (fun i _ => 6 - (intOf i).toNat)
  case atStart => exact ⟨0, by omega, rfl, rfl, Fine.refl _⟩
  case round =>
    obtain ⟨k, hk, rfl, HL, hf⟩ := hrel
    by_cases hlt : k < 6
    · obtain ⟨t', is, hst⟩ : ∃ t' is, stepOf s (k : Int) = (t', is) := ⟨_, _, rfl⟩
      have HS := Lib.hid hst
      clear hst
      cases is with
      | false =>
        have HN : Hid ((List.range (k + 1)).any (fun k => decide (stepOf s (k : Int) = (t, true))) = false) := by
          show _ = _
          rw [any_succ, HL.out, HS.out]; simp
        clear HL
        go_wp2_with fail
        refine (step_any s k _ (HT.out.fine hf)).mono ?_; rintro r w2 ⟨rfl, f2⟩
        rw [HS.out]
        go_wp2
        go_roundw
        case rel => exact ⟨k + 1, by omega, by go_num, HN, hf.trans f2⟩
        case measure => simp [intOf]; omega
      | true =>
        by_cases ht : t' = t
        · have HZ1 : Hid (z = true) := by
            show _ = _
            rw [← HZ.out]
            exact any_hit 6 k _ hlt (by rw [HS.out, ht]; simp)
          subst ht
          clear HL HZ
          go_wp2_with fail
          refine (step_any s k _ (HT.out.fine hf)).mono ?_; rintro r w2 ⟨rfl, f2⟩
          rw [HS.out]
          go_wp2
          go_ret
          exact ⟨ret_bool HZ1.out.symm, hf.trans f2⟩
        · have HN : Hid ((List.range (k + 1)).any (fun k => decide (stepOf s (k : Int) = (t, true))) = false) := by
            show _ = _
            rw [any_succ, HL.out, HS.out]; simp [ht]
          have htb : (t' == t) = false := by simp [ht]
          clear HL
          go_wp2_with fail
          refine (step_any s k _ (HT.out.fine hf)).mono ?_; rintro r w2 ⟨rfl, f2⟩
          rw [HS.out]
          go_wp2
          go_roundw
          case rel => exact ⟨k + 1, by omega, by go_num, HN, hf.trans f2⟩
          case measure => simp [intOf]; omega
    · have e : k = 6 := by omega
      subst e
      have HZ1 : Hid (z = false) := by show _ = _; rw [← HZ.out]; exact HL.out
      clear HL HZ
      go_wp2
      go_ret
      exact ⟨ret_bool HZ1.out.symm, hf⟩

set_option maxHeartbeats 1000000 in
theorem refleads_any (s t : Int) (w : World) : Calls Tryd.prog 12 #[.int .i64 s, .int .i64 t] w fun r w' => r = .returned (.bool (refLed s t)) ∧ Fine w w' := by
  obtain ⟨z, hz⟩ : ∃ z, refLed s t = z := ⟨_, rfl⟩
  rw [hz]
  have HZ := Lib.hid hz
  clear hz
  go_enter Tryd.func12, Tryd.ntmps12
  go_wp2
  go_loopw [5] (fun i wr => ∃ k : Nat, k ≤ 6 ∧ i = .int .i64 k ∧ Hid ((List.range k).any (fun k => decide (toOf s (k : Int) = t ∧ 0 ≤ t)) = false) ∧ Fine w wr) (fun i _ => 6 - (intOf i).toNat)
  case atStart => exact ⟨0, by omega, rfl, rfl, Fine.refl _⟩
  case round =>
    obtain ⟨k, hk, rfl, HL, hf⟩ := hrel
    by_cases hlt : k < 6
    · obtain ⟨t', hst⟩ : ∃ t', toOf s (k : Int) = t' := ⟨_, rfl⟩
      have HS := Lib.hid hst
      clear hst
      by_cases ht : t' = t
      · by_cases h0 : 0 ≤ t
        · have HZ1 : Hid (z = true) := by
            show _ = _
            rw [← HZ.out]
            unfold refLed
            rw [any_hit 6 k _ hlt (by rw [HS.out, ht]; simp [h0])]
            rfl
          subst ht
          clear HL HZ
          go_wp2_with fail
          refine (to_any s k _).mono ?_; rintro r w2 ⟨rfl, f2⟩
          rw [HS.out]
          go_wp2
          go_ret
          exact ⟨ret_bool HZ1.out.symm, hf.trans f2⟩
        · have HN : Hid ((List.range (k + 1)).any (fun k => decide (toOf s (k : Int) = t ∧ 0 ≤ t)) = false) := by
            show _ = _
            rw [any_succ, HL.out]; simp [h0]
          subst ht
          clear HL
          go_wp2_with fail
          refine (to_any s k _).mono ?_; rintro r w2 ⟨rfl, f2⟩
          rw [HS.out]
          go_wp2
          go_roundw
          case rel => exact ⟨k + 1, by omega, by go_num, HN, hf.trans f2⟩
          case measure => simp [intOf]; omega
      · have HN : Hid ((List.range (k + 1)).any (fun k => decide (toOf s (k : Int) = t ∧ 0 ≤ t)) = false) := by
          show _ = _
          rw [any_succ, HL.out, HS.out]; simp [ht]
        have htb : (t' == t) = false := by simp [ht]
        clear HL
        go_wp2_with fail
        refine (to_any s k _).mono ?_; rintro r w2 ⟨rfl, f2⟩
        rw [HS.out]
        go_wp2
        go_roundw
        case rel => exact ⟨k + 1, by omega, by go_num, HN, hf.trans f2⟩
        case measure => simp [intOf]; omega
    · have e : k = 6 := by omega
      subst e
      have HZ1 : Hid (z = decide (s = t)) := by
        show _ = _
        rw [← HZ.out]
        unfold refLed
        rw [HL.out]
        rfl
      clear HL HZ
      go_wp2
      go_ret
      refine ⟨ret_bool ?_, hf⟩
      rw [HZ1.out]
      by_cases h : s = t <;> simp [h]
end Go.Proofs.YtbhledflfejdmaaDoor
