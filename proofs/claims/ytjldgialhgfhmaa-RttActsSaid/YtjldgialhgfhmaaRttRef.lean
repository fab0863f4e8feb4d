/- Contracts of the reference's functions of layer 12. -/
import Derived.Test.YtjldgialhgfhmaaRtt
import Derived.Test.YtjldgialhgfhmaaOpen
import Derived.LoopTactic
import Derived.Outline
namespace Go.Proofs.Ytjldgialhgfhmaa
open Go.ChangeShapes Go.WideShapes Go.ChangeAt Go.RowKit
set_option linter.unusedVariables false

/-- The reference's estimate lies in block g. -/
def IsRef (w : World) (g : Nat) (r : Est) (k : Nat) : Prop := r.ok ∧ Blk w g 36 #[.bool r.has, .int .i64 r.s, .int .i64 r.v, .int .i64 k]
theorem IsRef.new (w : World) : IsRef (w.alloc (.cells #[.bool false, .int .i64 0, .int .i64 0, .int .i64 0] 36)) w.heap.size est0 0 := ⟨est0_ok, Blk.new _ _ _⟩
theorem IsRef.fine {w w' : World} {g : Nat} {r : Est} {k : Nat} (h : IsRef w g r k) (hf : Fine w w') : IsRef w' g r k := ⟨h.1, h.2.fine hf⟩
theorem IsRef.kept {w w' : World} {g : Nat} {r : Est} {k : Nat} {S : Nat → Prop} (h : IsRef w g r k) (hf : Kept S w w') (hn : ¬ S g) : IsRef w' g r k := ⟨h.1, h.2.kept hf hn⟩

theorem rsample (g : Nat) (r : Est) (k : Nat) (t : Int) (wt : (Lit.int .i64 t).wf = true) (w : World) (h : IsRef w g r k) :
    Calls Try.prog 23 #[.pointer (some ⟨g, 0, none⟩), .int .i64 t] w fun e w' => e = .returned (.tuple #[]) ∧ IsRef w' g (r.next t) k ∧ Kept (· = g) w w' := by
  have hb := h.2
  have c0 : w.cell? ⟨g, 0, none⟩ = some (.bool r.has) := hb.cell 0
  have c1 : w.cell? ⟨g, 1, none⟩ = some (.int .i64 r.s) := hb.cell 1
  have c2 : w.cell? ⟨g, 2, none⟩ = some (.int .i64 r.v) := hb.cell 2
  have f0 : w.frozen? ⟨g, 0, none⟩ = false := hb.frozen 0
  have f1 : w.frozen? ⟨g, 1, none⟩ = false := hb.frozen 1
  have f2 : w.frozen? ⟨g, 2, none⟩ = false := hb.frozen 2
  have HB := Lib.hid hb; clear hb
  have hok := Est.ok_next h.1 t
  have hr := h.1
  have hr1 := hr.1
  have hr2 := hr.2.1
  have hr3 := hr.2.2.1
  have hr4 := hr.2.2.2.1
  clear h wt
  obtain ⟨c, hc⟩ : ∃ c, clampT t = c := ⟨_, rfl⟩
  have hcb := clampT_bd t
  rw [hc] at hcb
  have HC := Lib.hid hc
  have hsplit : (t < 0 ∧ c = 0) ∨ (1000 < t ∧ c = 1000) ∨ (0 ≤ t ∧ t ≤ 1000 ∧ c = t) := by unfold clampT at hc; omega
  clear hc
  cases hh : r.has
  · have HN := Lib.hid (next_no hh t c HC.out)
    rw [hh] at c0
    have HH := Lib.hid hh; clear hh
    rcases hsplit with ⟨h1, rfl⟩ | ⟨h1, rfl⟩ | ⟨h1, h2, rfl⟩
    all_goals
      go_enter Try.func23, Try.ntmps23
      go_wp2
      refine bodyPost_ret (results_none rfl _ _ _) rfl ⟨rfl, ⟨hok, ?_⟩, (by repeat (first | exact Kept.refl _ _ | assumption | (refine Kept.setIn ?_ (by simp) _) | refine Kept.alloc ?_ _ | refine Kept.drew ?_ | refine Kept.drewN ?_ _ | refine Kept.trans ?_ (by assumption) | refine Kept.trans ?_ (Kept.of_fine (by assumption))))⟩
      rw [HN.out]
      exact ((HB.out.set_ 0 _).set_ 1 _).set_ 2 _
  · have HN := Lib.hid (next_yes hh t c HC.out)
    rw [hh] at c0
    have HH := Lib.hid hh; clear hh
    rcases hsplit with ⟨h1, rfl⟩ | ⟨h1, rfl⟩ | ⟨h1, h2, rfl⟩
    all_goals
      go_enter Try.func23, Try.ntmps23
      go_wp2
      all_goals
        go_region
        go_end0
        refine ⟨rfl, ⟨hok, ?_⟩, (by repeat (first | exact Kept.refl _ _ | assumption | (refine Kept.setIn ?_ (by simp) _) | refine Kept.alloc ?_ _ | refine Kept.drew ?_ | refine Kept.drewN ?_ _ | refine Kept.trans ?_ (by assumption) | refine Kept.trans ?_ (Kept.of_fine (by assumption))))⟩
        rw [HN.out]
        refine Blk.cast ((HB.out.set_ 1 _).set_ 2 _).drew ?_
        simp [HH.out, absI]
        omega

theorem told_ref (g : Nat) (r : Est) (k : Nat) (w : World) (h : IsRef w g r k) :
    Calls Try.prog 25 #[.pointer (some ⟨g, 0, none⟩)] w fun e w' => e = .returned (.int .i64 r.told) ∧ Fine w w' := by
  have hb := h.2
  have c0 : w.cell? ⟨g, 0, none⟩ = some (.bool r.has) := hb.cell 0
  have c1 : w.cell? ⟨g, 1, none⟩ = some (.int .i64 r.s) := hb.cell 1
  clear hb h
  cases hh : r.has
  all_goals
    rw [hh] at c0
    have HE := Lib.hid hh; clear hh
    go_enter Try.func25, Try.ntmps25
    go_wp2
    go_ret
    exact ⟨ret_int (by unfold Est.told; simp [HE.out]), Fine.refl _⟩

/-- The wait before it is doubled, as the reference has it: not held below sixteen. -/
def Est.wide (r : Est) : Int := if r.has then max (max r.v 1 + r.s / 8) 2 else 4
theorem wide_bd {r : Est} (h : r.ok) : 2 ≤ r.wide ∧ r.wide ≤ 6000 := by
  obtain ⟨a, b, c, d, _⟩ := h
  unfold Est.wide; split <;> omega
theorem wide_base (r : Est) : r.base = min r.wide 16 := by unfold Est.wide Est.base; split <;> omega
theorem wait_min (n : Int) (k : Nat) (hn : 2 ≤ n) : wait (min n 16) k = wait n k := by
  rcases Int.le_total n 16 with h | h
  · rw [Int.min_eq_left h]
  · rw [Int.min_eq_right h]
    have e1 := wait_big 16 0 k (by omega) (by decide)
    have e2 := wait_big n 0 k hn (by unfold wait; simp; omega)
    rw [Nat.zero_add] at e1 e2
    rw [e1, e2]

theorem wait_ref (g : Nat) (r : Est) (k : Nat) (hk : k ≤ 1000) (w : World) (h : IsRef w g r k) :
    Calls Try.prog 24 #[.pointer (some ⟨g, 0, none⟩)] w fun e w' => e = .returned (.int .i64 (wait r.base k)) ∧ Fine w w' := by
  have hb := h.2
  have c0 : w.cell? ⟨g, 0, none⟩ = some (.bool r.has) := hb.cell 0
  have c1 : w.cell? ⟨g, 1, none⟩ = some (.int .i64 r.s) := hb.cell 1
  have c2 : w.cell? ⟨g, 2, none⟩ = some (.int .i64 r.v) := hb.cell 2
  have c3 : w.cell? ⟨g, 3, none⟩ = some (.int .i64 k) := hb.cell 3
  have HW := Lib.hid (wide_base r)
  have hwb := wide_bd h.1
  obtain ⟨hr1, hr2, hr3, hr4, _⟩ := h.1
  have HM := Lib.hid (wait_min r.wide k hwb.1)
  have HK : Hid (∀ i, wait r.wide i = 16 → i ≤ k → wait r.wide k = 16) := fun i hi hik => by
    have := wait_big r.wide i (k - i) hwb.1 hi
    rwa [show i + (k - i) = k by omega] at this
  have HS : Hid (∀ i, wait r.wide (i + 1) = min (2 * wait r.wide i) 16) := fun i => wait_succ _ i hwb.1
  clear hb h
  cases hh : r.has
  · rw [hh] at c0
    have HE := Lib.hid (show r.wide = 4 by unfold Est.wide; simp [hh])
    clear hh
    go_enter Try.func24, Try.ntmps24
    go_wp2
    all_goals
      go_loop [3, 4] (fun n i => ∃ (j : Nat) (v : Int), j ≤ k ∧ i = .int .i64 j ∧ n = .int .i64 v ∧ 2 ≤ v ∧ v ≤ 6000 ∧ Hid (min v 16 = wait r.wide j)) (fun _ i => k - (intOf i).toNat)
      case atStart => exact ⟨0, _, Nat.zero_le _, rfl, rfl, by omega, by omega, by have h := HE.out; have h0 : wait r.wide 0 = min r.wide 16 := (by unfold wait; simp); show _ = _; rw [h0, h]; try omega⟩
      case round =>
        obtain ⟨j, v, hj, rfl, rfl, hv1, hv2, HV⟩ := hrel
        by_cases hlt : j < k ∧ v < 16
        · obtain ⟨hl1, hl2⟩ := hlt
          go_wp2
          go_round
          case rel => exact ⟨j + 1, 2 * v, by omega, by go_num, rfl, by omega, by omega, by have h1 := HS.out j; have h2 := HV.out; show _ = _; rw [h1, ← h2]; omega⟩
          case measure => simp [intOf]; omega
        · have hfin : min v 16 = wait r.base k := by
            rw [HW.out, HM.out]
            have h2 := HV.out
            by_cases hl : j = k
            · rw [← hl]; exact h2
            · have h16 : min v 16 = 16 := by omega
              rw [h16] at h2
              rw [HK.out j h2.symm hj]; exact h16
          have HF := Lib.hid hfin; clear hfin
          go_wp2
          all_goals
            go_ret
            exact ⟨ret_int (by rw [← HF.out]; omega), Fine.refl _⟩
  · rw [hh] at c0
    have HE := Lib.hid (show r.wide = max (max r.v 1 + r.s / 8) 2 by unfold Est.wide; simp [hh])
    clear hh
    go_enter Try.func24, Try.ntmps24
    go_wp2
    all_goals
      go_loop [3, 4] (fun n i => ∃ (j : Nat) (v : Int), j ≤ k ∧ i = .int .i64 j ∧ n = .int .i64 v ∧ 2 ≤ v ∧ v ≤ 6000 ∧ Hid (min v 16 = wait r.wide j)) (fun _ i => k - (intOf i).toNat)
      case atStart => exact ⟨0, _, Nat.zero_le _, rfl, rfl, by omega, by omega, by have h := HE.out; have h0 : wait r.wide 0 = min r.wide 16 := (by unfold wait; simp); show _ = _; rw [h0, h]; try omega⟩
      case round =>
        obtain ⟨j, v, hj, rfl, rfl, hv1, hv2, HV⟩ := hrel
        by_cases hlt : j < k ∧ v < 16
        · obtain ⟨hl1, hl2⟩ := hlt
          go_wp2
          go_round
          case rel => exact ⟨j + 1, 2 * v, by omega, by go_num, rfl, by omega, by omega, by have h1 := HS.out j; have h2 := HV.out; show _ = _; rw [h1, ← h2]; omega⟩
          case measure => simp [intOf]; omega
        · have hfin : min v 16 = wait r.base k := by
            rw [HW.out, HM.out]
            have h2 := HV.out
            by_cases hl : j = k
            · rw [← hl]; exact h2
            · have h16 : min v 16 = 16 := by omega
              rw [h16] at h2
              rw [HK.out j h2.symm hj]; exact h16
          have HF := Lib.hid hfin; clear hfin
          go_wp2
          all_goals
            go_ret
            exact ⟨ret_int (by rw [← HF.out]; omega), Fine.refl _⟩
end Go.Proofs.Ytjldgialhgfhmaa
