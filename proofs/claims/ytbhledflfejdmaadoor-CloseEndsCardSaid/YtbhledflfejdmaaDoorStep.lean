/- Contracts of close.Step, close.Writes, close.Reads over the table of moves. -/
import Derived.Test.YtbhledflfejdmaaDoorRows
import Derived.Test.YtbhledflfejdmaaDoorMem
import Derived.Test.YtbhledflfejdmaaDoorOpen
import Derived.WalkKit
import Derived.ProofKit
namespace Go.Proofs.YtbhledflfejdmaaDoor
open Go.ChangeShapes Go.WideShapes Go.ChangeAt Go.RowKit
set_option linter.unusedVariables false

def tabZ : List Int := [0,0,1, 1,1,2, 1,3,4, 2,2,3, 2,3,5, 3,3,7, 4,1,6, 5,2,7, 6,2,7, 7,4,8]
/-- The table of moves lies there. -/
def Tab (w : World) : Prop := ∃ t fr, w.heap[0]? = some (.cells #[.int .i64 0, .int .i64 0, .int .i64 1, .int .i64 1, .int .i64 1, .int .i64 2, .int .i64 1, .int .i64 3, .int .i64 4, .int .i64 2, .int .i64 2, .int .i64 3, .int .i64 2, .int .i64 3, .int .i64 5, .int .i64 3, .int .i64 3, .int .i64 7, .int .i64 4, .int .i64 1, .int .i64 6, .int .i64 5, .int .i64 2, .int .i64 7, .int .i64 6, .int .i64 2, .int .i64 7, .int .i64 7, .int .i64 4, .int .i64 8] t fr)
theorem Tab.fine {w w' : World} (h : Tab w) (hf : Fine w w') : Tab w' := by
  obtain ⟨t, fr, h⟩ := h
  exact ⟨t, fr, (hf.block 0 (Array.getElem?_eq_some_iff.1 h).1).trans h⟩

/-- The first move of those from 'l' on. -/
def look : List Int → Int → Int → Int × Bool
  | f :: b :: t :: l, s, e => if s = f ∧ e = b then (t, true) else look l s e
  | _, s, _ => (s, false)
def stepOf (s e : Int) : Int × Bool := if e = 5 ∧ 0 ≤ s ∧ s < 8 then (8, true) else look tabZ s e

theorem ix0 (w : World) : (Instr.index 38 (.agg #[.int .i64 0, .int .i64 0, .int .i64 1, .int .i64 1, .int .i64 1, .int .i64 2, .int .i64 1, .int .i64 3, .int .i64 4, .int .i64 2, .int .i64 2, .int .i64 3, .int .i64 2, .int .i64 3, .int .i64 5, .int .i64 3, .int .i64 3, .int .i64 7, .int .i64 4, .int .i64 1, .int .i64 6, .int .i64 5, .int .i64 2, .int .i64 7, .int .i64 6, .int .i64 2, .int .i64 7, .int .i64 7, .int .i64 4, .int .i64 8]) (.int .i64 0)).run Tryd.prog w = .ok (.agg #[.int .i64 0, .int .i64 0, .int .i64 1]) w := by kernel_rfl
theorem ix1 (w : World) : (Instr.index 38 (.agg #[.int .i64 0, .int .i64 0, .int .i64 1, .int .i64 1, .int .i64 1, .int .i64 2, .int .i64 1, .int .i64 3, .int .i64 4, .int .i64 2, .int .i64 2, .int .i64 3, .int .i64 2, .int .i64 3, .int .i64 5, .int .i64 3, .int .i64 3, .int .i64 7, .int .i64 4, .int .i64 1, .int .i64 6, .int .i64 5, .int .i64 2, .int .i64 7, .int .i64 6, .int .i64 2, .int .i64 7, .int .i64 7, .int .i64 4, .int .i64 8]) (.int .i64 1)).run Tryd.prog w = .ok (.agg #[.int .i64 1, .int .i64 1, .int .i64 2]) w := by kernel_rfl
theorem ix2 (w : World) : (Instr.index 38 (.agg #[.int .i64 0, .int .i64 0, .int .i64 1, .int .i64 1, .int .i64 1, .int .i64 2, .int .i64 1, .int .i64 3, .int .i64 4, .int .i64 2, .int .i64 2, .int .i64 3, .int .i64 2, .int .i64 3, .int .i64 5, .int .i64 3, .int .i64 3, .int .i64 7, .int .i64 4, .int .i64 1, .int .i64 6, .int .i64 5, .int .i64 2, .int .i64 7, .int .i64 6, .int .i64 2, .int .i64 7, .int .i64 7, .int .i64 4, .int .i64 8]) (.int .i64 2)).run Tryd.prog w = .ok (.agg #[.int .i64 1, .int .i64 3, .int .i64 4]) w := by kernel_rfl
theorem ix3 (w : World) : (Instr.index 38 (.agg #[.int .i64 0, .int .i64 0, .int .i64 1, .int .i64 1, .int .i64 1, .int .i64 2, .int .i64 1, .int .i64 3, .int .i64 4, .int .i64 2, .int .i64 2, .int .i64 3, .int .i64 2, .int .i64 3, .int .i64 5, .int .i64 3, .int .i64 3, .int .i64 7, .int .i64 4, .int .i64 1, .int .i64 6, .int .i64 5, .int .i64 2, .int .i64 7, .int .i64 6, .int .i64 2, .int .i64 7, .int .i64 7, .int .i64 4, .int .i64 8]) (.int .i64 3)).run Tryd.prog w = .ok (.agg #[.int .i64 2, .int .i64 2, .int .i64 3]) w := by kernel_rfl
theorem ix4 (w : World) : (Instr.index 38 (.agg #[.int .i64 0, .int .i64 0, .int .i64 1, .int .i64 1, .int .i64 1, .int .i64 2, .int .i64 1, .int .i64 3, .int .i64 4, .int .i64 2, .int .i64 2, .int .i64 3, .int .i64 2, .int .i64 3, .int .i64 5, .int .i64 3, .int .i64 3, .int .i64 7, .int .i64 4, .int .i64 1, .int .i64 6, .int .i64 5, .int .i64 2, .int .i64 7, .int .i64 6, .int .i64 2, .int .i64 7, .int .i64 7, .int .i64 4, .int .i64 8]) (.int .i64 4)).run Tryd.prog w = .ok (.agg #[.int .i64 2, .int .i64 3, .int .i64 5]) w := by kernel_rfl
theorem ix5 (w : World) : (Instr.index 38 (.agg #[.int .i64 0, .int .i64 0, .int .i64 1, .int .i64 1, .int .i64 1, .int .i64 2, .int .i64 1, .int .i64 3, .int .i64 4, .int .i64 2, .int .i64 2, .int .i64 3, .int .i64 2, .int .i64 3, .int .i64 5, .int .i64 3, .int .i64 3, .int .i64 7, .int .i64 4, .int .i64 1, .int .i64 6, .int .i64 5, .int .i64 2, .int .i64 7, .int .i64 6, .int .i64 2, .int .i64 7, .int .i64 7, .int .i64 4, .int .i64 8]) (.int .i64 5)).run Tryd.prog w = .ok (.agg #[.int .i64 3, .int .i64 3, .int .i64 7]) w := by kernel_rfl
theorem ix6 (w : World) : (Instr.index 38 (.agg #[.int .i64 0, .int .i64 0, .int .i64 1, .int .i64 1, .int .i64 1, .int .i64 2, .int .i64 1, .int .i64 3, .int .i64 4, .int .i64 2, .int .i64 2, .int .i64 3, .int .i64 2, .int .i64 3, .int .i64 5, .int .i64 3, .int .i64 3, .int .i64 7, .int .i64 4, .int .i64 1, .int .i64 6, .int .i64 5, .int .i64 2, .int .i64 7, .int .i64 6, .int .i64 2, .int .i64 7, .int .i64 7, .int .i64 4, .int .i64 8]) (.int .i64 6)).run Tryd.prog w = .ok (.agg #[.int .i64 4, .int .i64 1, .int .i64 6]) w := by kernel_rfl
theorem ix7 (w : World) : (Instr.index 38 (.agg #[.int .i64 0, .int .i64 0, .int .i64 1, .int .i64 1, .int .i64 1, .int .i64 2, .int .i64 1, .int .i64 3, .int .i64 4, .int .i64 2, .int .i64 2, .int .i64 3, .int .i64 2, .int .i64 3, .int .i64 5, .int .i64 3, .int .i64 3, .int .i64 7, .int .i64 4, .int .i64 1, .int .i64 6, .int .i64 5, .int .i64 2, .int .i64 7, .int .i64 6, .int .i64 2, .int .i64 7, .int .i64 7, .int .i64 4, .int .i64 8]) (.int .i64 7)).run Tryd.prog w = .ok (.agg #[.int .i64 5, .int .i64 2, .int .i64 7]) w := by kernel_rfl
theorem ix8 (w : World) : (Instr.index 38 (.agg #[.int .i64 0, .int .i64 0, .int .i64 1, .int .i64 1, .int .i64 1, .int .i64 2, .int .i64 1, .int .i64 3, .int .i64 4, .int .i64 2, .int .i64 2, .int .i64 3, .int .i64 2, .int .i64 3, .int .i64 5, .int .i64 3, .int .i64 3, .int .i64 7, .int .i64 4, .int .i64 1, .int .i64 6, .int .i64 5, .int .i64 2, .int .i64 7, .int .i64 6, .int .i64 2, .int .i64 7, .int .i64 7, .int .i64 4, .int .i64 8]) (.int .i64 8)).run Tryd.prog w = .ok (.agg #[.int .i64 6, .int .i64 2, .int .i64 7]) w := by kernel_rfl
theorem ix9 (w : World) : (Instr.index 38 (.agg #[.int .i64 0, .int .i64 0, .int .i64 1, .int .i64 1, .int .i64 1, .int .i64 2, .int .i64 1, .int .i64 3, .int .i64 4, .int .i64 2, .int .i64 2, .int .i64 3, .int .i64 2, .int .i64 3, .int .i64 5, .int .i64 3, .int .i64 3, .int .i64 7, .int .i64 4, .int .i64 1, .int .i64 6, .int .i64 5, .int .i64 2, .int .i64 7, .int .i64 6, .int .i64 2, .int .i64 7, .int .i64 7, .int .i64 4, .int .i64 8]) (.int .i64 9)).run Tryd.prog w = .ok (.agg #[.int .i64 7, .int .i64 4, .int .i64 8]) w := by kernel_rfl

set_option maxHeartbeats 1000000 in
theorem step_any (s e : Int) (w : World) (hT : Tab w) :
    Calls Tryd.prog 8 #[.int .i64 s, .int .i64 e] w fun r w' => r = .returned (.tuple #[.int .i64 (stepOf s e).1, .bool (stepOf s e).2]) ∧ Fine w w' := by
  obtain ⟨t, fr, hT⟩ := hT
  have HT := Lib.hid hT
  clear hT
  by_cases h5 : e = 5 ∧ 0 ≤ s ∧ s < 8
  · have HR : Hid (stepOf s e = (8, true)) := by show _ = _; unfold stepOf; rw [if_pos h5]
    obtain ⟨rfl, h1, h2⟩ := h5
    rw [HR.out]
    go_enter Tryd.func8, Tryd.ntmps8
    go_wp2
    go_ret2
    exact ⟨rfl, Fine.refl _⟩
  · have HR : Hid (stepOf s e = look tabZ s e) := by show _ = _; unfold stepOf; rw [if_neg h5]
    rw [HR.out]
    have h3 : (e = 5 ∧ (e == 5) = true ∧ s < 0) ∨ (e = 5 ∧ (e == 5) = true ∧ 0 ≤ s ∧ 8 ≤ s) ∨ (e ≠ 5 ∧ (e == 5) = false) := by
      by_cases h : e = 5
      · by_cases h0 : 0 ≤ s
        · exact .inr (.inl ⟨h, by simp [h], h0, by omega⟩)
        · exact .inl ⟨h, by simp [h], by omega⟩
      · exact .inr (.inr ⟨h, by simp [h]⟩)
    clear h5
    rcases h3 with ⟨h5, h5b, h0⟩ | ⟨h5, h5b, h0, h8⟩ | ⟨h5, h5b⟩
    all_goals
      go_enter Tryd.func8, Tryd.ntmps8
      go_wp2_with (refine wpList_load_row rfl 38 _ rfl 0 rfl t _ fr _ HT.out Tryd.underlying38 rfl (by kernel_rfl) ?_)
      go_loopw [19] (fun i wr => ∃ k : Nat, k ≤ 10 ∧ i = .int .i64 k ∧ Hid (look (tabZ.drop (3 * k)) s e = look tabZ s e) ∧ Fine w wr) (fun i _ => 10 - (intOf i).toNat)
      case atStart => exact ⟨0, by omega, rfl, rfl, Fine.refl _⟩
      case round =>
        obtain ⟨k, hk, rfl, HL, hf⟩ := hrel
        clear HR h5b HT
        have hk10 : k = 0 ∨ k = 1 ∨ k = 2 ∨ k = 3 ∨ k = 4 ∨ k = 5 ∨ k = 6 ∨ k = 7 ∨ k = 8 ∨ k = 9 ∨ k = 10 := by omega
        clear hk
        rcases hk10 with rfl | rfl | rfl | rfl | rfl | rfl | rfl | rfl | rfl | rfl | rfl
        · have hX := ix0
          by_cases hm : s = 0 ∧ e = 0
          · obtain ⟨rfl, rfl⟩ := hm
            clear HL
            first
              | (exfalso; omega)
              | (have HZ : Hid (look tabZ 0 0 = (1, true)) := rfl
                 rw [HZ.out]
                 go_wp2
                 go_ret2
                 exact ⟨rfl, (by repeat (first | exact Fine.refl _ | assumption | refine Fine.alloc ?_ _ | refine Fine.drew ?_ | refine Fine.drewN ?_ _ | refine Fine.trans ?_ (by assumption) | (refine Fine.kept ?_ (by assumption) (by intro x hx; first | omega | (simp; omega))) | (refine Fine.setCell ?_ (by first | assumption | (simp; omega)) _)))⟩)
          · have HN : Hid (look (tabZ.drop (3 * 1)) s e = look tabZ s e) := by
              show _ = _
              rw [← HL.out]
              exact (if_neg hm).symm
            clear HL
            by_cases hs : s = 0
            · have he : ¬ 0 = e := fun a => hm ⟨hs, a.symm⟩
              clear hm
              subst hs
              first
                | (exfalso; omega)
                | (go_wp2
                   go_roundw
                   case rel => exact ⟨1, by omega, by go_num, HN, (by repeat (first | exact Fine.refl _ | assumption | refine Fine.alloc ?_ _ | refine Fine.drew ?_ | refine Fine.drewN ?_ _ | refine Fine.trans ?_ (by assumption) | (refine Fine.kept ?_ (by assumption) (by intro x hx; first | omega | (simp; omega))) | (refine Fine.setCell ?_ (by first | assumption | (simp; omega)) _)))⟩
                   case measure => simp [intOf])
            · have hs1 : ¬ 0 = s := fun a => hs a.symm
              clear hm hs
              go_wp2
              go_roundw
              case rel => exact ⟨1, by omega, by go_num, HN, (by repeat (first | exact Fine.refl _ | assumption | refine Fine.alloc ?_ _ | refine Fine.drew ?_ | refine Fine.drewN ?_ _ | refine Fine.trans ?_ (by assumption) | (refine Fine.kept ?_ (by assumption) (by intro x hx; first | omega | (simp; omega))) | (refine Fine.setCell ?_ (by first | assumption | (simp; omega)) _)))⟩
              case measure => simp [intOf]
        · have hX := ix1
          by_cases hm : s = 1 ∧ e = 1
          · obtain ⟨rfl, rfl⟩ := hm
            clear HL
            first
              | (exfalso; omega)
              | (have HZ : Hid (look tabZ 1 1 = (2, true)) := rfl
                 rw [HZ.out]
                 go_wp2
                 go_ret2
                 exact ⟨rfl, (by repeat (first | exact Fine.refl _ | assumption | refine Fine.alloc ?_ _ | refine Fine.drew ?_ | refine Fine.drewN ?_ _ | refine Fine.trans ?_ (by assumption) | (refine Fine.kept ?_ (by assumption) (by intro x hx; first | omega | (simp; omega))) | (refine Fine.setCell ?_ (by first | assumption | (simp; omega)) _)))⟩)
          · have HN : Hid (look (tabZ.drop (3 * 2)) s e = look tabZ s e) := by
              show _ = _
              rw [← HL.out]
              exact (if_neg hm).symm
            clear HL
            by_cases hs : s = 1
            · have he : ¬ 1 = e := fun a => hm ⟨hs, a.symm⟩
              clear hm
              subst hs
              first
                | (exfalso; omega)
                | (go_wp2
                   go_roundw
                   case rel => exact ⟨2, by omega, by go_num, HN, (by repeat (first | exact Fine.refl _ | assumption | refine Fine.alloc ?_ _ | refine Fine.drew ?_ | refine Fine.drewN ?_ _ | refine Fine.trans ?_ (by assumption) | (refine Fine.kept ?_ (by assumption) (by intro x hx; first | omega | (simp; omega))) | (refine Fine.setCell ?_ (by first | assumption | (simp; omega)) _)))⟩
                   case measure => simp [intOf])
            · have hs1 : ¬ 1 = s := fun a => hs a.symm
              clear hm hs
              go_wp2
              go_roundw
              case rel => exact ⟨2, by omega, by go_num, HN, (by repeat (first | exact Fine.refl _ | assumption | refine Fine.alloc ?_ _ | refine Fine.drew ?_ | refine Fine.drewN ?_ _ | refine Fine.trans ?_ (by assumption) | (refine Fine.kept ?_ (by assumption) (by intro x hx; first | omega | (simp; omega))) | (refine Fine.setCell ?_ (by first | assumption | (simp; omega)) _)))⟩
              case measure => simp [intOf]
        · have hX := ix2
          by_cases hm : s = 1 ∧ e = 3
          · obtain ⟨rfl, rfl⟩ := hm
            clear HL
            first
              | (exfalso; omega)
              | (have HZ : Hid (look tabZ 1 3 = (4, true)) := rfl
                 rw [HZ.out]
                 go_wp2
                 go_ret2
                 exact ⟨rfl, (by repeat (first | exact Fine.refl _ | assumption | refine Fine.alloc ?_ _ | refine Fine.drew ?_ | refine Fine.drewN ?_ _ | refine Fine.trans ?_ (by assumption) | (refine Fine.kept ?_ (by assumption) (by intro x hx; first | omega | (simp; omega))) | (refine Fine.setCell ?_ (by first | assumption | (simp; omega)) _)))⟩)
          · have HN : Hid (look (tabZ.drop (3 * 3)) s e = look tabZ s e) := by
              show _ = _
              rw [← HL.out]
              exact (if_neg hm).symm
            clear HL
            by_cases hs : s = 1
            · have he : ¬ 3 = e := fun a => hm ⟨hs, a.symm⟩
              clear hm
              subst hs
              first
                | (exfalso; omega)
                | (go_wp2
                   go_roundw
                   case rel => exact ⟨3, by omega, by go_num, HN, (by repeat (first | exact Fine.refl _ | assumption | refine Fine.alloc ?_ _ | refine Fine.drew ?_ | refine Fine.drewN ?_ _ | refine Fine.trans ?_ (by assumption) | (refine Fine.kept ?_ (by assumption) (by intro x hx; first | omega | (simp; omega))) | (refine Fine.setCell ?_ (by first | assumption | (simp; omega)) _)))⟩
                   case measure => simp [intOf])
            · have hs1 : ¬ 1 = s := fun a => hs a.symm
              clear hm hs
              go_wp2
              go_roundw
              case rel => exact ⟨3, by omega, by go_num, HN, (by repeat (first | exact Fine.refl _ | assumption | refine Fine.alloc ?_ _ | refine Fine.drew ?_ | refine Fine.drewN ?_ _ | refine Fine.trans ?_ (by assumption) | (refine Fine.kept ?_ (by assumption) (by intro x hx; first | omega | (simp; omega))) | (refine Fine.setCell ?_ (by first | assumption | (simp; omega)) _)))⟩
              case measure => simp [intOf]
        · have hX := ix3
          by_cases hm : s = 2 ∧ e = 2
          · obtain ⟨rfl, rfl⟩ := hm
            clear HL
            first
              | (exfalso; omega)
              | (have HZ : Hid (look tabZ 2 2 = (3, true)) := rfl
                 rw [HZ.out]
                 go_wp2
                 go_ret2
                 exact ⟨rfl, (by repeat (first | exact Fine.refl _ | assumption | refine Fine.alloc ?_ _ | refine Fine.drew ?_ | refine Fine.drewN ?_ _ | refine Fine.trans ?_ (by assumption) | (refine Fine.kept ?_ (by assumption) (by intro x hx; first | omega | (simp; omega))) | (refine Fine.setCell ?_ (by first | assumption | (simp; omega)) _)))⟩)
          · have HN : Hid (look (tabZ.drop (3 * 4)) s e = look tabZ s e) := by
              show _ = _
              rw [← HL.out]
              exact (if_neg hm).symm
            clear HL
            by_cases hs : s = 2
            · have he : ¬ 2 = e := fun a => hm ⟨hs, a.symm⟩
              clear hm
              subst hs
              first
                | (exfalso; omega)
                | (go_wp2
                   go_roundw
                   case rel => exact ⟨4, by omega, by go_num, HN, (by repeat (first | exact Fine.refl _ | assumption | refine Fine.alloc ?_ _ | refine Fine.drew ?_ | refine Fine.drewN ?_ _ | refine Fine.trans ?_ (by assumption) | (refine Fine.kept ?_ (by assumption) (by intro x hx; first | omega | (simp; omega))) | (refine Fine.setCell ?_ (by first | assumption | (simp; omega)) _)))⟩
                   case measure => simp [intOf])
            · have hs1 : ¬ 2 = s := fun a => hs a.symm
              clear hm hs
              go_wp2
              go_roundw
              case rel => exact ⟨4, by omega, by go_num, HN, (by repeat (first | exact Fine.refl _ | assumption | refine Fine.alloc ?_ _ | refine Fine.drew ?_ | refine Fine.drewN ?_ _ | refine Fine.trans ?_ (by assumption) | (refine Fine.kept ?_ (by assumption) (by intro x hx; first | omega | (simp; omega))) | (refine Fine.setCell ?_ (by first | assumption | (simp; omega)) _)))⟩
              case measure => simp [intOf]
        · have hX := ix4
          by_cases hm : s = 2 ∧ e = 3
          · obtain ⟨rfl, rfl⟩ := hm
            clear HL
            first
              | (exfalso; omega)
              | (have HZ : Hid (look tabZ 2 3 = (5, true)) := rfl
                 rw [HZ.out]
                 go_wp2
                 go_ret2
                 exact ⟨rfl, (by repeat (first | exact Fine.refl _ | assumption | refine Fine.alloc ?_ _ | refine Fine.drew ?_ | refine Fine.drewN ?_ _ | refine Fine.trans ?_ (by assumption) | (refine Fine.kept ?_ (by assumption) (by intro x hx; first | omega | (simp; omega))) | (refine Fine.setCell ?_ (by first | assumption | (simp; omega)) _)))⟩)
          · have HN : Hid (look (tabZ.drop (3 * 5)) s e = look tabZ s e) := by
              show _ = _
              rw [← HL.out]
              exact (if_neg hm).symm
            clear HL
            by_cases hs : s = 2
            · have he : ¬ 3 = e := fun a => hm ⟨hs, a.symm⟩
              clear hm
              subst hs
              first
                | (exfalso; omega)
                | (go_wp2
                   go_roundw
                   case rel => exact ⟨5, by omega, by go_num, HN, (by repeat (first | exact Fine.refl _ | assumption | refine Fine.alloc ?_ _ | refine Fine.drew ?_ | refine Fine.drewN ?_ _ | refine Fine.trans ?_ (by assumption) | (refine Fine.kept ?_ (by assumption) (by intro x hx; first | omega | (simp; omega))) | (refine Fine.setCell ?_ (by first | assumption | (simp; omega)) _)))⟩
                   case measure => simp [intOf])
            · have hs1 : ¬ 2 = s := fun a => hs a.symm
              clear hm hs
              go_wp2
              go_roundw
              case rel => exact ⟨5, by omega, by go_num, HN, (by repeat (first | exact Fine.refl _ | assumption | refine Fine.alloc ?_ _ | refine Fine.drew ?_ | refine Fine.drewN ?_ _ | refine Fine.trans ?_ (by assumption) | (refine Fine.kept ?_ (by assumption) (by intro x hx; first | omega | (simp; omega))) | (refine Fine.setCell ?_ (by first | assumption | (simp; omega)) _)))⟩
              case measure => simp [intOf]
        · have hX := ix5
          by_cases hm : s = 3 ∧ e = 3
          · obtain ⟨rfl, rfl⟩ := hm
            clear HL
            first
              | (exfalso; omega)
              | (have HZ : Hid (look tabZ 3 3 = (7, true)) := rfl
                 rw [HZ.out]
                 go_wp2
                 go_ret2
                 exact ⟨rfl, (by repeat (first | exact Fine.refl _ | assumption | refine Fine.alloc ?_ _ | refine Fine.drew ?_ | refine Fine.drewN ?_ _ | refine Fine.trans ?_ (by assumption) | (refine Fine.kept ?_ (by assumption) (by intro x hx; first | omega | (simp; omega))) | (refine Fine.setCell ?_ (by first | assumption | (simp; omega)) _)))⟩)
          · have HN : Hid (look (tabZ.drop (3 * 6)) s e = look tabZ s e) := by
              show _ = _
              rw [← HL.out]
              exact (if_neg hm).symm
            clear HL
            by_cases hs : s = 3
            · have he : ¬ 3 = e := fun a => hm ⟨hs, a.symm⟩
              clear hm
              subst hs
              first
                | (exfalso; omega)
                | (go_wp2
                   go_roundw
                   case rel => exact ⟨6, by omega, by go_num, HN, (by repeat (first | exact Fine.refl _ | assumption | refine Fine.alloc ?_ _ | refine Fine.drew ?_ | refine Fine.drewN ?_ _ | refine Fine.trans ?_ (by assumption) | (refine Fine.kept ?_ (by assumption) (by intro x hx; first | omega | (simp; omega))) | (refine Fine.setCell ?_ (by first | assumption | (simp; omega)) _)))⟩
                   case measure => simp [intOf])
            · have hs1 : ¬ 3 = s := fun a => hs a.symm
              clear hm hs
              go_wp2
              go_roundw
              case rel => exact ⟨6, by omega, by go_num, HN, (by repeat (first | exact Fine.refl _ | assumption | refine Fine.alloc ?_ _ | refine Fine.drew ?_ | refine Fine.drewN ?_ _ | refine Fine.trans ?_ (by assumption) | (refine Fine.kept ?_ (by assumption) (by intro x hx; first | omega | (simp; omega))) | (refine Fine.setCell ?_ (by first | assumption | (simp; omega)) _)))⟩
              case measure => simp [intOf]
        · have hX := ix6
          by_cases hm : s = 4 ∧ e = 1
          · obtain ⟨rfl, rfl⟩ := hm
            clear HL
            first
              | (exfalso; omega)
              | (have HZ : Hid (look tabZ 4 1 = (6, true)) := rfl
                 rw [HZ.out]
                 go_wp2
                 go_ret2
                 exact ⟨rfl, (by repeat (first | exact Fine.refl _ | assumption | refine Fine.alloc ?_ _ | refine Fine.drew ?_ | refine Fine.drewN ?_ _ | refine Fine.trans ?_ (by assumption) | (refine Fine.kept ?_ (by assumption) (by intro x hx; first | omega | (simp; omega))) | (refine Fine.setCell ?_ (by first | assumption | (simp; omega)) _)))⟩)
          · have HN : Hid (look (tabZ.drop (3 * 7)) s e = look tabZ s e) := by
              show _ = _
              rw [← HL.out]
              exact (if_neg hm).symm
            clear HL
            by_cases hs : s = 4
            · have he : ¬ 1 = e := fun a => hm ⟨hs, a.symm⟩
              clear hm
              subst hs
              first
                | (exfalso; omega)
                | (go_wp2
                   go_roundw
                   case rel => exact ⟨7, by omega, by go_num, HN, (by repeat (first | exact Fine.refl _ | assumption | refine Fine.alloc ?_ _ | refine Fine.drew ?_ | refine Fine.drewN ?_ _ | refine Fine.trans ?_ (by assumption) | (refine Fine.kept ?_ (by assumption) (by intro x hx; first | omega | (simp; omega))) | (refine Fine.setCell ?_ (by first | assumption | (simp; omega)) _)))⟩
                   case measure => simp [intOf])
            · have hs1 : ¬ 4 = s := fun a => hs a.symm
              clear hm hs
              go_wp2
              go_roundw
              case rel => exact ⟨7, by omega, by go_num, HN, (by repeat (first | exact Fine.refl _ | assumption | refine Fine.alloc ?_ _ | refine Fine.drew ?_ | refine Fine.drewN ?_ _ | refine Fine.trans ?_ (by assumption) | (refine Fine.kept ?_ (by assumption) (by intro x hx; first | omega | (simp; omega))) | (refine Fine.setCell ?_ (by first | assumption | (simp; omega)) _)))⟩
              case measure => simp [intOf]
        · have hX := ix7
          by_cases hm : s = 5 ∧ e = 2
          · obtain ⟨rfl, rfl⟩ := hm
            clear HL
            first
              | (exfalso; omega)
              | (have HZ : Hid (look tabZ 5 2 = (7, true)) := rfl
                 rw [HZ.out]
                 go_wp2
                 go_ret2
                 exact ⟨rfl, (by repeat (first | exact Fine.refl _ | assumption | refine Fine.alloc ?_ _ | refine Fine.drew ?_ | refine Fine.drewN ?_ _ | refine Fine.trans ?_ (by assumption) | (refine Fine.kept ?_ (by assumption) (by intro x hx; first | omega | (simp; omega))) | (refine Fine.setCell ?_ (by first | assumption | (simp; omega)) _)))⟩)
          · have HN : Hid (look (tabZ.drop (3 * 8)) s e = look tabZ s e) := by
              show _ = _
              rw [← HL.out]
              exact (if_neg hm).symm
            clear HL
            by_cases hs : s = 5
            · have he : ¬ 2 = e := fun a => hm ⟨hs, a.symm⟩
              clear hm
              subst hs
              first
                | (exfalso; omega)
                | (go_wp2
                   go_roundw
                   case rel => exact ⟨8, by omega, by go_num, HN, (by repeat (first | exact Fine.refl _ | assumption | refine Fine.alloc ?_ _ | refine Fine.drew ?_ | refine Fine.drewN ?_ _ | refine Fine.trans ?_ (by assumption) | (refine Fine.kept ?_ (by assumption) (by intro x hx; first | omega | (simp; omega))) | (refine Fine.setCell ?_ (by first | assumption | (simp; omega)) _)))⟩
                   case measure => simp [intOf])
            · have hs1 : ¬ 5 = s := fun a => hs a.symm
              clear hm hs
              go_wp2
              go_roundw
              case rel => exact ⟨8, by omega, by go_num, HN, (by repeat (first | exact Fine.refl _ | assumption | refine Fine.alloc ?_ _ | refine Fine.drew ?_ | refine Fine.drewN ?_ _ | refine Fine.trans ?_ (by assumption) | (refine Fine.kept ?_ (by assumption) (by intro x hx; first | omega | (simp; omega))) | (refine Fine.setCell ?_ (by first | assumption | (simp; omega)) _)))⟩
              case measure => simp [intOf]
        · have hX := ix8
          by_cases hm : s = 6 ∧ e = 2
          · obtain ⟨rfl, rfl⟩ := hm
            clear HL
            first
              | (exfalso; omega)
              | (have HZ : Hid (look tabZ 6 2 = (7, true)) := rfl
                 rw [HZ.out]
                 go_wp2
                 go_ret2
                 exact ⟨rfl, (by repeat (first | exact Fine.refl _ | assumption | refine Fine.alloc ?_ _ | refine Fine.drew ?_ | refine Fine.drewN ?_ _ | refine Fine.trans ?_ (by assumption) | (refine Fine.kept ?_ (by assumption) (by intro x hx; first | omega | (simp; omega))) | (refine Fine.setCell ?_ (by first | assumption | (simp; omega)) _)))⟩)
          · have HN : Hid (look (tabZ.drop (3 * 9)) s e = look tabZ s e) := by
              show _ = _
              rw [← HL.out]
              exact (if_neg hm).symm
            clear HL
            by_cases hs : s = 6
            · have he : ¬ 2 = e := fun a => hm ⟨hs, a.symm⟩
              clear hm
              subst hs
              first
                | (exfalso; omega)
                | (go_wp2
                   go_roundw
                   case rel => exact ⟨9, by omega, by go_num, HN, (by repeat (first | exact Fine.refl _ | assumption | refine Fine.alloc ?_ _ | refine Fine.drew ?_ | refine Fine.drewN ?_ _ | refine Fine.trans ?_ (by assumption) | (refine Fine.kept ?_ (by assumption) (by intro x hx; first | omega | (simp; omega))) | (refine Fine.setCell ?_ (by first | assumption | (simp; omega)) _)))⟩
                   case measure => simp [intOf])
            · have hs1 : ¬ 6 = s := fun a => hs a.symm
              clear hm hs
              go_wp2
              go_roundw
              case rel => exact ⟨9, by omega, by go_num, HN, (by repeat (first | exact Fine.refl _ | assumption | refine Fine.alloc ?_ _ | refine Fine.drew ?_ | refine Fine.drewN ?_ _ | refine Fine.trans ?_ (by assumption) | (refine Fine.kept ?_ (by assumption) (by intro x hx; first | omega | (simp; omega))) | (refine Fine.setCell ?_ (by first | assumption | (simp; omega)) _)))⟩
              case measure => simp [intOf]
        · have hX := ix9
          by_cases hm : s = 7 ∧ e = 4
          · obtain ⟨rfl, rfl⟩ := hm
            clear HL
            first
              | (exfalso; omega)
              | (have HZ : Hid (look tabZ 7 4 = (8, true)) := rfl
                 rw [HZ.out]
                 go_wp2
                 go_ret2
                 exact ⟨rfl, (by repeat (first | exact Fine.refl _ | assumption | refine Fine.alloc ?_ _ | refine Fine.drew ?_ | refine Fine.drewN ?_ _ | refine Fine.trans ?_ (by assumption) | (refine Fine.kept ?_ (by assumption) (by intro x hx; first | omega | (simp; omega))) | (refine Fine.setCell ?_ (by first | assumption | (simp; omega)) _)))⟩)
          · have HN : Hid (look (tabZ.drop (3 * 10)) s e = look tabZ s e) := by
              show _ = _
              rw [← HL.out]
              exact (if_neg hm).symm
            clear HL
            by_cases hs : s = 7
            · have he : ¬ 4 = e := fun a => hm ⟨hs, a.symm⟩
              clear hm
              subst hs
              first
                | (exfalso; omega)
                | (go_wp2
                   go_roundw
                   case rel => exact ⟨10, by omega, by go_num, HN, (by repeat (first | exact Fine.refl _ | assumption | refine Fine.alloc ?_ _ | refine Fine.drew ?_ | refine Fine.drewN ?_ _ | refine Fine.trans ?_ (by assumption) | (refine Fine.kept ?_ (by assumption) (by intro x hx; first | omega | (simp; omega))) | (refine Fine.setCell ?_ (by first | assumption | (simp; omega)) _)))⟩
                   case measure => simp [intOf])
            · have hs1 : ¬ 7 = s := fun a => hs a.symm
              clear hm hs
              go_wp2
              go_roundw
              case rel => exact ⟨10, by omega, by go_num, HN, (by repeat (first | exact Fine.refl _ | assumption | refine Fine.alloc ?_ _ | refine Fine.drew ?_ | refine Fine.drewN ?_ _ | refine Fine.trans ?_ (by assumption) | (refine Fine.kept ?_ (by assumption) (by intro x hx; first | omega | (simp; omega))) | (refine Fine.setCell ?_ (by first | assumption | (simp; omega)) _)))⟩
              case measure => simp [intOf]
        · have HN : Hid (look tabZ s e = (s, false)) := HL.out.symm
          clear HL
          go_wp2
          go_ret2
          exact ⟨by rw [HN.out]; rfl, (by repeat (first | exact Fine.refl _ | assumption | refine Fine.alloc ?_ _ | refine Fine.drew ?_ | refine Fine.drewN ?_ _ | refine Fine.trans ?_ (by assumption) | (refine Fine.kept ?_ (by assumption) (by intro x hx; first | omega | (simp; omega))) | (refine Fine.setCell ?_ (by first | assumption | (simp; omega)) _)))⟩
end Go.Proofs.YtbhledflfejdmaaDoor
