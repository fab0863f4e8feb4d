/- Contracts of package path: New, Next; and where there is none. -/
import Derived.Test.YtbgdcpecpcmjdaaPath3
namespace Go.Proofs.Ytbgdcpecpcmjdaa
open Go.ChangeShapes Go.WideShapes Go.ChangeAt Go.RowKit
set_option linter.unusedVariables false

def clampM (m : Int) : Int := min (max m 1) 8
theorem PMB.zero (w : World) (c : Int) : PMB (w.alloc (.cells #[.bool false, .bool false, .bool false, .bool false, .bool false, .bool false, .bool false, .bool false, .bool false, .bool false, .bool false, .bool false, .bool false, .bool false, .bool false, .bool false, .bool false, .bool false, .bool false, .bool false, .bool false, .bool false, .bool false, .bool false, .int .i64 c] 67)) w.heap.size (List.replicate 24 false) c := ⟨by decide, Blk.new w 67 _⟩
theorem rep_at (n i : Nat) : (List.replicate n false).getD i false = false := by
  unfold List.getD
  cases h : (List.replicate n false)[i]? with
  | none => rfl
  | some v => exact List.eq_of_mem_replicate (List.mem_of_getElem? h)
theorem fresh_set {n k : Nat} (hn : n < 4) (hk : k < 4) : Fresh ((((List.replicate 24 false).set n true).set (4 + k) true).set (8 + n * 4 + k) true) n k := by
  intro i hi
  rw [getD_set _ _ _ _ (by rw [List.length_set, List.length_set, List.length_replicate]; omega), getD_set _ _ _ _ (by rw [List.length_set, List.length_replicate]; omega), getD_set _ _ _ _ (by rw [List.length_replicate]; omega), rep_at]
  by_cases a : 8 + n * 4 + k = i
  · rw [if_pos a]; simp; omega
  · rw [if_neg a]
    by_cases b : 4 + k = i
    · rw [if_pos b]; simp; omega
    · rw [if_neg b]
      by_cases c : n = i
      · rw [if_pos c]; simp; omega
      · rw [if_neg c]; simp; omega
def NewOf (n k : Nat) (m : Int) (w : World) (e : Ending) (w' : World) : Prop := ∃ g L, e = .returned (.tuple #[.pointer (some ⟨g, 0, none⟩), .int .i64 0]) ∧ PMB w' g L (clampM m) ∧ Fresh L n k ∧ w.heap.size ≤ g ∧ Fine w w'
theorem new_no (a b m : Int) (h : (mayI a && mayI b) = false) (w : World) :
    Calls Try.prog 8 #[.int .i64 a, .int .i64 b, .int .i64 m] w fun e w' => e = .returned (.tuple #[.pointer none, .int .i64 1]) ∧ Fine w w' := by
  have HM := Lib.hid h; clear h
  go_enter Try.func8, Try.ntmps8
  go_wp2_with fail
  refine (may2 _ _ _ _ rfl).mono ?_; rintro e w1 ⟨rfl, f1⟩
  rw [HM.out]
  go_wp2_with fail
  go_ret2
  exact ⟨rfl, (by repeat (first | exact Fine.refl _ | assumption | refine Fine.alloc ?_ _ | refine Fine.drew ?_ | refine Fine.drewN ?_ _ | refine Fine.trans ?_ (by assumption) | (refine Fine.kept ?_ (by assumption) (by intro x hx; first | omega | (simp; omega))) | (refine Fine.setCell ?_ (by first | assumption | (simp; omega)) _)))⟩
theorem new_any (n k : Nat) (hn : n < 4) (hk : k < 4) (m : Int) (w : World) :
    Calls Try.prog 8 #[.int .i64 n, .int .i64 k, .int .i64 m] w (NewOf n k m w) := by
  have HM : Hid ((mayI n && mayI k) = true) := by show _ = _; rw [mayI_of hn, mayI_of hk]; rfl
  obtain ⟨c, hc⟩ : ∃ c, clampM m = c := ⟨_, rfl⟩
  have hsplit : (m < 1 ∧ c = 1) ∨ (8 < m ∧ c = 8) ∨ (1 ≤ m ∧ m ≤ 8 ∧ c = m) := by unfold clampM at hc; omega
  have HC := Lib.hid hc; clear hc
  rcases hsplit with ⟨h1, rfl⟩ | ⟨h1, rfl⟩ | ⟨h1, h2, rfl⟩
  · go_enter Try.func8, Try.ntmps8
    go_wp2_with fail
    refine (may2 _ _ _ _ rfl).mono ?_; rintro e w1 ⟨rfl, f1⟩
    rw [HM.out]
    go_wp2_with fail
    have hP0 := PMB.zero w1 1
    have f2 : Fine w (w1.alloc (.cells #[.bool false, .bool false, .bool false, .bool false, .bool false, .bool false, .bool false, .bool false, .bool false, .bool false, .bool false, .bool false, .bool false, .bool false, .bool false, .bool false, .bool false, .bool false, .bool false, .bool false, .bool false, .bool false, .bool false, .bool false, .int .i64 1] 67)) := (by repeat (first | exact Fine.refl _ | assumption | refine Fine.alloc ?_ _ | refine Fine.drew ?_ | refine Fine.drewN ?_ _ | refine Fine.trans ?_ (by assumption) | (refine Fine.kept ?_ (by assumption) (by intro x hx; first | omega | (simp; omega))) | (refine Fine.setCell ?_ (by first | assumption | (simp; omega)) _)))
    have hg : w.heap.size ≤ w1.heap.size := f1.size
    generalize (w1.alloc (.cells #[.bool false, .bool false, .bool false, .bool false, .bool false, .bool false, .bool false, .bool false, .bool false, .bool false, .bool false, .bool false, .bool false, .bool false, .bool false, .bool false, .bool false, .bool false, .bool false, .bool false, .bool false, .bool false, .bool false, .bool false, .int .i64 1] 67)) = w2 at hP0 f2 ⊢
    generalize w1.heap.size = g at hP0 hg ⊢
    have c0 := hP0.cell (i := n) (by omega)
    have c1 := hP0.cell (i := 4 + k) (by omega)
    have c2 := hP0.cell (i := 8 + n * 4 + k) (by omega)
    rw [rep_at] at c0 c1 c2
    have r0 := hP0.frozen n
    have r1 := hP0.frozen (4 + k)
    have r2 := hP0.frozen (8 + n * 4 + k)
    have n1 : n ≠ 4 + k := by omega
    have n2 : n ≠ 8 + n * 4 + k := by omega
    have n3 : 4 + k ≠ 8 + n * 4 + k := by omega
    have n4 : 4 + k ≠ n := by omega
    have n5 : 8 + n * 4 + k ≠ n := by omega
    have n6 : 8 + n * 4 + k ≠ 4 + k := by omega
    have HP := Lib.hid hP0; clear hP0
    go_region
    go_wp2
    go_ret2
    exact ⟨g, _, rfl, by rw [HC.out]; exact ((HP.out.set_ (i := n) (by omega) true).set_ (i := 4 + k) (by omega) true).set_ (i := 8 + n * 4 + k) (by omega) true, fresh_set hn hk, hg, by repeat (first | assumption | refine Fine.drew ?_ | refine Fine.setCell ?_ (by first | assumption | (simp; omega)) _)⟩
  · go_enter Try.func8, Try.ntmps8
    go_wp2_with fail
    refine (may2 _ _ _ _ rfl).mono ?_; rintro e w1 ⟨rfl, f1⟩
    rw [HM.out]
    go_wp2_with fail
    have hP0 := PMB.zero w1 8
    have f2 : Fine w (w1.alloc (.cells #[.bool false, .bool false, .bool false, .bool false, .bool false, .bool false, .bool false, .bool false, .bool false, .bool false, .bool false, .bool false, .bool false, .bool false, .bool false, .bool false, .bool false, .bool false, .bool false, .bool false, .bool false, .bool false, .bool false, .bool false, .int .i64 8] 67)) := (by repeat (first | exact Fine.refl _ | assumption | refine Fine.alloc ?_ _ | refine Fine.drew ?_ | refine Fine.drewN ?_ _ | refine Fine.trans ?_ (by assumption) | (refine Fine.kept ?_ (by assumption) (by intro x hx; first | omega | (simp; omega))) | (refine Fine.setCell ?_ (by first | assumption | (simp; omega)) _)))
    have hg : w.heap.size ≤ w1.heap.size := f1.size
    generalize (w1.alloc (.cells #[.bool false, .bool false, .bool false, .bool false, .bool false, .bool false, .bool false, .bool false, .bool false, .bool false, .bool false, .bool false, .bool false, .bool false, .bool false, .bool false, .bool false, .bool false, .bool false, .bool false, .bool false, .bool false, .bool false, .bool false, .int .i64 8] 67)) = w2 at hP0 f2 ⊢
    generalize w1.heap.size = g at hP0 hg ⊢
    have c0 := hP0.cell (i := n) (by omega)
    have c1 := hP0.cell (i := 4 + k) (by omega)
    have c2 := hP0.cell (i := 8 + n * 4 + k) (by omega)
    rw [rep_at] at c0 c1 c2
    have r0 := hP0.frozen n
    have r1 := hP0.frozen (4 + k)
    have r2 := hP0.frozen (8 + n * 4 + k)
    have n1 : n ≠ 4 + k := by omega
    have n2 : n ≠ 8 + n * 4 + k := by omega
    have n3 : 4 + k ≠ 8 + n * 4 + k := by omega
    have n4 : 4 + k ≠ n := by omega
    have n5 : 8 + n * 4 + k ≠ n := by omega
    have n6 : 8 + n * 4 + k ≠ 4 + k := by omega
    have HP := Lib.hid hP0; clear hP0
    go_region
    go_wp2
    go_ret2
    exact ⟨g, _, rfl, by rw [HC.out]; exact ((HP.out.set_ (i := n) (by omega) true).set_ (i := 4 + k) (by omega) true).set_ (i := 8 + n * 4 + k) (by omega) true, fresh_set hn hk, hg, by repeat (first | assumption | refine Fine.drew ?_ | refine Fine.setCell ?_ (by first | assumption | (simp; omega)) _)⟩
  · go_enter Try.func8, Try.ntmps8
    go_wp2_with fail
    refine (may2 _ _ _ _ rfl).mono ?_; rintro e w1 ⟨rfl, f1⟩
    rw [HM.out]
    go_wp2_with fail
    have hP0 := PMB.zero w1 c
    have f2 : Fine w (w1.alloc (.cells #[.bool false, .bool false, .bool false, .bool false, .bool false, .bool false, .bool false, .bool false, .bool false, .bool false, .bool false, .bool false, .bool false, .bool false, .bool false, .bool false, .bool false, .bool false, .bool false, .bool false, .bool false, .bool false, .bool false, .bool false, .int .i64 c] 67)) := (by repeat (first | exact Fine.refl _ | assumption | refine Fine.alloc ?_ _ | refine Fine.drew ?_ | refine Fine.drewN ?_ _ | refine Fine.trans ?_ (by assumption) | (refine Fine.kept ?_ (by assumption) (by intro x hx; first | omega | (simp; omega))) | (refine Fine.setCell ?_ (by first | assumption | (simp; omega)) _)))
    have hg : w.heap.size ≤ w1.heap.size := f1.size
    generalize (w1.alloc (.cells #[.bool false, .bool false, .bool false, .bool false, .bool false, .bool false, .bool false, .bool false, .bool false, .bool false, .bool false, .bool false, .bool false, .bool false, .bool false, .bool false, .bool false, .bool false, .bool false, .bool false, .bool false, .bool false, .bool false, .bool false, .int .i64 c] 67)) = w2 at hP0 f2 ⊢
    generalize w1.heap.size = g at hP0 hg ⊢
    have c0 := hP0.cell (i := n) (by omega)
    have c1 := hP0.cell (i := 4 + k) (by omega)
    have c2 := hP0.cell (i := 8 + n * 4 + k) (by omega)
    rw [rep_at] at c0 c1 c2
    have r0 := hP0.frozen n
    have r1 := hP0.frozen (4 + k)
    have r2 := hP0.frozen (8 + n * 4 + k)
    have n1 : n ≠ 4 + k := by omega
    have n2 : n ≠ 8 + n * 4 + k := by omega
    have n3 : 4 + k ≠ 8 + n * 4 + k := by omega
    have n4 : 4 + k ≠ n := by omega
    have n5 : 8 + n * 4 + k ≠ n := by omega
    have n6 : 8 + n * 4 + k ≠ 4 + k := by omega
    have HP := Lib.hid hP0; clear hP0
    go_region
    go_wp2
    go_ret2
    exact ⟨g, _, rfl, by rw [HC.out]; exact ((HP.out.set_ (i := n) (by omega) true).set_ (i := 4 + k) (by omega) true).set_ (i := 8 + n * 4 + k) (by omega) true, fresh_set hn hk, hg, by repeat (first | assumption | refine Fine.drew ?_ | refine Fine.setCell ?_ (by first | assumption | (simp; omega)) _)⟩
end Go.Proofs.Ytbgdcpecpcmjdaa
