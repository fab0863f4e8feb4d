/- The law RttActs: whatever is sampled and doubled, the wait, and the smoothed time, are what the document says. -/
import Derived.Test.YtjldgialhgfhmaaRttSame
import Derived.Test.YtjldgialhgfhmaaRttRef
namespace Go.Proofs.Ytjldgialhgfhmaa
open Go.ChangeShapes Go.WideShapes Go.ChangeAt Go.RowKit
set_option linter.unusedVariables false

theorem lawRttActs (w : World) (a : Option Addr) (len cap : Nat) (zs : Nat → Nat → Int) (hz : RecsIn .i64 2 w a len cap zs) :
    Calls Try.prog 6 #[.slice a len cap] w fun e w' => e = .returned (.bool true) ∧ Below w.heap.size w w' := by
  show Calls _ _ _ _ fun e w' => e = .returned (.bool true) ∧ Fine w w'
  obtain ⟨hlc, hcm, hnil, hwf, hcells⟩ := hz
  clear hcm
  go_enter Try.func6, Try.ntmps6
  go_wp2_with fail
  refine (rttWakes _).mono ?_; rintro e w1 ⟨rfl, h1⟩; have hs1 := h1.size
  go_wp2
  · go_ret
    exact ⟨rfl, (by repeat (first | exact Fine.refl _ | assumption | refine Fine.alloc ?_ _ | refine Fine.drew ?_ | refine Fine.drewN ?_ _ | refine Fine.trans ?_ (by assumption) | (refine Fine.kept ?_ (by assumption) (by intro x hx; first | omega | (simp; omega))) | (refine Fine.setCell ?_ (by first | assumption | (simp; omega)) _)))⟩
  · go_loopw [18] (fun i wr => ∃ k : Nat, k ≤ len ∧ i = .int .i64 k ∧ ∃ (x : Est) (n : Nat), n ≤ k ∧ IsEst wr w1.heap.size x (min n 16) ∧ IsRef wr (w1.heap.size + 1) x n ∧ Fine w1 wr)
      (fun i _ => len - (intOf i).toNat)
    case atStart => exact ⟨0, Nat.zero_le _, rfl, est0, 0, Nat.le_refl _, (IsEst.new _).alloc _, by simpa using IsRef.new (w1.alloc _), (by repeat (first | exact Fine.refl _ | assumption | refine Fine.alloc ?_ _ | refine Fine.drew ?_ | refine Fine.drewN ?_ _ | refine Fine.trans ?_ (by assumption) | (refine Fine.kept ?_ (by assumption) (by intro x hx; first | omega | (simp; omega))) | (refine Fine.setCell ?_ (by first | assumption | (simp; omega)) _)))⟩
    case round =>
      obtain ⟨k, hk, rfl, x, n, hn, hx, hy, hf⟩ := hrel
      have hsz := hf.size
      by_cases hlt : k < len
      · obtain ⟨b, off, rfl, hb, hc⟩ := hcells (by omega)
        have hc0 : wr.cell? ⟨b, off + k * 2, none⟩ = some (.int .i64 (zs k 0)) := ((h1.trans hf).cell hb).trans (hc k 0 hlt (by omega))
        have hc1 : wr.cell? ⟨b, off + k * 2 + 1, none⟩ = some (.int .i64 (zs k 1)) := ((h1.trans hf).cell hb).trans (hc k 1 hlt (by omega))
        have hw1 := hwf k 1 hlt (by omega)
        obtain ⟨z0, hz0⟩ : ∃ z, zs k 0 = z := ⟨_, rfl⟩
        obtain ⟨z1, hz1⟩ : ∃ z, zs k 1 = z := ⟨_, rfl⟩
        rw [hz0] at hc0
        rw [hz1] at hc1 hw1
        clear hcells hz0 hz1 hc hwf hnil
        go_wp2_with fail
        · have hL : Blk (wr.alloc (.cells #[.int .i64 z0, .int .i64 z1] 38)) wr.heap.size 38 #[.int .i64 z0, .int .i64 z1] := Blk.new _ _ _
          refine (sample_est w1.heap.size x _ z1 _ (hx.alloc _)).mono ?_; rintro e w2 ⟨rfl, hx2, k2⟩
          have hlt2 := hx.lt
          have hL2 := hL.kept k2 (by omega)
          have cL : w2.cell? ⟨wr.heap.size, 1, none⟩ = some (.int .i64 z1) := hL2.cell 1
          go_wp2_with fail
          refine (rsample (w1.heap.size + 1) x n z1 hw1 _ ((hy.fine ((Fine.refl _).alloc _)).kept k2 (by simp))).mono ?_; rintro e w3 ⟨rfl, HY, k3⟩
          have HX := hx2.kept k3 (by simp)
          go_wp2_with fail
          refine (wait_estN w1.heap.size (x.next z1) n _ rfl _ HX).mono ?_; rintro e w4 ⟨rfl, f4⟩
          go_wp2_with fail
          refine (wait_ref (w1.heap.size + 1) (x.next z1) n (by omega) _ (HY.fine f4)).mono ?_; rintro e w5 ⟨rfl, f5⟩
          go_wp2_with fail
          refine (smooth_est w1.heap.size (x.next z1) _ _ ((HX.fine f4).fine f5)).mono ?_; rintro e w6 ⟨rfl, f6⟩
          go_wp2_with fail
          refine (told_ref (w1.heap.size + 1) (x.next z1) n _ (((HY.fine f4).fine f5).fine f6)).mono ?_; rintro e w7 ⟨rfl, f7⟩
          go_wp2
          go_roundw
          case rel => exact ⟨k + 1, by omega, by go_num, (x.next z1), n, by omega, (((HX.fine f4).fine f5).fine f6).fine f7, (((HY.fine f4).fine f5).fine f6).fine f7, (by repeat (first | exact Fine.refl _ | assumption | refine Fine.alloc ?_ _ | refine Fine.drew ?_ | refine Fine.drewN ?_ _ | refine Fine.trans ?_ (by assumption) | (refine Fine.kept ?_ (by assumption) (by intro x hx; first | omega | (simp; omega))) | (refine Fine.setCell ?_ (by first | assumption | (simp; omega)) _)))⟩
          case measure => simp [intOf]; omega
        · refine (back_estN w1.heap.size x n _ (hx.alloc _)).mono ?_; rintro e w2 ⟨rfl, HX0, k2⟩
          have HY2 := ((hy.fine ((Fine.refl _).alloc _)).kept k2 (by simp))
          have cN : w2.cell? ⟨w1.heap.size + 1, 3, none⟩ = some (.int .i64 n) := HY2.2.cell 3
          have fN : w2.frozen? ⟨w1.heap.size + 1, 3, none⟩ = false := HY2.2.frozen 3
          have k3 : Kept (· = w1.heap.size + 1) w2 (w2.setCell ⟨w1.heap.size + 1, 3, none⟩ (.int .i64 (n + 1 : Nat))) := (by repeat (first | exact Kept.refl _ _ | assumption | (refine Kept.setIn ?_ (by simp) _) | refine Kept.alloc ?_ _ | refine Kept.drew ?_ | refine Kept.drewN ?_ _ | refine Kept.trans ?_ (by assumption) | refine Kept.trans ?_ (Kept.of_fine (by assumption))))
          have HX := HX0.kept k3 (by simp)
          have HY : IsRef (w2.setCell ⟨w1.heap.size + 1, 3, none⟩ (.int .i64 (n + 1 : Nat))) (w1.heap.size + 1) x (n + 1) := ⟨HY2.1, HY2.2.set_ 3 _⟩
          rw [show ((n + 1 : Nat) : Int) = (n : Int) + 1 by omega] at k3 HX HY
          go_wp2_with fail
          refine (wait_estN w1.heap.size x (n + 1) _ rfl _ HX).mono ?_; rintro e w4 ⟨rfl, f4⟩
          go_wp2_with fail
          refine (wait_ref (w1.heap.size + 1) x (n + 1) (by omega) _ (HY.fine f4)).mono ?_; rintro e w5 ⟨rfl, f5⟩
          go_wp2_with fail
          refine (smooth_est w1.heap.size x _ _ ((HX.fine f4).fine f5)).mono ?_; rintro e w6 ⟨rfl, f6⟩
          go_wp2_with fail
          refine (told_ref (w1.heap.size + 1) x (n + 1) _ (((HY.fine f4).fine f5).fine f6)).mono ?_; rintro e w7 ⟨rfl, f7⟩
          go_wp2
          go_roundw
          case rel => exact ⟨k + 1, by omega, by go_num, x, (n + 1), by omega, (((HX.fine f4).fine f5).fine f6).fine f7, (((HY.fine f4).fine f5).fine f6).fine f7, (by repeat (first | exact Fine.refl _ | assumption | refine Fine.alloc ?_ _ | refine Fine.drew ?_ | refine Fine.drewN ?_ _ | refine Fine.trans ?_ (by assumption) | (refine Fine.kept ?_ (by assumption) (by intro x hx; first | omega | (simp; omega))) | (refine Fine.setCell ?_ (by first | assumption | (simp; omega)) _)))⟩
          case measure => simp [intOf]; omega
        · refine (fresh_est w1.heap.size x _ _ (hx.alloc _)).mono ?_; rintro e w2 ⟨rfl, HX0, k2⟩
          have HY2 := ((hy.fine ((Fine.refl _).alloc _)).kept k2 (by simp))
          have cN : w2.cell? ⟨w1.heap.size + 1, 3, none⟩ = some (.int .i64 n) := HY2.2.cell 3
          have fN : w2.frozen? ⟨w1.heap.size + 1, 3, none⟩ = false := HY2.2.frozen 3
          have k3 : Kept (· = w1.heap.size + 1) w2 (w2.setCell ⟨w1.heap.size + 1, 3, none⟩ (.int .i64 (0 : Nat))) := (by repeat (first | exact Kept.refl _ _ | assumption | (refine Kept.setIn ?_ (by simp) _) | refine Kept.alloc ?_ _ | refine Kept.drew ?_ | refine Kept.drewN ?_ _ | refine Kept.trans ?_ (by assumption) | refine Kept.trans ?_ (Kept.of_fine (by assumption))))
          have HX : IsEst _ w1.heap.size x (min 0 16) := HX0.kept k3 (by simp)
          have HY : IsRef (w2.setCell ⟨w1.heap.size + 1, 3, none⟩ (.int .i64 (0 : Nat))) (w1.heap.size + 1) x 0 := ⟨HY2.1, HY2.2.set_ 3 _⟩
          go_wp2_with fail
          refine (wait_estN w1.heap.size x 0 _ rfl _ HX).mono ?_; rintro e w4 ⟨rfl, f4⟩
          go_wp2_with fail
          refine (wait_ref (w1.heap.size + 1) x 0 (by omega) _ (HY.fine f4)).mono ?_; rintro e w5 ⟨rfl, f5⟩
          go_wp2_with fail
          refine (smooth_est w1.heap.size x _ _ ((HX.fine f4).fine f5)).mono ?_; rintro e w6 ⟨rfl, f6⟩
          go_wp2_with fail
          refine (told_ref (w1.heap.size + 1) x 0 _ (((HY.fine f4).fine f5).fine f6)).mono ?_; rintro e w7 ⟨rfl, f7⟩
          go_wp2
          go_roundw
          case rel => exact ⟨k + 1, by omega, by go_num, x, 0, by omega, (((HX.fine f4).fine f5).fine f6).fine f7, (((HY.fine f4).fine f5).fine f6).fine f7, (by repeat (first | exact Fine.refl _ | assumption | refine Fine.alloc ?_ _ | refine Fine.drew ?_ | refine Fine.drewN ?_ _ | refine Fine.trans ?_ (by assumption) | (refine Fine.kept ?_ (by assumption) (by intro x hx; first | omega | (simp; omega))) | (refine Fine.setCell ?_ (by first | assumption | (simp; omega)) _)))⟩
          case measure => simp [intOf]; omega
        · have HX : IsEst (wr.alloc (.cells #[.int .i64 z0, .int .i64 z1] 38)) w1.heap.size x (min n 16) := hx.alloc _
          have HY : IsRef (wr.alloc (.cells #[.int .i64 z0, .int .i64 z1] 38)) (w1.heap.size + 1) x n := hy.fine ((Fine.refl _).alloc _)
          refine (wait_estN w1.heap.size x n _ rfl _ HX).mono ?_; rintro e w4 ⟨rfl, f4⟩
          go_wp2_with fail
          refine (wait_ref (w1.heap.size + 1) x n (by omega) _ (HY.fine f4)).mono ?_; rintro e w5 ⟨rfl, f5⟩
          go_wp2_with fail
          refine (smooth_est w1.heap.size x _ _ ((HX.fine f4).fine f5)).mono ?_; rintro e w6 ⟨rfl, f6⟩
          go_wp2_with fail
          refine (told_ref (w1.heap.size + 1) x n _ (((HY.fine f4).fine f5).fine f6)).mono ?_; rintro e w7 ⟨rfl, f7⟩
          go_wp2
          go_roundw
          case rel => exact ⟨k + 1, by omega, by go_num, x, n, by omega, (((HX.fine f4).fine f5).fine f6).fine f7, (((HY.fine f4).fine f5).fine f6).fine f7, (by repeat (first | exact Fine.refl _ | assumption | refine Fine.alloc ?_ _ | refine Fine.drew ?_ | refine Fine.drewN ?_ _ | refine Fine.trans ?_ (by assumption) | (refine Fine.kept ?_ (by assumption) (by intro x hx; first | omega | (simp; omega))) | (refine Fine.setCell ?_ (by first | assumption | (simp; omega)) _)))⟩
          case measure => simp [intOf]; omega
      · clear hcells hwf hnil
        go_wp2
        go_ret
        exact ⟨rfl, (by repeat (first | exact Fine.refl _ | assumption | refine Fine.alloc ?_ _ | refine Fine.drew ?_ | refine Fine.drewN ?_ _ | refine Fine.trans ?_ (by assumption) | (refine Fine.kept ?_ (by assumption) (by intro x hx; first | omega | (simp; omega))) | (refine Fine.setCell ?_ (by first | assumption | (simp; omega)) _)))⟩
end Go.Proofs.Ytjldgialhgfhmaa
