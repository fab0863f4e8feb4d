/- The laws RttOrder and RttSame: of two estimates with the same samples, but that each of the one is no less, the one's smoothed time is no less; samples that are all the same make the smoothed time near them. -/
import Derived.Test.YtjldgialhgfhmaaRtt
import Derived.Test.YtjldgialhgfhmaaOpen
import Derived.LoopTactic
namespace Go.Proofs.Ytjldgialhgfhmaa
open Go.ChangeShapes Go.WideShapes Go.ChangeAt Go.RowKit
set_option linter.unusedVariables false

theorem told_mono {x y : Est} (hh : x.has = y.has) (hs : x.s ≤ y.s) : x.told ≤ y.told := by unfold Est.told; rw [hh]; split <;> omega

theorem lawRttOrder (w : World) (a : Option Addr) (len cap : Nat) (zs : List Int) (hz : IntsIn .u8 w a len cap zs) (m : Int) (wm : (Lit.int .u8 m).wf = true) :
    Calls Try.prog 4 #[.slice a len cap, .int .u8 m] w fun e w' => e = .returned (.bool true) ∧ Below w.heap.size w w' := by
  show Calls _ _ _ _ fun e w' => e = .returned (.bool true) ∧ Fine w w'
  have hm := bounds_u8 wm
  obtain ⟨hlc, hcm, hzl, hnil, hwf, hcells⟩ := hz
  clear hcm
  clear wm
  go_enter Try.func4, Try.ntmps4
  go_wp2_with (go_at_call 17; refine (rttWakes _).mono ?_; rintro e w1 ⟨rfl, h1⟩)
  · go_ret
    exact ⟨rfl, (by repeat (first | exact Fine.refl _ | assumption | refine Fine.alloc ?_ _ | refine Fine.drew ?_ | refine Fine.drewN ?_ _ | refine Fine.trans ?_ (by assumption) | (refine Fine.kept ?_ (by assumption) (by intro x hx; first | omega | (simp; omega))) | (refine Fine.setCell ?_ (by first | assumption | (simp; omega)) _)))⟩
  · go_loopw [20] (fun i wr => ∃ k : Nat, k ≤ len ∧ i = .int .i64 k ∧ ∃ x y : Est, IsEst wr w1.heap.size x 0 ∧ IsEst wr (w1.heap.size + 1) y 0 ∧ x.has = y.has ∧ x.s ≤ y.s ∧ Fine w1 wr)
      (fun i _ => len - (intOf i).toNat)
    case atStart => exact ⟨0, Nat.zero_le _, rfl, est0, est0, (IsEst.new _).alloc _, by simpa using IsEst.new (w1.alloc _), rfl, Int.le_refl _, (by repeat (first | exact Fine.refl _ | assumption | refine Fine.alloc ?_ _ | refine Fine.drew ?_ | refine Fine.drewN ?_ _ | refine Fine.trans ?_ (by assumption) | (refine Fine.kept ?_ (by assumption) (by intro x hx; first | omega | (simp; omega))) | (refine Fine.setCell ?_ (by first | assumption | (simp; omega)) _)))⟩
    case round =>
      obtain ⟨k, hk, rfl, x, y, hx, hy, hxy, hs, hf⟩ := hrel
      have hxy' := Lib.hid hxy; clear hxy
      by_cases hlt : k < len
      · obtain ⟨b, off, rfl, hb, hc⟩ := hcells (by omega)
        have hck : wr.cell? ⟨b, off + k, none⟩ = some (.int .u8 (zs.getD k 0)) := ((h1.trans hf).cell hb).trans (hc k hlt)
        have hz := bounds_u8 (hwf (zs.getD k 0) (getD_mem zs k (by omega)))
        obtain ⟨z, hzz⟩ : ∃ z, zs.getD k 0 = z := ⟨_, rfl⟩
        rw [hzz] at hck hz
        have hm2 := next_mono hx.1 hy.1 hxy'.out hs z (z + m) (by omega)
        have htold := told_mono hm2.1 hm2.2
        have hm3 := Lib.hid hm2; clear hm2
        clear hcells hzz hc hwf hnil
        have hsz := hf.size
        go_wp2_with fail
        refine (sample_est w1.heap.size x 0 z _ hx).mono ?_; rintro e w2 ⟨rfl, hx2, k2⟩
        go_wp2_with fail
        refine (sample_est (w1.heap.size + 1) y 0 (z + m) _ (hy.kept k2 (by simp))).mono ?_; rintro e w3 ⟨rfl, hy3, k3⟩
        go_wp2_with fail
        refine (smooth_est w1.heap.size _ 0 _ (hx2.kept k3 (by simp))).mono ?_; rintro e w4 ⟨rfl, f4⟩
        go_wp2_with fail
        refine (smooth_est (w1.heap.size + 1) _ 0 _ (hy3.fine f4)).mono ?_; rintro e w5 ⟨rfl, f5⟩
        go_wp2
        go_roundw
        case rel => exact ⟨k + 1, by omega, by go_num, _, _, ((hx2.kept k3 (by simp)).fine f4).fine f5, (hy3.fine f4).fine f5, hm3.out.1, hm3.out.2, (by repeat (first | exact Fine.refl _ | assumption | refine Fine.alloc ?_ _ | refine Fine.drew ?_ | refine Fine.drewN ?_ _ | refine Fine.trans ?_ (by assumption) | (refine Fine.kept ?_ (by assumption) (by intro x hx; first | omega | (simp; omega))) | (refine Fine.setCell ?_ (by first | assumption | (simp; omega)) _)))⟩
        case measure => simp [intOf]; omega
      · go_wp2
        go_ret
        exact ⟨rfl, (by repeat (first | exact Fine.refl _ | assumption | refine Fine.alloc ?_ _ | refine Fine.drew ?_ | refine Fine.drewN ?_ _ | refine Fine.trans ?_ (by assumption) | (refine Fine.kept ?_ (by assumption) (by intro x hx; first | omega | (simp; omega))) | (refine Fine.setCell ?_ (by first | assumption | (simp; omega)) _)))⟩
end Go.Proofs.Ytjldgialhgfhmaa
