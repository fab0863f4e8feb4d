/- The laws RttSame and RttBounds. -/
import Derived.Test.YtjldgialhgfhmaaRtt
import Derived.Test.YtjldgialhgfhmaaOpen
import Derived.LoopTactic
namespace Go.Proofs.Ytjldgialhgfhmaa
open Go.ChangeShapes Go.WideShapes Go.ChangeAt Go.RowKit
set_option linter.unusedVariables false

theorem base_same (r : Est) (t : Int) (h0 : 0 ≤ t) (hh : r.has = true) (hs : r.s = 8 * t) : min t 16 ≤ wait r.base 0 := by
  unfold wait Est.base
  simp [hh, hs]
  omega

theorem wait_estN (g : Nat) (r : Est) (j : Nat) (B : Int) (hB : r.base = B) (w : World) (h : IsEst w g r (min j 16)) :
    Calls Try.prog 20 #[.pointer (some ⟨g, 0, none⟩)] w fun e w' => e = .returned (.int .i64 (wait B j)) ∧ Fine w w' :=
  (wait_est g r _ w h).mono fun e w' ⟨he, hf⟩ => ⟨by rw [he, wait_cap _ _ (Est.base_bd r).1, hB], hf⟩
theorem back_estN (g : Nat) (r : Est) (j : Nat) (w : World) (h : IsEst w g r (min j 16)) :
    Calls Try.prog 21 #[.pointer (some ⟨g, 0, none⟩)] w fun e w' => e = .returned (.tuple #[]) ∧ IsEst w' g r (min (j + 1) 16) ∧ Kept (· = g) w w' :=
  (back_est g r _ w h).mono fun e w' ⟨he, hi, hk⟩ => ⟨he, by rw [show min (j + 1) 16 = min (min j 16 + 1) 16 by omega]; exact hi, hk⟩

theorem lawRttSame (w : World) (n : Int) (wn : (Lit.int .u8 n).wf = true) (m : Int) (wm : (Lit.int .u8 m).wf = true) :
    Calls Try.prog 3 #[.int .u8 n, .int .u8 m] w fun e w' => e = .returned (.bool true) ∧ Below w.heap.size w w' := by
  show Calls _ _ _ _ fun e w' => e = .returned (.bool true) ∧ Fine w w'
  have hm := bounds_u8 wm
  have hn := bounds_u8 wn
  clear wm wn
  obtain ⟨c, hc⟩ : ∃ c : Nat, 1 + m % 50 = c := ⟨(1 + m % 50).toNat, by omega⟩
  have ht0 : 0 ≤ n % 15 ∧ n % 15 < 15 := by omega
  have hc0 : 1 ≤ c ∧ c ≤ 50 := by omega
  go_enter Try.func3, Try.ntmps3
  go_wp2_with fail
  refine (rttWakes _).mono ?_; rintro e w1 ⟨rfl, h1⟩; have hs1 := h1.size
  go_wp2
  go_loopw [18] (fun i wr => ∃ k : Nat, k ≤ c ∧ i = .int .i64 k ∧ ∃ x : Est, IsEst wr w1.heap.size x 0 ∧ (x.has = true → x.s = 8 * (n % 15)) ∧ (1 ≤ k → x.has = true) ∧ Fine w1 wr)
      (fun i _ => c - (intOf i).toNat)
  case atStart => exact ⟨0, Nat.zero_le _, rfl, est0, IsEst.new _, (fun h => by cases h), (fun h => by omega), (by repeat (first | exact Fine.refl _ | assumption | refine Fine.alloc ?_ _ | refine Fine.drew ?_ | refine Fine.drewN ?_ _ | refine Fine.trans ?_ (by assumption) | (refine Fine.kept ?_ (by assumption) (by intro x hx; first | omega | (simp; omega))) | (refine Fine.setCell ?_ (by first | assumption | (simp; omega)) _)))⟩
  case round =>
    obtain ⟨k, hk, rfl, x, hx, hxs, hxh, hf⟩ := hrel
    have hsz := hf.size
    by_cases hlt : k < c
    · have hn2 := Lib.hid (next_same x (n % 15) ht0.1 (by omega) hxs)
      clear hxs hxh
      go_wp2_with fail
      refine (sample_est w1.heap.size x 0 (n % 15) _ hx).mono ?_; rintro e w2 ⟨rfl, hx2, k2⟩
      go_wp2
      go_roundw
      case rel => exact ⟨k + 1, by omega, by go_num, _, hx2, fun _ => hn2.out.2, fun _ => hn2.out.1, (by repeat (first | exact Fine.refl _ | assumption | refine Fine.alloc ?_ _ | refine Fine.drew ?_ | refine Fine.drewN ?_ _ | refine Fine.trans ?_ (by assumption) | (refine Fine.kept ?_ (by assumption) (by intro x hx; first | omega | (simp; omega))) | (refine Fine.setCell ?_ (by first | assumption | (simp; omega)) _)))⟩
      case measure => simp [intOf]; omega
    · have hh := hxh (by omega)
      have hs := hxs hh
      have hb := base_same x (n % 15) ht0.1 hh hs
      have htold : x.told = 8 * (n % 15) := by unfold Est.told; rw [hh]; exact hs
      have hw := wait_bd x.base 0 (Est.base_bd x).1
      clear hxs hxh hs hh
      go_wp2_with fail
      refine (smooth_est w1.heap.size _ 0 _ hx).mono ?_; rintro e w4 ⟨rfl, f4⟩
      go_wp2_with fail
      refine (wait_est w1.heap.size _ 0 _ (hx.fine f4)).mono ?_; rintro e w5 ⟨rfl, f5⟩
      go_wp2
      all_goals
        go_ret
        exact ⟨ret_bool (by simp; omega), (by repeat (first | exact Fine.refl _ | assumption | refine Fine.alloc ?_ _ | refine Fine.drew ?_ | refine Fine.drewN ?_ _ | refine Fine.trans ?_ (by assumption) | (refine Fine.kept ?_ (by assumption) (by intro x hx; first | omega | (simp; omega))) | (refine Fine.setCell ?_ (by first | assumption | (simp; omega)) _)))⟩

theorem lawRttBounds (w : World) (a : Option Addr) (len cap : Nat) (zs : List Int) (hz : IntsIn .i64 w a len cap zs) (m : Int) (wm : (Lit.int .u8 m).wf = true) :
    Calls Try.prog 5 #[.slice a len cap, .int .u8 m] w fun e w' => e = .returned (.bool true) ∧ Below w.heap.size w w' := by
  show Calls _ _ _ _ fun e w' => e = .returned (.bool true) ∧ Fine w w'
  have hm := bounds_u8 wm
  obtain ⟨c, rfl⟩ : ∃ c : Nat, m = c := ⟨m.toNat, by omega⟩
  obtain ⟨hlc, hcm, hzl, hnil, hwf, hcells⟩ := hz
  clear wm hcm
  go_enter Try.func5, Try.ntmps5
  go_wp2_with fail
  refine (rttWakes _).mono ?_; rintro e w1 ⟨rfl, h1⟩; have hs1 := h1.size
  go_wp2
  · go_ret
    exact ⟨rfl, (by repeat (first | exact Fine.refl _ | assumption | refine Fine.alloc ?_ _ | refine Fine.drew ?_ | refine Fine.drewN ?_ _ | refine Fine.trans ?_ (by assumption) | (refine Fine.kept ?_ (by assumption) (by intro x hx; first | omega | (simp; omega))) | (refine Fine.setCell ?_ (by first | assumption | (simp; omega)) _)))⟩
  · go_loopw [19] (fun i wr => ∃ k : Nat, k ≤ len ∧ i = .int .i64 k ∧ ∃ x : Est, IsEst wr w1.heap.size x 0 ∧ Fine w1 wr)
      (fun i _ => len - (intOf i).toNat)
    case atStart => exact ⟨0, Nat.zero_le _, rfl, est0, IsEst.new _, (by repeat (first | exact Fine.refl _ | assumption | refine Fine.alloc ?_ _ | refine Fine.drew ?_ | refine Fine.drewN ?_ _ | refine Fine.trans ?_ (by assumption) | (refine Fine.kept ?_ (by assumption) (by intro x hx; first | omega | (simp; omega))) | (refine Fine.setCell ?_ (by first | assumption | (simp; omega)) _)))⟩
    case round =>
      obtain ⟨k, hk, rfl, x, hx, hf⟩ := hrel
      have hsz := hf.size
      by_cases hlt : k < len
      · obtain ⟨b, off, rfl, hb, hc⟩ := hcells (by omega)
        have hck : wr.cell? ⟨b, off + k, none⟩ = some (.int .i64 (zs.getD k 0)) := ((h1.trans hf).cell hb).trans (hc k hlt)
        obtain ⟨z, hzz⟩ : ∃ z, zs.getD k 0 = z := ⟨_, rfl⟩
        rw [hzz] at hck
        clear hcells hzz hc hwf hnil
        go_wp2_with fail
        refine (sample_est w1.heap.size x 0 z _ hx).mono ?_; rintro e w2 ⟨rfl, hx2, k2⟩
        go_wp2
        go_roundw
        case rel => exact ⟨k + 1, by omega, by go_num, _, hx2, (by repeat (first | exact Fine.refl _ | assumption | refine Fine.alloc ?_ _ | refine Fine.drew ?_ | refine Fine.drewN ?_ _ | refine Fine.trans ?_ (by assumption) | (refine Fine.kept ?_ (by assumption) (by intro x hx; first | omega | (simp; omega))) | (refine Fine.setCell ?_ (by first | assumption | (simp; omega)) _)))⟩
        case measure => simp [intOf]; omega
      · clear hcells hwf hnil
        have hbb := Est.base_bd x
        obtain ⟨B, hB⟩ : ∃ B, x.base = B := ⟨_, rfl⟩
        rw [hB] at hbb
        have HB := Lib.hid hB; clear hB
        have hw0 := wait_zero B (by omega)
        go_wp2_with fail
        refine (wait_estN w1.heap.size x 0 B HB.out _ hx).mono ?_; rintro e w2 ⟨rfl, f2⟩
        go_wp2
        go_loopw [31, 9] (fun i l wr => ∃ j : Nat, j ≤ c ∧ i = .int .u8 j ∧ l = .int .i64 (wait B j) ∧ IsEst wr w1.heap.size x (min j 16) ∧ Fine w1 wr)
          (fun i _ _ => c - (intOf i).toNat)
        case atStart => exact ⟨0, Nat.zero_le _, rfl, by rw [hw0], hx.fine f2, (by repeat (first | exact Fine.refl _ | assumption | refine Fine.alloc ?_ _ | refine Fine.drew ?_ | refine Fine.drewN ?_ _ | refine Fine.trans ?_ (by assumption) | (refine Fine.kept ?_ (by assumption) (by intro x hx; first | omega | (simp; omega))) | (refine Fine.setCell ?_ (by first | assumption | (simp; omega)) _)))⟩
        case round =>
          obtain ⟨j, hj, rfl, rfl, hx2, hf2⟩ := hrel
          have hsz2 := hf2.size
          by_cases hlt2 : j < c
          · have hws := wait_succ B j (by omega)
            have hw1 := wait_bd B j (by omega)
            have hw2 := wait_bd B (j + 1) (by omega)
            have HWS := Lib.hid hws
            have hws' : min (2 * wait B j) 16 ≤ wait B (j + 1) := by omega
            have hws2 : wait B j ≤ wait B (j + 1) := by omega
            clear hws
            go_wp2_with fail
            refine (back_estN w1.heap.size x j _ hx2).mono ?_; rintro e w3 ⟨rfl, hx3, k3⟩
            go_wp2_with fail
            refine (wait_estN w1.heap.size x (j + 1) B HB.out _ hx3).mono ?_; rintro e w4 ⟨rfl, f4⟩
            go_wp2_with fail
            refine (wait_estN w1.heap.size x (j + 1) B HB.out _ (hx3.fine f4)).mono ?_; rintro e w5 ⟨rfl, f5⟩
            go_wp2_with fail
            refine (wait_estN w1.heap.size x (j + 1) B HB.out _ ((hx3.fine f4).fine f5)).mono ?_; rintro e w6 ⟨rfl, f6⟩
            go_wp2_with fail
            all_goals
              refine (wait_estN w1.heap.size x (j + 1) B HB.out _ (((hx3.fine f4).fine f5).fine f6)).mono ?_; rintro e w7 ⟨rfl, f7⟩
              go_wp2
              go_roundw
              case rel => exact ⟨j + 1, by omega, by go_num, rfl, (((hx3.fine f4).fine f5).fine f6).fine f7, (by repeat (first | exact Fine.refl _ | assumption | refine Fine.alloc ?_ _ | refine Fine.drew ?_ | refine Fine.drewN ?_ _ | refine Fine.trans ?_ (by assumption) | (refine Fine.kept ?_ (by assumption) (by intro x hx; first | omega | (simp; omega))) | (refine Fine.setCell ?_ (by first | assumption | (simp; omega)) _)))⟩
              case measure => simp [intOf]; omega
          · clear hw0
            have hw0 := Lib.hid (wait_zero B (by omega))
            go_wp2_with fail
            refine (fresh_est w1.heap.size x _ _ hx2).mono ?_; rintro e w3 ⟨rfl, hx3, k3⟩
            go_wp2_with fail
            refine (wait_estN w1.heap.size x 0 B HB.out _ hx3).mono ?_; rintro e w4 ⟨rfl, f4⟩
            rw [hw0.out]
            go_wp2
            go_ret
            exact ⟨ret_bool (by simp), (by repeat (first | exact Fine.refl _ | assumption | refine Fine.alloc ?_ _ | refine Fine.drew ?_ | refine Fine.drewN ?_ _ | refine Fine.trans ?_ (by assumption) | (refine Fine.kept ?_ (by assumption) (by intro x hx; first | omega | (simp; omega))) | (refine Fine.setCell ?_ (by first | assumption | (simp; omega)) _)))⟩
end Go.Proofs.Ytjldgialhgfhmaa
