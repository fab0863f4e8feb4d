/- The laws OctetPuts and OctetCuts. -/
import Derived.Test.YthnennleblgjeaaOctPut
namespace Go.Proofs.Ythnennleblgjeaa
open Go.ChangeShapes Go.WideShapes Go.ChangeAt Go.RowKit
set_option linter.unusedVariables false

theorem lawOctetCuts (w : World) (a : Option Addr) (len cap : Nat) (zs : List Int) (hz : IntsIn .u8 w a len cap zs) (m : Int) (wm : (Lit.int .u16 m).wf = true) :
    Calls Try.prog 6 #[.slice a len cap, .int .u16 m] w fun e w' => e = .returned (.bool true) ∧ Below w.heap.size w w' := by
  show Calls _ _ _ _ fun e w' => e = .returned (.bool true) ∧ Fine w w'
  have hm := bounds_u16 wm
  have hb := BS.of_ints hz
  have hl : zs.length = len := hz.2.2.1
  have hlc : len ≤ cap := hz.1
  have hcm : cap ≤ 9223372036854775807 := by have := hz.2.1; unfold maxLen at this; omega
  subst hl
  have HB := Lib.hid hb
  clear hb hz wm
  by_cases h5 : 500 < zs.length
  · go_enter Try.func6, Try.ntmps6
    go_wp2_with fail
    refine (oct_wakes _).mono ?_; rintro e w1 ⟨rfl, f1⟩
    go_wp2
    go_ret
    exact ⟨rfl, (by repeat (first | exact Fine.refl _ | assumption | refine Fine.alloc ?_ _ | refine Fine.drew ?_ | refine Fine.drewN ?_ _ | refine Fine.trans ?_ (by assumption) | (refine Fine.kept ?_ (by assumption) (by intro x hx; first | omega | (simp; omega))) | (refine Fine.setCell ?_ (by first | assumption | (simp; omega)) _)))⟩
  · obtain ⟨q, hq⟩ : ∃ q : Nat, (q : Int) = m % ((zs.length : Int) + 1) := ⟨(m % ((zs.length : Int) + 1)).toNat, Int.toNat_of_nonneg (Int.emod_nonneg _ (by omega))⟩
    have hq1 : q ≤ zs.length := by
      have := Int.emod_lt_of_pos m (show (0 : Int) < (zs.length : Int) + 1 by omega)
      omega
    have HQ := Lib.hid hq; clear hq
    clear hlc hcm
    have hle : zs.length ≤ 500 := by omega
    go_enter Try.func6, Try.ntmps6
    go_wp2_with fail
    refine (oct_wakes _).mono ?_; rintro e w1 ⟨rfl, f1⟩
    go_wp2_with fail
    rw [← HQ.out]
    refine (cut_any a cap zs q hq1 (by omega) _ (HB.out.fine (by repeat (first | exact Fine.refl _ | assumption | refine Fine.alloc ?_ _ | refine Fine.drew ?_ | refine Fine.drewN ?_ _ | refine Fine.trans ?_ (by assumption) | (refine Fine.kept ?_ (by assumption) (by intro x hx; first | omega | (simp; omega))) | (refine Fine.setCell ?_ (by first | assumption | (simp; omega)) _))))).mono ?_; rintro e w2 ⟨u2, v2, rfl, ou2, ov2, f2⟩
    go_wp2_with fail
    refine (cut_any a cap zs zs.length (Nat.le_refl _) (by omega) _ (HB.out.fine (by repeat (first | exact Fine.refl _ | assumption | refine Fine.alloc ?_ _ | refine Fine.drew ?_ | refine Fine.drewN ?_ _ | refine Fine.trans ?_ (by assumption) | (refine Fine.kept ?_ (by assumption) (by intro x hx; first | omega | (simp; omega))) | (refine Fine.setCell ?_ (by first | assumption | (simp; omega)) _))))).mono ?_; rintro e w3 ⟨u3, v3, rfl, ou3, ov3, f3⟩
    rw [List.take_length] at ou3
    rw [List.drop_length] at ov3
    obtain ⟨A2, c2, rfl, bu2, _⟩ := ou2.form
    obtain ⟨B2, d2, rfl, bv2, _⟩ := ov2.form
    obtain ⟨A3, c3, rfl, bu3, _⟩ := ou3.form
    obtain ⟨B3, d3, rfl, bv3, _⟩ := ov3.form
    have hfl : [zs.take q, zs.drop q].flatten = zs := by simp
    have HF := Lib.hid hfl; clear hfl
    have K1 := Lib.hid bu2
    have K2 := Lib.hid bv2
    have K3 := Lib.hid bu3
    clear bu2 bv2 bu3 bv3 ou2 ov2 ou3 ov3
    obtain ⟨t2, ht2⟩ : ∃ t, zs.take q = t := ⟨_, rfl⟩
    obtain ⟨r2, hr2⟩ : ∃ t, zs.drop q = t := ⟨_, rfl⟩
    rw [ht2] at K1 HF ⊢
    rw [hr2] at K2 HF ⊢
    clear ht2 hr2
    go_wp2_with fail
    have J := join_any (some ⟨w3.heap.size, 0, none⟩) 2 2 [t2, r2] _ (BSS.two (Blk.new w3 24 _) rfl rfl ((K1.out.fine f3).fine (by repeat (first | exact Fine.refl _ | assumption | refine Fine.alloc ?_ _ | refine Fine.drew ?_ | refine Fine.drewN ?_ _ | refine Fine.trans ?_ (by assumption) | (refine Fine.kept ?_ (by assumption) (by intro x hx; first | omega | (simp; omega))) | (refine Fine.setCell ?_ (by first | assumption | (simp; omega)) _)))) ((K2.out.fine f3).fine (by repeat (first | exact Fine.refl _ | assumption | refine Fine.alloc ?_ _ | refine Fine.drew ?_ | refine Fine.drewN ?_ _ | refine Fine.trans ?_ (by assumption) | (refine Fine.kept ?_ (by assumption) (by intro x hx; first | omega | (simp; omega))) | (refine Fine.setCell ?_ (by first | assumption | (simp; omega)) _))))) rfl (by rw [HF.out]; omega) (by simp)
    rw [HF.out] at J
    refine J.mono ?_; rintro e w4 ⟨v4, rfl, o4, f4⟩
    clear J
    obtain ⟨A4, c4, rfl, b4, _⟩ := o4.form
    have K4 := Lib.hid b4; clear b4 o4
    go_wp2_with fail
    refine (same_any A4 a c4 cap zs zs _ K4.out (HB.out.fine (by repeat (first | exact Fine.refl _ | assumption | refine Fine.alloc ?_ _ | refine Fine.drew ?_ | refine Fine.drewN ?_ _ | refine Fine.trans ?_ (by assumption) | (refine Fine.kept ?_ (by assumption) (by intro x hx; first | omega | (simp; omega))) | (refine Fine.setCell ?_ (by first | assumption | (simp; omega)) _)))) (by omega)).mono ?_; rintro e w5 ⟨rfl, f5⟩
    go_wp2_with fail
    refine (same_any A3 a c3 cap zs zs _ (K3.out.fine (by repeat (first | exact Fine.refl _ | assumption | refine Fine.alloc ?_ _ | refine Fine.drew ?_ | refine Fine.drewN ?_ _ | refine Fine.trans ?_ (by assumption) | (refine Fine.kept ?_ (by assumption) (by intro x hx; first | omega | (simp; omega))) | (refine Fine.setCell ?_ (by first | assumption | (simp; omega)) _)))) (HB.out.fine (by repeat (first | exact Fine.refl _ | assumption | refine Fine.alloc ?_ _ | refine Fine.drew ?_ | refine Fine.drewN ?_ _ | refine Fine.trans ?_ (by assumption) | (refine Fine.kept ?_ (by assumption) (by intro x hx; first | omega | (simp; omega))) | (refine Fine.setCell ?_ (by first | assumption | (simp; omega)) _)))) (by omega)).mono ?_; rintro e w6 ⟨rfl, f6⟩
    go_wp2
    go_ret
    exact ⟨ret_bool (by simp), (by repeat (first | exact Fine.refl _ | assumption | refine Fine.alloc ?_ _ | refine Fine.drew ?_ | refine Fine.drewN ?_ _ | refine Fine.trans ?_ (by assumption) | (refine Fine.kept ?_ (by assumption) (by intro x hx; first | omega | (simp; omega))) | (refine Fine.setCell ?_ (by first | assumption | (simp; omega)) _)))⟩
end Go.Proofs.Ythnennleblgjeaa
