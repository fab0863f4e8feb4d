/- The law SumChanged. -/
import Derived.Test.YthnennleblgjeaaSumLaw
namespace Go.Proofs.Ythnennleblgjeaa
open Go.ChangeShapes Go.WideShapes Go.ChangeAt Go.RowKit
set_option linter.unusedVariables false

theorem lawSumChanged (w : World) (a : Option Addr) (len cap : Nat) (zs : List Int) (hz : IntsIn .u8 w a len cap zs) (n : Int) (wn : (Lit.int .u16 n).wf = true) (y : Int) (wy : (Lit.int .u8 y).wf = true) :
    Calls Try.prog 12 #[.slice a len cap, .int .u16 n, .int .u8 y] w fun e w' => e = .returned (.bool true) ∧ Below w.heap.size w w' := by
  show Calls _ _ _ _ fun e w' => e = .returned (.bool true) ∧ Fine w w'
  have hn := bounds_u16 wn
  have hy := bounds_u8 wy
  have hb := BS.of_ints hz
  have hl : zs.length = len := hz.2.2.1
  subst hl
  have HB := Lib.hid hb
  clear hb hz wn wy
  by_cases h5 : 2000 < zs.length
  · go_enter Try.func12, Try.ntmps12
    go_wp2_with fail
    refine (sum_wakes _).mono ?_; rintro e w1 ⟨rfl, f1⟩
    go_wp2
    go_ret
    exact ⟨rfl, (by repeat (first | exact Fine.refl _ | assumption | refine Fine.alloc ?_ _ | refine Fine.drew ?_ | refine Fine.drewN ?_ _ | refine Fine.trans ?_ (by assumption) | (refine Fine.kept ?_ (by assumption) (by intro x hx; first | omega | (simp; omega))) | (refine Fine.setCell ?_ (by first | assumption | (simp; omega)) _)))⟩
  · by_cases hy0 : y = 0
    · subst hy0
      go_enter Try.func12, Try.ntmps12
      go_wp2_with fail
      refine (sum_wakes _).mono ?_; rintro e w1 ⟨rfl, f1⟩
      go_wp2
      go_ret
      exact ⟨rfl, (by repeat (first | exact Fine.refl _ | assumption | refine Fine.alloc ?_ _ | refine Fine.drew ?_ | refine Fine.drewN ?_ _ | refine Fine.trans ?_ (by assumption) | (refine Fine.kept ?_ (by assumption) (by intro x hx; first | omega | (simp; omega))) | (refine Fine.setCell ?_ (by first | assumption | (simp; omega)) _)))⟩
    · have hle : zs.length ≤ 2000 := by omega
      have hyb : (y == 0) = false := by simp [hy0]
      have hle' : ¬ (2000 < (zs.length : Int)) := by omega
      have HG := Lib.hid (good_put HB.out.1)
      have HPL := Lib.hid (putOf_length zs)
      have HPB := Lib.hid (putOf_bytes HB.out.1)
      have hpl := pad_le zs
      obtain ⟨P, hP⟩ : ∃ P, putOf zs = P := ⟨_, rfl⟩
      rw [hP] at HG HPL HPB
      have HPut := Lib.hid (fun w h => hP ▸ sumput_any a cap zs w h (by omega))
      clear hP
      have hp1 : P.length ≤ 2003 := by have := HPL.out; omega
      have hp2 : 2 ≤ P.length := by have := HPL.out; omega
      go_enter Try.func12, Try.ntmps12
      go_wp2_with fail
      refine (sum_wakes _).mono ?_; rintro e w1 ⟨rfl, f1⟩
      go_wp2_with fail
      refine (HPut.out _ (HB.out.fine f1)).mono ?_; rintro e w2 ⟨v2, rfl, o2, f2⟩
      obtain ⟨A2, c2, rfl, b2, _⟩ := o2.form
      obtain ⟨g, rfl, hg1, hg2⟩ := o2.head (by omega)
      have F2 : Fine w w2 := f1.trans f2
      have hz1 := f1.size
      obtain ⟨i, hi⟩ : ∃ i : Nat, (n.toNat % P.length) = i := ⟨_, rfl⟩
      have hil : i < P.length := by rw [← hi]; exact Nat.mod_lt _ (by omega)
      have hq : n % (P.length : Int) = (i : Int) := by
        rw [← hi, Int.natCast_emod, Int.toNat_of_nonneg hn.1]
      clear hi
      obtain ⟨b', off', e7, _, hc⟩ := b2.at_ (k := i) hil
      injection e7 with e7
      injection e7 with e71 e72 _
      subst e71 e72
      rw [Nat.zero_add] at hc
      have hfro := o2.frozen i
      have hzb := HPB.out.getD i
      obtain ⟨x, hx⟩ : ∃ x, P.getD i 0 = x := ⟨_, rfl⟩
      rw [hx] at hc hzb
      have HS := Lib.hid (o2.stored i (z := (x + y) % 256) (by omega))
      have HC := Lib.hid (good_changed HPB.out HG.out i hil ((x + y) % 256) (by omega) (by rw [hx]; omega))
      clear o2 b2 hx
      go_wp2_with fail
      have F3 : Fine w (w2.setCell ⟨g, i, none⟩ (.int .u8 ((x + y) % 256))) := F2.setCell (by show w.heap.size ≤ g; omega) _
      refine (good_any _ _ c2 (P.set i ((x + y) % 256)) _ HS.out.bs.1 (by simp) (by simp; omega)).mono ?_; rintro e w3 ⟨rfl, f3⟩
      rw [HC.out]
      go_wp2
      go_ret
      exact ⟨rfl, F3.trans f3⟩
end Go.Proofs.Ythnennleblgjeaa
