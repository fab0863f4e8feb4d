/- The law OctetTakes: of any bytes what is taken, and cut, is what the document says, or refused as it says. -/
import Derived.Test.YthnennleblgjeaaOctPut
namespace Go.Proofs.Ythnennleblgjeaa
open Go.ChangeShapes Go.WideShapes Go.ChangeAt Go.RowKit
set_option linter.unusedVariables false

set_option maxHeartbeats 1000000 in
theorem takes_short (w : World) (a : Option Addr) (cap : Nat) (zs : List Int) (HB : Hid (BS w a cap zs)) (x n : Int) (hle : zs.length ≤ 500) (k : Nat) (hk : width x = k) (hw : 1 ≤ k ∧ k ≤ 8) (hs : zs.length < k) :
    Calls Try.prog 8 #[.slice a zs.length cap, .int .i64 x, .int .i64 n] w fun e w' => e = .returned (.bool true) ∧ Fine w w' := by
  have HW := Lib.hid (fun w => hk ▸ rwidth_any x w)
  have HT := Lib.hid (fun w => take_short a cap zs.length x (by omega) w)
  clear hk
  by_cases h0 : n < 0
  · go_enter Try.func8, Try.ntmps8
    go_wp2_with fail
    refine (oct_wakes _).mono ?_; rintro e w1 ⟨rfl, f1⟩
    go_wp2_with fail
    refine (HT.out _).mono ?_; rintro e w2 ⟨rfl, f2⟩
    go_wp2_with fail
    refine (HW.out _).mono ?_; rintro e w3 ⟨rfl, f3⟩
    go_wp2_with fail
    refine (cut_neg a _ cap n h0 _).mono ?_; rintro e w4 ⟨rfl, f4⟩
    go_wp2
    go_ret
    exact ⟨rfl, (by repeat (first | exact Fine.refl _ | assumption | refine Fine.alloc ?_ _ | refine Fine.drew ?_ | refine Fine.drewN ?_ _ | refine Fine.trans ?_ (by assumption) | (refine Fine.kept ?_ (by assumption) (by intro x hx; first | omega | (simp; omega))) | (refine Fine.setCell ?_ (by first | assumption | (simp; omega)) _)))⟩
  · have h0' : 0 ≤ n := by omega
    by_cases h1 : (zs.length : Int) < n
    · go_enter Try.func8, Try.ntmps8
      go_wp2_with fail
      refine (oct_wakes _).mono ?_; rintro e w1 ⟨rfl, f1⟩
      go_wp2_with fail
      refine (HT.out _).mono ?_; rintro e w2 ⟨rfl, f2⟩
      go_wp2_with fail
      refine (HW.out _).mono ?_; rintro e w3 ⟨rfl, f3⟩
      go_wp2_with fail
      refine (cut_over a _ cap n h1 _).mono ?_; rintro e w4 ⟨rfl, f4⟩
      go_wp2
      go_ret
      exact ⟨rfl, (by repeat (first | exact Fine.refl _ | assumption | refine Fine.alloc ?_ _ | refine Fine.drew ?_ | refine Fine.drewN ?_ _ | refine Fine.trans ?_ (by assumption) | (refine Fine.kept ?_ (by assumption) (by intro x hx; first | omega | (simp; omega))) | (refine Fine.setCell ?_ (by first | assumption | (simp; omega)) _)))⟩
    · obtain ⟨q, rfl⟩ : ∃ q : Nat, n = q := ⟨n.toNat, by omega⟩
      have hq : q ≤ zs.length := by omega
      have R1 := HB.out.run_front q hq
      obtain ⟨A', R2, B2⟩ := HB.out.run_behind q hq
      have HB2 := Lib.hid B2; clear B2
      go_enter Try.func8, Try.ntmps8
      go_wp2_with fail
      refine (oct_wakes _).mono ?_; rintro e w1 ⟨rfl, f1⟩
      go_wp2_with fail
      refine (HT.out _).mono ?_; rintro e w2 ⟨rfl, f2⟩
      go_wp2_with fail
      refine (HW.out _).mono ?_; rintro e w3 ⟨rfl, f3⟩
      go_wp2_with fail
      refine (cut_any a cap zs q hq (by omega) _ (HB.out.fine (by repeat (first | exact Fine.refl _ | assumption | refine Fine.alloc ?_ _ | refine Fine.drew ?_ | refine Fine.drewN ?_ _ | refine Fine.trans ?_ (by assumption) | (refine Fine.kept ?_ (by assumption) (by intro x hx; first | omega | (simp; omega))) | (refine Fine.setCell ?_ (by first | assumption | (simp; omega)) _))))).mono ?_; rintro e w4 ⟨u4, v4, rfl, ou, ov, f4⟩
      obtain ⟨A4, c4, rfl, b4, _⟩ := ou.form
      obtain ⟨B4, d4, rfl, e4, _⟩ := ov.form
      have K4 := Lib.hid b4
      have L4 := Lib.hid e4
      clear b4 e4 ou ov
      have F4 : Fine w w4 := (by repeat (first | exact Fine.refl _ | assumption | refine Fine.alloc ?_ _ | refine Fine.drew ?_ | refine Fine.drewN ?_ _ | refine Fine.trans ?_ (by assumption) | (refine Fine.kept ?_ (by assumption) (by intro x hx; first | omega | (simp; omega))) | (refine Fine.setCell ?_ (by first | assumption | (simp; omega)) _)))
      go_wp2_with fail
      refine (same_n A4 a _ _ c4 cap (zs.take q) (zs.take q) _ K4.out ((HB.out.front q hq).fine F4) (by first | (with_reducible rfl) | (simp; done) | (simp; omega)) (by first | (with_reducible rfl) | (simp; done) | (simp; omega)) (by simp; omega)).mono ?_; rintro e w5 ⟨rfl, f5⟩
      go_wp2_with fail
      refine (same_n B4 A' _ _ d4 _ (zs.drop q) (zs.drop q) _ (L4.out.fine f5) (HB2.out _ (HB.out.fine (F4.trans f5))) (by first | (with_reducible rfl) | (simp; done) | (simp; omega)) (by first | (with_reducible rfl) | (simp; done) | (simp; omega)) (by simp; omega)).mono ?_; rintro e w6 ⟨rfl, f6⟩
      go_wp2
      go_ret
      exact ⟨ret_bool (by simp), (F4.trans f5).trans f6⟩

set_option maxHeartbeats 1000000 in
theorem takes_ok (w : World) (a : Option Addr) (cap : Nat) (zs : List Int) (HB : Hid (BS w a cap zs)) (x n : Int) (hle : zs.length ≤ 500) (k : Nat) (hk : width x = k) (hw : 1 ≤ k ∧ k ≤ 8) (hs : k ≤ zs.length) :
    Calls Try.prog 8 #[.slice a zs.length cap, .int .i64 x, .int .i64 n] w fun e w' => e = .returned (.bool true) ∧ Fine w w' := by
  have HW := Lib.hid (fun w => hk ▸ rwidth_any x w)
  have T := take_any a cap zs x (by omega) (by omega)
  rw [hk] at T
  have HT := Lib.hid (fun w => T w)
  clear T
  have R3 := HB.out.run_front k hs
  obtain ⟨A3, R4, B3⟩ := HB.out.run_behind k hs
  have HB3 := Lib.hid B3; clear B3
  clear hk
  by_cases h0 : n < 0
  · go_enter Try.func8, Try.ntmps8
    go_wp2_with fail
    refine (oct_wakes _).mono ?_; rintro e w1 ⟨rfl, f1⟩
    go_wp2_with fail
    refine (HT.out _ (HB.out.fine (by repeat (first | exact Fine.refl _ | assumption | refine Fine.alloc ?_ _ | refine Fine.drew ?_ | refine Fine.drewN ?_ _ | refine Fine.trans ?_ (by assumption) | (refine Fine.kept ?_ (by assumption) (by intro x hx; first | omega | (simp; omega))) | (refine Fine.setCell ?_ (by first | assumption | (simp; omega)) _))))).mono ?_; rintro e w2 ⟨v2, rfl, o2, f2⟩
    obtain ⟨B2, d2, rfl, e2, _⟩ := o2.form
    have L2 := Lib.hid e2
    clear e2 o2
    go_wp2_with fail
    refine (HW.out _).mono ?_; rintro e w3 ⟨rfl, f3⟩
    have F3 : Fine w w3 := (by repeat (first | exact Fine.refl _ | assumption | refine Fine.alloc ?_ _ | refine Fine.drew ?_ | refine Fine.drewN ?_ _ | refine Fine.trans ?_ (by assumption) | (refine Fine.kept ?_ (by assumption) (by intro x hx; first | omega | (simp; omega))) | (refine Fine.setCell ?_ (by first | assumption | (simp; omega)) _)))
    go_wp2_with fail
    refine (number_n a _ cap (zs.take k) _ ((HB.out.front k hs).fine F3) (by first | (with_reducible rfl) | (simp; done) | (simp; omega)) (by simp; omega)).mono ?_; rintro e w31 ⟨rfl, f31⟩
    go_wp2_with fail
    refine (same_n B2 A3 _ _ d2 _ (zs.drop k) (zs.drop k) _ ((L2.out.fine f3).fine f31) (HB3.out _ (HB.out.fine (F3.trans f31))) (by first | (with_reducible rfl) | (simp; done) | (simp; omega)) (by first | (with_reducible rfl) | (simp; done) | (simp; omega)) (by simp; omega)).mono ?_; rintro e w32 ⟨rfl, f32⟩
    go_wp2_with fail
    refine (cut_neg a _ cap n h0 _).mono ?_; rintro e w4 ⟨rfl, f4⟩
    go_wp2
    go_ret
    exact ⟨rfl, (by repeat (first | exact Fine.refl _ | assumption | refine Fine.alloc ?_ _ | refine Fine.drew ?_ | refine Fine.drewN ?_ _ | refine Fine.trans ?_ (by assumption) | (refine Fine.kept ?_ (by assumption) (by intro x hx; first | omega | (simp; omega))) | (refine Fine.setCell ?_ (by first | assumption | (simp; omega)) _)))⟩
  · have h0' : 0 ≤ n := by omega
    by_cases h1 : (zs.length : Int) < n
    · go_enter Try.func8, Try.ntmps8
      go_wp2_with fail
      refine (oct_wakes _).mono ?_; rintro e w1 ⟨rfl, f1⟩
      go_wp2_with fail
      refine (HT.out _ (HB.out.fine (by repeat (first | exact Fine.refl _ | assumption | refine Fine.alloc ?_ _ | refine Fine.drew ?_ | refine Fine.drewN ?_ _ | refine Fine.trans ?_ (by assumption) | (refine Fine.kept ?_ (by assumption) (by intro x hx; first | omega | (simp; omega))) | (refine Fine.setCell ?_ (by first | assumption | (simp; omega)) _))))).mono ?_; rintro e w2 ⟨v2, rfl, o2, f2⟩
      obtain ⟨B2, d2, rfl, e2, _⟩ := o2.form
      have L2 := Lib.hid e2
      clear e2 o2
      go_wp2_with fail
      refine (HW.out _).mono ?_; rintro e w3 ⟨rfl, f3⟩
      have F3 : Fine w w3 := (by repeat (first | exact Fine.refl _ | assumption | refine Fine.alloc ?_ _ | refine Fine.drew ?_ | refine Fine.drewN ?_ _ | refine Fine.trans ?_ (by assumption) | (refine Fine.kept ?_ (by assumption) (by intro x hx; first | omega | (simp; omega))) | (refine Fine.setCell ?_ (by first | assumption | (simp; omega)) _)))
      go_wp2_with fail
      refine (number_n a _ cap (zs.take k) _ ((HB.out.front k hs).fine F3) (by first | (with_reducible rfl) | (simp; done) | (simp; omega)) (by simp; omega)).mono ?_; rintro e w31 ⟨rfl, f31⟩
      go_wp2_with fail
      refine (same_n B2 A3 _ _ d2 _ (zs.drop k) (zs.drop k) _ ((L2.out.fine f3).fine f31) (HB3.out _ (HB.out.fine (F3.trans f31))) (by first | (with_reducible rfl) | (simp; done) | (simp; omega)) (by first | (with_reducible rfl) | (simp; done) | (simp; omega)) (by simp; omega)).mono ?_; rintro e w32 ⟨rfl, f32⟩
      go_wp2_with fail
      refine (cut_over a _ cap n h1 _).mono ?_; rintro e w4 ⟨rfl, f4⟩
      go_wp2
      go_ret
      exact ⟨rfl, (by repeat (first | exact Fine.refl _ | assumption | refine Fine.alloc ?_ _ | refine Fine.drew ?_ | refine Fine.drewN ?_ _ | refine Fine.trans ?_ (by assumption) | (refine Fine.kept ?_ (by assumption) (by intro x hx; first | omega | (simp; omega))) | (refine Fine.setCell ?_ (by first | assumption | (simp; omega)) _)))⟩
    · obtain ⟨q, rfl⟩ : ∃ q : Nat, n = q := ⟨n.toNat, by omega⟩
      have hq : q ≤ zs.length := by omega
      have R1 := HB.out.run_front q hq
      obtain ⟨A', R2, B2⟩ := HB.out.run_behind q hq
      have HB2 := Lib.hid B2; clear B2
      go_enter Try.func8, Try.ntmps8
      go_wp2_with fail
      refine (oct_wakes _).mono ?_; rintro e w1 ⟨rfl, f1⟩
      go_wp2_with fail
      refine (HT.out _ (HB.out.fine (by repeat (first | exact Fine.refl _ | assumption | refine Fine.alloc ?_ _ | refine Fine.drew ?_ | refine Fine.drewN ?_ _ | refine Fine.trans ?_ (by assumption) | (refine Fine.kept ?_ (by assumption) (by intro x hx; first | omega | (simp; omega))) | (refine Fine.setCell ?_ (by first | assumption | (simp; omega)) _))))).mono ?_; rintro e w2 ⟨v2, rfl, o2, f2⟩
      obtain ⟨B2, d2, rfl, e2, _⟩ := o2.form
      have L2 := Lib.hid e2
      clear e2 o2
      go_wp2_with fail
      refine (HW.out _).mono ?_; rintro e w3 ⟨rfl, f3⟩
      have F3 : Fine w w3 := (by repeat (first | exact Fine.refl _ | assumption | refine Fine.alloc ?_ _ | refine Fine.drew ?_ | refine Fine.drewN ?_ _ | refine Fine.trans ?_ (by assumption) | (refine Fine.kept ?_ (by assumption) (by intro x hx; first | omega | (simp; omega))) | (refine Fine.setCell ?_ (by first | assumption | (simp; omega)) _)))
      go_wp2_with fail
      refine (number_n a _ cap (zs.take k) _ ((HB.out.front k hs).fine F3) (by first | (with_reducible rfl) | (simp; done) | (simp; omega)) (by simp; omega)).mono ?_; rintro e w31 ⟨rfl, f31⟩
      go_wp2_with fail
      refine (same_n B2 A3 _ _ d2 _ (zs.drop k) (zs.drop k) _ ((L2.out.fine f3).fine f31) (HB3.out _ (HB.out.fine (F3.trans f31))) (by first | (with_reducible rfl) | (simp; done) | (simp; omega)) (by first | (with_reducible rfl) | (simp; done) | (simp; omega)) (by simp; omega)).mono ?_; rintro e w32 ⟨rfl, f32⟩
      go_wp2_with fail
      refine (cut_any a cap zs q hq (by omega) _ (HB.out.fine (by repeat (first | exact Fine.refl _ | assumption | refine Fine.alloc ?_ _ | refine Fine.drew ?_ | refine Fine.drewN ?_ _ | refine Fine.trans ?_ (by assumption) | (refine Fine.kept ?_ (by assumption) (by intro x hx; first | omega | (simp; omega))) | (refine Fine.setCell ?_ (by first | assumption | (simp; omega)) _))))).mono ?_; rintro e w4 ⟨u4, v4, rfl, ou, ov, f4⟩
      obtain ⟨A4, c4, rfl, b4, _⟩ := ou.form
      obtain ⟨B4, d4, rfl, e4, _⟩ := ov.form
      have K4 := Lib.hid b4
      have L4 := Lib.hid e4
      clear b4 e4 ou ov
      have F4 : Fine w w4 := (by repeat (first | exact Fine.refl _ | assumption | refine Fine.alloc ?_ _ | refine Fine.drew ?_ | refine Fine.drewN ?_ _ | refine Fine.trans ?_ (by assumption) | (refine Fine.kept ?_ (by assumption) (by intro x hx; first | omega | (simp; omega))) | (refine Fine.setCell ?_ (by first | assumption | (simp; omega)) _)))
      go_wp2_with fail
      refine (same_n A4 a _ _ c4 cap (zs.take q) (zs.take q) _ K4.out ((HB.out.front q hq).fine F4) (by first | (with_reducible rfl) | (simp; done) | (simp; omega)) (by first | (with_reducible rfl) | (simp; done) | (simp; omega)) (by simp; omega)).mono ?_; rintro e w5 ⟨rfl, f5⟩
      go_wp2_with fail
      refine (same_n B4 A' _ _ d4 _ (zs.drop q) (zs.drop q) _ (L4.out.fine f5) (HB2.out _ (HB.out.fine (F4.trans f5))) (by first | (with_reducible rfl) | (simp; done) | (simp; omega)) (by first | (with_reducible rfl) | (simp; done) | (simp; omega)) (by simp; omega)).mono ?_; rintro e w6 ⟨rfl, f6⟩
      go_wp2
      go_ret
      exact ⟨ret_bool (by simp), (F4.trans f5).trans f6⟩

theorem lawOctetTakes (w : World) (a : Option Addr) (len cap : Nat) (zs : List Int) (hz : IntsIn .u8 w a len cap zs) (x : Int) (wx : (Lit.int .i64 x).wf = true) (n : Int) (wn : (Lit.int .i64 n).wf = true) :
    Calls Try.prog 8 #[.slice a len cap, .int .i64 x, .int .i64 n] w fun e w' => e = .returned (.bool true) ∧ Below w.heap.size w w' := by
  show Calls _ _ _ _ fun e w' => e = .returned (.bool true) ∧ Fine w w'
  have hb := BS.of_ints hz
  have hl : zs.length = len := hz.2.2.1
  subst hl
  have HB := Lib.hid hb
  have hw := width_bd x
  clear hb hz wx wn
  by_cases h5 : 500 < zs.length
  · go_enter Try.func8, Try.ntmps8
    go_wp2_with fail
    refine (oct_wakes _).mono ?_; rintro e w1 ⟨rfl, f1⟩
    go_wp2
    go_ret
    exact ⟨rfl, (by repeat (first | exact Fine.refl _ | assumption | refine Fine.alloc ?_ _ | refine Fine.drew ?_ | refine Fine.drewN ?_ _ | refine Fine.trans ?_ (by assumption) | (refine Fine.kept ?_ (by assumption) (by intro x hx; first | omega | (simp; omega))) | (refine Fine.setCell ?_ (by first | assumption | (simp; omega)) _)))⟩
  · by_cases hs : zs.length < width x
    · exact takes_short w a cap zs HB x n (by omega) _ rfl hw hs
    · exact takes_ok w a cap zs HB x n (by omega) _ rfl hw (by omega)
end Go.Proofs.Ythnennleblgjeaa
