/- The law OctetPuts: any number is put as the document says, behind what is there, and taken again, with what is behind it. -/
import Derived.Test.YthnennleblgjeaaOctPut
namespace Go.Proofs.Ythnennleblgjeaa
open Go.ChangeShapes Go.WideShapes Go.ChangeAt Go.RowKit
set_option linter.unusedVariables false

theorem lawOctetPuts (w : World) (a : Option Addr) (len cap : Nat) (zs : List Int) (hz : IntsIn .u8 w a len cap zs) (n : Int) (wn : (Lit.int .u64 n).wf = true) (x : Int) (wx : (Lit.int .i64 x).wf = true) :
    Calls Try.prog 7 #[.slice a len cap, .int .u64 n, .int .i64 x] w fun e w' => e = .returned (.bool true) ∧ Below w.heap.size w w' := by
  show Calls _ _ _ _ fun e w' => e = .returned (.bool true) ∧ Fine w w'
  have hn := bounds_u64 wn
  have HNB : Hid (0 ≤ n ∧ n < 18446744073709551616) := ⟨hn.1, by omega⟩
  have hb := BS.of_ints hz
  have hl : zs.length = len := hz.2.2.1
  subst hl
  have HB := Lib.hid hb
  have hw := width_bd x
  have hbl := be_length (width x) n
  clear hb hz wn wx hn
  by_cases h5 : 500 < zs.length
  · go_enter Try.func7, Try.ntmps7
    go_wp2_with fail
    refine (oct_wakes _).mono ?_; rintro e w1 ⟨rfl, f1⟩
    go_wp2
    go_ret
    exact ⟨rfl, (by repeat (first | exact Fine.refl _ | assumption | refine Fine.alloc ?_ _ | refine Fine.drew ?_ | refine Fine.drewN ?_ _ | refine Fine.trans ?_ (by assumption) | (refine Fine.kept ?_ (by assumption) (by intro x hx; first | omega | (simp; omega))) | (refine Fine.setCell ?_ (by first | assumption | (simp; omega)) _)))⟩
  · have hle : zs.length ≤ 500 := by omega
    obtain ⟨L, hL⟩ : ∃ L, be (width x) n = L := ⟨_, rfl⟩
    have HP := Lib.hid (fun A c xs w => hL ▸ put_any A c xs n HNB.out x w)
    have HBy := Lib.hid (fun w => hL ▸ bytes_any n HNB.out x w)
    rw [hL] at hbl
    have HLL := Lib.hid hbl
    have hL8 : L.length ≤ 8 ∧ 1 ≤ L.length := by omega
    clear hL hbl
    go_enter Try.func7, Try.ntmps7
    go_wp2_with fail
    refine (oct_wakes _).mono ?_; rintro e w1 ⟨rfl, f1⟩
    go_wp2_with (at_builtin; refine wpList_appB rfl (.tmp 18) (.tmp 19) rfl w1.heap.size _ _ rfl (OwnB.empty w1 (Nat.le_refl _)) a _ cap zs rfl rfl (HB.out.fine (by repeat (first | exact Fine.refl _ | assumption | refine Fine.alloc ?_ _ | refine Fine.drew ?_ | refine Fine.drewN ?_ _ | refine Fine.trans ?_ (by assumption) | (refine Fine.kept ?_ (by assumption) (by intro x hx; first | omega | (simp; omega))) | (refine Fine.setCell ?_ (by first | assumption | (simp; omega)) _)))) (by simp; omega) (by simp) ?_; intro v2 w2 own2 k2 _ _)
    have f2 : Fine w1 w2 := (by repeat (first | exact Fine.refl _ | assumption | refine Fine.alloc ?_ _ | refine Fine.drew ?_ | refine Fine.drewN ?_ _ | refine Fine.trans ?_ (by assumption) | (refine Fine.kept ?_ (by assumption) (by intro x hx; first | omega | (simp; omega))) | (refine Fine.setCell ?_ (by first | assumption | (simp; omega)) _)))
    rw [List.nil_append] at own2
    obtain ⟨A2, c2, rfl, b2, _⟩ := own2.form
    have K2 := Lib.hid b2
    have O2 := Lib.hid own2
    clear k2 b2 own2
    refine (HP.out A2 c2 zs _ K2.out (by omega)).mono ?_; rintro e w3 ⟨v3, rfl, o3, f3⟩
    obtain ⟨A3, c3, rfl, b3, _⟩ := o3.form
    have K3 := Lib.hid b3; clear b3 o3
    go_wp2_with (at_builtin; refine wpList_appB rfl (.tmp 25) (.tmp 26) rfl w3.heap.size _ _ rfl (OwnB.empty w3 (Nat.le_refl _)) a _ cap zs rfl rfl (HB.out.fine (by repeat (first | exact Fine.refl _ | assumption | refine Fine.alloc ?_ _ | refine Fine.drew ?_ | refine Fine.drewN ?_ _ | refine Fine.trans ?_ (by assumption) | (refine Fine.kept ?_ (by assumption) (by intro x hx; first | omega | (simp; omega))) | (refine Fine.setCell ?_ (by first | assumption | (simp; omega)) _)))) (by simp; omega) (by simp) ?_; intro v4 w4 own4 k4 _ _)
    have f4 : Fine w3 w4 := (by repeat (first | exact Fine.refl _ | assumption | refine Fine.alloc ?_ _ | refine Fine.drew ?_ | refine Fine.drewN ?_ _ | refine Fine.trans ?_ (by assumption) | (refine Fine.kept ?_ (by assumption) (by intro x hx; first | omega | (simp; omega))) | (refine Fine.setCell ?_ (by first | assumption | (simp; omega)) _)))
    rw [List.nil_append] at own4
    have O4 := Lib.hid own4
    clear k4 own4
    refine (HBy.out _).mono ?_; rintro e w5 ⟨v5, rfl, o5, f5⟩
    obtain ⟨A5, c5, rfl, b5, _⟩ := o5.form
    have K5 := Lib.hid b5; clear b5 o5
    have hs4 := f4.size
    have hs5 := f5.size
    go_wp2_with (at_builtin; refine wpList_appB rfl (.tmp 27) (.tmp 30) rfl w3.heap.size _ _ rfl (O4.out.fine f5) A5 _ c5 L rfl rfl K5.out (by omega) (by omega) ?_; intro v6 w6 own6 k6 _ _)
    have f6 : Fine w3 w6 := (by repeat (first | exact Fine.refl _ | assumption | refine Fine.alloc ?_ _ | refine Fine.drew ?_ | refine Fine.drewN ?_ _ | refine Fine.trans ?_ (by assumption) | (refine Fine.kept ?_ (by assumption) (by intro x hx; first | omega | (simp; omega))) | (refine Fine.setCell ?_ (by first | assumption | (simp; omega)) _)))
    obtain ⟨A6, c6, rfl, b6, _⟩ := own6.form
    have K6 := Lib.hid b6
    clear k6 b6 own6 hs4 hs5 f4 f5
    refine (same_n A3 A6 _ _ c3 c6 (zs ++ L) (zs ++ L) _ (K3.out.fine f6) K6.out (by simp) (by simp) (by simp; omega)).mono ?_; rintro e w7 ⟨rfl, f7⟩
    go_wp2_with fail
    refine (same_n A2 a _ _ c2 cap zs zs _ (K2.out.fine (by repeat (first | exact Fine.refl _ | assumption | refine Fine.alloc ?_ _ | refine Fine.drew ?_ | refine Fine.drewN ?_ _ | refine Fine.trans ?_ (by assumption) | (refine Fine.kept ?_ (by assumption) (by intro x hx; first | omega | (simp; omega))) | (refine Fine.setCell ?_ (by first | assumption | (simp; omega)) _)))) (HB.out.fine (by repeat (first | exact Fine.refl _ | assumption | refine Fine.alloc ?_ _ | refine Fine.drew ?_ | refine Fine.drewN ?_ _ | refine Fine.trans ?_ (by assumption) | (refine Fine.kept ?_ (by assumption) (by intro x hx; first | omega | (simp; omega))) | (refine Fine.setCell ?_ (by first | assumption | (simp; omega)) _)))) rfl rfl (by omega)).mono ?_; rintro e w8 ⟨rfl, f8⟩
    go_wp2_with fail
    refine (HBy.out _).mono ?_; rintro e w9 ⟨v9, rfl, o9, f9⟩
    have O9 := Lib.hid o9; clear o9
    have hz9 := f9.size
    go_wp2_with (at_builtin; refine wpList_appB rfl (.tmp 45) (.tmp 46) rfl w8.heap.size _ _ rfl O9.out a _ cap zs rfl rfl (HB.out.fine (by repeat (first | exact Fine.refl _ | assumption | refine Fine.alloc ?_ _ | refine Fine.drew ?_ | refine Fine.drewN ?_ _ | refine Fine.trans ?_ (by assumption) | (refine Fine.kept ?_ (by assumption) (by intro x hx; first | omega | (simp; omega))) | (refine Fine.setCell ?_ (by first | assumption | (simp; omega)) _)))) (by omega) (by omega) ?_; intro v10 w10 own10 k10 _ _)
    have f10 : Fine w8 w10 := (by repeat (first | exact Fine.refl _ | assumption | refine Fine.alloc ?_ _ | refine Fine.drew ?_ | refine Fine.drewN ?_ _ | refine Fine.trans ?_ (by assumption) | (refine Fine.kept ?_ (by assumption) (by intro x hx; first | omega | (simp; omega))) | (refine Fine.setCell ?_ (by first | assumption | (simp; omega)) _)))
    obtain ⟨A10, c10, rfl, b10, _⟩ := own10.form
    have K10 := Lib.hid b10
    clear b10 own10 k10
    have htk : (L ++ zs).take (width x) = L := by rw [← HLL.out]; simp
    have hdr : (L ++ zs).drop (width x) = zs := by rw [← HLL.out]; simp
    have hwl : width x ≤ (L ++ zs).length := by rw [← HLL.out]; simp
    have T := take_any A10 c10 (L ++ zs) x hwl (by simp; omega) w10 K10.out
    rw [htk, hdr] at T
    have HT := Lib.hid T
    clear T htk hdr
    refine HT.out.mono ?_; rintro e w11 ⟨v11, rfl, o11, f11⟩
    obtain ⟨A11, c11, rfl, b11, _⟩ := o11.form
    have K11 := Lib.hid b11
    clear b11 o11
    have F11 : Fine w w11 := (by repeat (first | exact Fine.refl _ | assumption | refine Fine.alloc ?_ _ | refine Fine.drew ?_ | refine Fine.drewN ?_ _ | refine Fine.trans ?_ (by assumption) | (refine Fine.kept ?_ (by assumption) (by intro x hx; first | omega | (simp; omega))) | (refine Fine.setCell ?_ (by first | assumption | (simp; omega)) _)))
    go_wp2_with fail
    refine (HBy.out _).mono ?_; rintro e w12 ⟨v12, rfl, o12, f12⟩
    obtain ⟨A12, c12, rfl, b12, _⟩ := o12.form
    have K12 := Lib.hid b12
    clear b12 o12
    go_wp2_with fail
    refine (number_n A12 _ c12 L _ K12.out rfl (by omega)).mono ?_; rintro e w13 ⟨rfl, f13⟩
    go_wp2_with fail
    refine (same_n A11 a _ _ c11 cap zs zs _ ((K11.out.fine f12).fine f13) (HB.out.fine ((F11.trans f12).trans f13)) rfl rfl (by omega)).mono ?_; rintro e w14 ⟨rfl, f14⟩
    go_wp2
    go_ret
    exact ⟨ret_bool (by simp), ((F11.trans f12).trans f13).trans f14⟩
end Go.Proofs.Ythnennleblgjeaa
