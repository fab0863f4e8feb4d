/- The laws SumOf, SumGood and SumChanged. -/
import Derived.Test.YthnennleblgjeaaSum3
import Derived.Test.YthnennleblgjeaaOctJoin
namespace Go.Proofs.Ythnennleblgjeaa
open Go.ChangeShapes Go.WideShapes Go.ChangeAt Go.RowKit
set_option linter.unusedVariables false

theorem putOf_length (l : List Int) : (putOf l).length = (pad l).length + 2 := by unfold putOf; simp [be_length]
theorem putOf_bytes {l : List Int} (h : Bytes l) : Bytes (putOf l) := (pad_bytes h).append (be_bytes 2 _)
theorem great_put {l : List Int} (h : Bytes l) : great false (putOf l) = great false (pad l) + sumOf (pad l) := by
  have hs := sum_bd (pad_bytes h)
  have he := pad_even l
  unfold putOf
  rw [great_append, be2 _ hs]
  simp [great, he]
  omega
theorem good_put {l : List Int} (h : Bytes l) : goodB (putOf l) = true := by
  have hp := pad_even l
  have hl := putOf_length l
  have hg := great_nonneg false (pad l) (pad_bytes h)
  have hs : sumOf (putOf l) = 0 := by
    unfold sumOf
    rw [great_put h]
    unfold sumOf
    rw [told_zero _ (by have := told_bd _ hg; omega)]
    unfold told
    split <;> constructor <;> omega
  unfold goodB
  simp [hs]
  omega
/-- One byte of what is good is changed. -/
theorem good_changed {l : List Int} (h : Bytes l) (hg : goodB l = true) (i : Nat) (hi : i < l.length) (z : Int) (hz : 0 ≤ z ∧ z ≤ 255) (hne : z ≠ l.getD i 0) : goodB (l.set i z) = false := by
  have hx := h.getD i
  have e1 : l = l.take i ++ ([l.getD i 0] ++ l.drop (i + 1)) := by
    have := List.drop_eq_getElem_cons hi
    conv => lhs; rw [← List.take_append_drop i l, this]
    simp [List.getD, hi]
  have e2 : l.set i z = l.take i ++ ([z] ++ l.drop (i + 1)) := by
    rw [List.set_eq_take_append_cons_drop, if_pos hi]; rfl
  have g1 : great false l = great false (l.take i) + great (false ^^ ((l.take i).length % 2 == 1)) ([l.getD i 0] ++ l.drop (i + 1)) := by
    conv => lhs; rw [e1]
    rw [great_append]
  have g2 : great false (l.set i z) = great false (l.take i) + great (false ^^ ((l.take i).length % 2 == 1)) ([z] ++ l.drop (i + 1)) := by rw [e2, great_append]
  have n1 := great_nonneg false l h
  have hb2 : Bytes (l.set i z) := fun x hx' => by
    rcases List.mem_or_eq_of_mem_set hx' with hx' | rfl
    · exact h x hx'
    · exact hz
  have n2 := great_nonneg false (l.set i z) hb2
  unfold goodB at hg ⊢
  simp only [Bool.and_eq_true, decide_eq_true_eq] at hg
  obtain ⟨h2, h3, h4⟩ := hg
  unfold sumOf at h4
  rw [told_zero _ n1] at h4
  have key : sumOf (l.set i z) ≠ 0 := by
    unfold sumOf
    rw [Ne, told_zero _ n2]
    rintro ⟨_, hm⟩
    have hm1 := h4.2
    rw [g2] at hm
    rw [g1] at hm1
    clear g1 g2 e1 e2 n1 n2 h4
    generalize l.getD i 0 = y at hm1 hx hne
    generalize great false (l.take i) = G at hm hm1
    rcases Bool.eq_false_or_eq_true (false ^^ ((l.take i).length % 2 == 1)) with hb | hb
    · rw [hb] at hm hm1
      simp only [List.singleton_append, great] at hm hm1
      simp at hm hm1
      generalize great false (l.drop (i + 1)) = R at hm hm1
      omega
    · rw [hb] at hm hm1
      simp only [List.singleton_append, great] at hm hm1
      simp at hm hm1
      generalize great true (l.drop (i + 1)) = R at hm hm1
      omega
  simp [key]

theorem lawSumGood (w : World) (a : Option Addr) (len cap : Nat) (zs : List Int) (hz : IntsIn .u8 w a len cap zs) :
    Calls Try.prog 11 #[.slice a len cap] w fun e w' => e = .returned (.bool true) ∧ Below w.heap.size w w' := by
  show Calls _ _ _ _ fun e w' => e = .returned (.bool true) ∧ Fine w w'
  have hb := BS.of_ints hz
  have hl : zs.length = len := hz.2.2.1
  subst hl
  have HB := Lib.hid hb
  clear hb hz
  by_cases h5 : 2000 < zs.length
  · go_enter Try.func11, Try.ntmps11
    go_wp2_with fail
    refine (sum_wakes _).mono ?_; rintro e w1 ⟨rfl, f1⟩
    go_wp2
    go_ret
    exact ⟨rfl, (by repeat (first | exact Fine.refl _ | assumption | refine Fine.alloc ?_ _ | refine Fine.drew ?_ | refine Fine.drewN ?_ _ | refine Fine.trans ?_ (by assumption) | (refine Fine.kept ?_ (by assumption) (by intro x hx; first | omega | (simp; omega))) | (refine Fine.setCell ?_ (by first | assumption | (simp; omega)) _)))⟩
  · have hle : zs.length ≤ 2000 := by omega
    have HGP := Lib.hid (good_put HB.out.1)
    have HPL := Lib.hid (putOf_length zs)
    have hpl := pad_le zs
    obtain ⟨P, hP⟩ : ∃ P, putOf zs = P := ⟨_, rfl⟩
    rw [hP] at HGP HPL
    have HPut := Lib.hid (fun w h => hP ▸ sumput_any a cap zs w h (by omega))
    clear hP
    have hp1 : P.length ≤ 2003 := by have := HPL.out; omega
    have HGZ : Hid (goodB zs = (decide (2 ≤ zs.length) && (decide (zs.length % 2 = 0) && decide (sumOf zs = 0)))) := rfl
    go_enter Try.func11, Try.ntmps11
    go_wp2_with fail
    refine (sum_wakes _).mono ?_; rintro e w1 ⟨rfl, f1⟩
    go_wp2_with fail
    refine (HPut.out _ (HB.out.fine f1)).mono ?_; rintro e w2 ⟨v2, rfl, o2, f2⟩
    obtain ⟨A2, c2, rfl, b2, _⟩ := o2.form
    have K2 := Lib.hid b2
    clear o2 b2
    go_wp2_with fail
    refine (good_any A2 _ c2 P _ K2.out rfl (by omega)).mono ?_; rintro e w3 ⟨rfl, f3⟩
    rw [HGP.out]
    have F3 : Fine w w3 := (by repeat (first | exact Fine.refl _ | assumption | refine Fine.alloc ?_ _ | refine Fine.drew ?_ | refine Fine.drewN ?_ _ | refine Fine.trans ?_ (by assumption) | (refine Fine.kept ?_ (by assumption) (by intro x hx; first | omega | (simp; omega))) | (refine Fine.setCell ?_ (by first | assumption | (simp; omega)) _)))
    go_wp2_with fail
    refine (good_any a _ cap zs _ (HB.out.fine F3) rfl (by omega)).mono ?_; rintro e w4 ⟨rfl, f4⟩
    have F4 : Fine w w4 := (by repeat (first | exact Fine.refl _ | assumption | refine Fine.alloc ?_ _ | refine Fine.drew ?_ | refine Fine.drewN ?_ _ | refine Fine.trans ?_ (by assumption) | (refine Fine.kept ?_ (by assumption) (by intro x hx; first | omega | (simp; omega))) | (refine Fine.setCell ?_ (by first | assumption | (simp; omega)) _)))
    clear f1 f2 f3 f4
    by_cases h2 : 2 ≤ zs.length
    · by_cases he : zs.length % 2 = 0
      · have he' : ((zs.length : Int) % 2 == 0) = true := by simp; omega
        have HG2 : Hid (goodB zs = decide (sumOf zs = 0)) := by show _ = _; rw [HGZ.out]; simp [h2, he]
        have h2' : (2 : Int) ≤ (zs.length : Int) := by omega
        obtain ⟨s, hs⟩ : ∃ s, sumOf zs = s := ⟨_, rfl⟩
        have HS := Lib.hid hs
        rw [HG2.out, hs]
        clear he h2 hs
        go_wp2_with fail
        refine (rof_any a _ cap zs _ (HB.out.fine F4) rfl (by omega)).mono ?_; rintro e w5 ⟨rfl, f5⟩
        rw [HS.out]
        go_wp2
        go_ret
        exact ⟨ret_bool (by cases hd : decide (s = 0) <;> simp_all), F4.trans f5⟩
      · have he' : ((zs.length : Int) % 2 == 0) = false := by simp; omega
        have HG2 : Hid (goodB zs = false) := by show _ = _; rw [HGZ.out]; simp [he]
        have h2' : (2 : Int) ≤ (zs.length : Int) := by omega
        rw [HG2.out]
        clear he h2
        go_wp2
        go_ret
        exact ⟨rfl, F4⟩
    · have HG2 : Hid (goodB zs = false) := by show _ = _; rw [HGZ.out]; simp [h2]
      have h2' : (zs.length : Int) < 2 := by omega
      rw [HG2.out]
      clear h2
      go_wp2
      go_ret
      exact ⟨rfl, F4⟩
end Go.Proofs.Ythnennleblgjeaa
