/- The law SumOf. -/
import Derived.Test.YthnennleblgjeaaSumLaw
import Derived.Test.YthnennleblgjeaaOctJoin
namespace Go.Proofs.Ythnennleblgjeaa
open Go.ChangeShapes Go.WideShapes Go.ChangeAt Go.RowKit
set_option linter.unusedVariables false

set_option maxHeartbeats 1000000 in
theorem lawSumOf (w : World) (a : Option Addr) (len cap : Nat) (ls : List (List Int)) (hz : BssIn w a len cap ls) :
    Calls Try.prog 10 #[.slice a len cap] w fun e w' => e = .returned (.bool true) ∧ Below w.heap.size w w' := by
  show Calls _ _ _ _ fun e w' => e = .returned (.bool true) ∧ Fine w w'
  obtain ⟨hl, hb⟩ := hz
  subst hl
  have HB := Lib.hid hb; clear hb
  go_enter Try.func10, Try.ntmps10
  go_wp2_with fail
  refine (sum_wakes _).mono ?_; rintro e w1 ⟨rfl, f1⟩
  go_wp2
  · go_ret
    exact ⟨rfl, (by repeat (first | exact Fine.refl _ | assumption | refine Fine.alloc ?_ _ | refine Fine.drew ?_ | refine Fine.drewN ?_ _ | refine Fine.trans ?_ (by assumption) | (refine Fine.kept ?_ (by assumption) (by intro x hx; first | omega | (simp; omega))) | (refine Fine.setCell ?_ (by first | assumption | (simp; omega)) _)))⟩
  · have hlen : ls.length ≤ 50 := by have h : (ls.length : Int) ≤ 50 := by assumption
                                     omega
    go_loopw [14, 3] (fun i v wr => ∃ k : Nat, k ≤ ls.length ∧ i = .int .i64 k ∧ OwnB wr w1.heap.size v (ls.take k).flatten ∧ (ls.take k).flatten.length ≤ 200 * k ∧ Fine w1 wr) (fun i _ _ => ls.length - (intOf i).toNat)
    case atStart => exact ⟨0, Nat.zero_le _, rfl, by simpa using OwnB.nil_ w1 w1.heap.size, by simp, (by repeat (first | exact Fine.refl _ | assumption | refine Fine.alloc ?_ _ | refine Fine.drew ?_ | refine Fine.drewN ?_ _ | refine Fine.trans ?_ (by assumption) | (refine Fine.kept ?_ (by assumption) (by intro x hx; first | omega | (simp; omega))) | (refine Fine.setCell ?_ (by first | assumption | (simp; omega)) _)))⟩
    case round =>
      obtain ⟨k, hk, rfl, hown, hle, hf⟩ := hrel
      by_cases hlt : k < ls.length
      · obtain ⟨b, off, A', c', l, HL, rfl, hb, hck, hbs⟩ := (HB.out.fine (f1.trans hf)).at_ hlt
        have hfl := flatten_take ls k hlt
        rw [HL.out] at hfl
        have HFL := Lib.hid hfl; clear hfl
        have hz1 := hf.size
        by_cases h200 : 200 < l.length
        · go_wp2
          go_ret
          exact ⟨rfl, f1.trans hf⟩
        · have h200' : l.length ≤ 200 := by omega
          go_wp2_with (at_builtin; refine wpList_appB rfl (.tmp 23) (.tmp 27) rfl w1.heap.size _ _ rfl hown A' _ c' _ rfl rfl hbs (by omega) (by omega) ?_; intro v' w2 hown1 hk1 _ _)
          have hf1 : Fine w1 w2 := (by repeat (first | exact Fine.refl _ | assumption | refine Fine.alloc ?_ _ | refine Fine.drew ?_ | refine Fine.drewN ?_ _ | refine Fine.trans ?_ (by assumption) | (refine Fine.kept ?_ (by assumption) (by intro x hx; first | omega | (simp; omega))) | (refine Fine.setCell ?_ (by first | assumption | (simp; omega)) _)))
          go_roundw
          case rel => exact ⟨k + 1, by omega, by go_num, by rw [HFL.out]; exact hown1, by rw [HFL.out, List.length_append]; omega, hf1⟩
          case measure => simp [intOf]; omega
      · have e : k = ls.length := by omega
        subst e
        obtain ⟨wB, rfl⟩ : ∃ wB : World, wB = wr := ⟨_, rfl⟩
        rw [List.take_length] at hown hle
        have hfl : ls.flatten.length ≤ 10000 := by omega
        have hby : Bytes ls.flatten := hown.1
        have hll : ∀ (i : Nat) (l : List Int), i < ls.length → ls.getD i [] = l → l.length ≤ 1000000000 := by
          intro i l hi hl
          have h1 := flatten_take_le ls (i + 1)
          rw [flatten_take ls i hi, hl, List.length_append] at h1
          omega
        obtain ⟨W, hW⟩ : ∃ W, ls.flatten = W := ⟨_, rfl⟩
        obtain ⟨s, hs⟩ : ∃ s, sumOf W = s := ⟨_, rfl⟩
        have HOF := Lib.hid (fun w h => hs ▸ hW ▸ of_any a ls.length cap ls w h rfl (by omega) hll hby)
        rw [hW] at hown hfl
        have HROF := Lib.hid (fun A n c w h hn => hs ▸ rof_any A n c W w h hn (by omega))
        have hpl := pad_le W
        have hPl := putOf_length W
        obtain ⟨P, hP⟩ : ∃ P, putOf W = P := ⟨_, rfl⟩
        have HPut := Lib.hid (fun A c w h => hP ▸ sumput_any A c W w h (by omega))
        have HRPut := Lib.hid (fun A n c w h hn => hP ▸ rput_any A n c W w h hn (by omega))
        rw [hP] at hPl
        have hPl' : P.length ≤ 1000000000 := by omega
        obtain ⟨A3, c3, rfl, b3, _⟩ := hown.form
        have K3 := Lib.hid b3
        clear hown b3 hle hW hs hP hll hby hPl hpl
        have F3 : Fine w wB := f1.trans hf
        go_wp2_with (at_builtin; refine wpList_appS rfl (.tmp 30) (.tmp 31) rfl wB.heap.size _ _ rfl (OwnB.empty wB (Nat.le_refl _)) A3 _ c3 W rfl rfl (K3.out.fine (by repeat (first | exact Fine.refl _ | assumption | refine Fine.alloc ?_ _ | refine Fine.drew ?_ | refine Fine.drewN ?_ _ | refine Fine.trans ?_ (by assumption) | (refine Fine.kept ?_ (by assumption) (by intro x hx; first | omega | (simp; omega))) | (refine Fine.setCell ?_ (by first | assumption | (simp; omega)) _)))) (by first | omega | (simp; done) | (simp; omega)) (by first | omega | (simp; done) | (simp; omega)) ?_; intro A4 c4 w4 O4 K4 k4; simp only [List.nil_append, List.length_nil, Nat.zero_add] at O4 K4; have F4 : Fine wB w4 := Fine.kept (Fine.alloc (Fine.refl wB) _) k4 (fun x hx => by omega))
        refine (HPut.out A4 c4 _ K4.out).mono ?_; rintro e w5 ⟨v5, rfl, o5, f5⟩
        obtain ⟨A5, c5, rfl, b5, _⟩ := o5.form
        have K5 := Lib.hid b5
        clear o5 b5
        have F5 : Fine wB w5 := F4.trans f5
        go_wp2_with fail
        refine (HOF.out _ (HB.out.fine (F3.trans F5))).mono ?_; rintro e w6 ⟨rfl, f6⟩
        have F6 : Fine wB w6 := F5.trans f6
        go_wp2_with fail
        refine (HROF.out A3 _ c3 _ (K3.out.fine F6) rfl).mono ?_; rintro e w7 ⟨rfl, f7⟩
        have F7 : Fine wB w7 := F6.trans f7
        go_wp2_with fail
        refine (HRPut.out A3 _ c3 _ (K3.out.fine F7) rfl).mono ?_; rintro e w8 ⟨v8, rfl, o8, f8⟩
        obtain ⟨A8, c8, rfl, b8, _⟩ := o8.form
        have K8 := Lib.hid b8
        clear o8 b8
        have F8 : Fine wB w8 := F7.trans f8
        have G8 : Fine w5 w8 := (f6.trans f7).trans f8
        go_wp2_with fail
        refine (same_n A5 A8 _ _ c5 c8 P P _ (K5.out.fine G8) K8.out rfl rfl hPl').mono ?_; rintro e w9 ⟨rfl, f9⟩
        have G9 : Fine w4 w9 := (f5.trans G8).trans f9
        have F9 : Fine wB w9 := F4.trans G9
        go_wp2_with fail
        refine (same_n A4 A3 _ _ c4 c3 W W _ (K4.out.fine G9) (K3.out.fine F9) rfl rfl (by omega)).mono ?_; rintro e w10 ⟨rfl, f10⟩
        go_wp2
        go_ret
        exact ⟨rfl, (F3.trans F9).trans f10⟩
end Go.Proofs.Ythnennleblgjeaa
