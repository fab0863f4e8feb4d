/- The law SumZeros. -/
import Derived.Test.YthnennleblgjeaaSumLaw
import Derived.Test.YthnennleblgjeaaAppZ
namespace Go.Proofs.Ythnennleblgjeaa
open Go.ChangeShapes Go.WideShapes Go.ChangeAt Go.RowKit
set_option linter.unusedVariables false

theorem great_zeros (n : Nat) (o : Bool) : great o (List.replicate n 0) = 0 := by
  induction n generalizing o with
  | zero => rfl
  | succ n ih => rw [List.replicate_succ]; simp [great, ih]
theorem great_pos {l : List Int} (h : Bytes l) (o : Bool) (k : Nat) (hk : k < l.length) (hx : l.getD k 0 ≠ 0) : 0 < great o l := by
  have hb := h.getD k
  have e1 : l = l.take k ++ (l.getD k 0 :: l.drop (k + 1)) := by
    have := List.drop_eq_getElem_cons hk
    conv => lhs; rw [← List.take_append_drop k l, this]
    simp [List.getD, hk]
  rw [e1, great_append]
  have h1 := great_nonneg o (l.take k) (h.take k)
  generalize (o ^^ ((l.take k).length % 2 == 1)) = o'
  have h2 := great_nonneg (!o') (l.drop (k + 1)) (h.drop _)
  simp only [great]
  split <;> omega
theorem sum_zeros (E : List Int) (q : Nat) : sumOf (E ++ List.replicate q 0) = sumOf E := by
  unfold sumOf; rw [great_append, great_zeros, Int.add_zero]
theorem sum_ones {E : List Int} (h : Bytes E) (he : E.length % 2 = 0) (hp : 0 < great false E) : sumOf (E ++ [255, 255]) = sumOf E := by
  unfold sumOf
  have e : great false (E ++ [255, 255]) = great false E + 65535 := by
    rw [great_append]; simp [great, he]
  rw [e]
  refine told_alike ⟨?_, ?_⟩ ?_ ?_ <;> omega

set_option maxHeartbeats 1000000 in
theorem lawSumZeros (w : World) (a : Option Addr) (len cap : Nat) (zs : List Int) (hz : IntsIn .u8 w a len cap zs) (n : Int) (wn : (Lit.int .u8 n).wf = true) :
    Calls Try.prog 5 #[.slice a len cap, .int .u8 n] w fun e w' => e = .returned (.bool true) ∧ Below w.heap.size w w' := by
  show Calls _ _ _ _ fun e w' => e = .returned (.bool true) ∧ Fine w w'
  have hn := bounds_u8 wn
  obtain ⟨q, rfl⟩ : ∃ q : Nat, n = q := ⟨n.toNat, by omega⟩
  have hb := BS.of_ints hz
  have hl : zs.length = len := hz.2.2.1
  subst hl
  have HB := Lib.hid hb
  clear hb hz wn
  by_cases h5 : 500 < zs.length
  · go_enter Try.func5, Try.ntmps5
    go_wp2_with fail
    refine (sum_wakes _).mono ?_; rintro e w1 ⟨rfl, f1⟩
    go_wp2
    go_ret
    exact ⟨rfl, (by repeat (first | exact Fine.refl _ | assumption | refine Fine.alloc ?_ _ | refine Fine.drew ?_ | refine Fine.drewN ?_ _ | refine Fine.trans ?_ (by assumption) | (refine Fine.kept ?_ (by assumption) (by intro x hx; first | omega | (simp; omega))) | (refine Fine.setCell ?_ (by first | assumption | (simp; omega)) _)))⟩
  · have hle : zs.length ≤ 500 := by omega
    obtain ⟨m, hm⟩ : ∃ m : Nat, zs.length / 2 * 2 = m := ⟨_, rfl⟩
    have hm1 : (zs.length : Int) / 2 * 2 = (m : Int) := by omega
    have hm2 : m ≤ zs.length := by omega
    have hm3 : m % 2 = 0 := by omega
    have hRF := HB.out.run_front m hm2
    have hE0 := HB.out.front m hm2
    obtain ⟨E, hE⟩ : ∃ E, zs.take m = E := ⟨_, rfl⟩
    have hEl : E.length = m := by rw [← hE]; simp; omega
    rw [hE] at hE0
    have HE := Lib.hid hE0
    clear hE0 hE hm
    subst hEl
    have HO1 := Lib.hid (sum_ones HE.out.1 hm3)
    have HZ1 := Lib.hid (sum_zeros E q)
    have HP := Lib.hid (fun k hk hx => great_pos HE.out.1 false k hk hx)
    obtain ⟨s, hs⟩ : ∃ s, sumOf E = s := ⟨_, rfl⟩
    rw [hs] at HO1 HZ1
    have HS := Lib.hid hs; clear hs hm3
    have HB2 : Hid (∀ w : World, BS (w.alloc (.cells #[.int .u8 255, .int .u8 255] 5)) (some ⟨w.heap.size, 0, none⟩) 2 [255, 255]) :=
      fun w => bs_lit w [255, 255] (by intro x hx; simp at hx; omega) (by simp)
    go_enter Try.func5, Try.ntmps5
    go_wp2_with fail
    refine (sum_wakes _).mono ?_; rintro e w1 ⟨rfl, f1⟩
    have hz0 := f1.size
    go_wp2_with (first
      | (at_builtin; refine wpList_appS rfl (.tmp 22) (.tmp 23) rfl w1.heap.size _ _ rfl (OwnB.empty w1 (Nat.le_refl _)) a _ cap E rfl rfl (HE.out.fine (by repeat (first | exact Fine.refl _ | assumption | refine Fine.alloc ?_ _ | refine Fine.drew ?_ | refine Fine.drewN ?_ _ | refine Fine.trans ?_ (by assumption) | (refine Fine.kept ?_ (by assumption) (by intro x hx; first | omega | (simp; omega))) | (refine Fine.setCell ?_ (by first | assumption | (simp; omega)) _)))) (by first | omega | (simp; done) | (simp; omega)) (by first | omega | (simp; done) | (simp; omega)) ?_; intro A1 c1 w2 O1 K1 k1; simp only [List.nil_append, List.length_nil, Nat.zero_add] at O1 K1; have G1 : Fine w1 w2 := Fine.kept (Fine.alloc (Fine.refl w1) _) k1 (fun x hx => by omega); have hz1 := G1.size; have F1 : Fine w w2 := f1.trans G1)
      | (at_builtin; refine wpList_zerosS rfl (.tmp 24) (.tmp 26) rfl w1.heap.size A1 _ c1 E rfl O1.out q rfl (by first | omega | (simp; done) | (simp; omega)) (by first | omega | (simp; done) | (simp; omega)) ?_; intro A2 c2 w3 O2 K2 k2; have F2 : Fine w w3 := (by repeat (first | exact Fine.refl _ | assumption | refine Fine.alloc ?_ _ | refine Fine.drew ?_ | refine Fine.drewN ?_ _ | refine Fine.trans ?_ (by assumption) | (refine Fine.kept ?_ (by assumption) (by intro x hx; first | omega | (simp; omega))) | (refine Fine.setCell ?_ (by first | assumption | (simp; omega)) _))))
      | (at_builtin; refine wpList_appS rfl (.tmp 28) (.tmp 29) rfl w3.heap.size _ _ rfl (OwnB.empty w3 (Nat.le_refl _)) a _ cap E rfl rfl (HE.out.fine (by repeat (first | exact Fine.refl _ | assumption | refine Fine.alloc ?_ _ | refine Fine.drew ?_ | refine Fine.drewN ?_ _ | refine Fine.trans ?_ (by assumption) | (refine Fine.kept ?_ (by assumption) (by intro x hx; first | omega | (simp; omega))) | (refine Fine.setCell ?_ (by first | assumption | (simp; omega)) _)))) (by first | omega | (simp; done) | (simp; omega)) (by first | omega | (simp; done) | (simp; omega)) ?_; intro A3 c3 w4 O3 K3 k3; simp only [List.nil_append, List.length_nil, Nat.zero_add] at O3 K3; have F3 : Fine w3 w4 := (by repeat (first | exact Fine.refl _ | assumption | refine Fine.alloc ?_ _ | refine Fine.drew ?_ | refine Fine.drewN ?_ _ | refine Fine.trans ?_ (by assumption) | (refine Fine.kept ?_ (by assumption) (by intro x hx; first | omega | (simp; omega))) | (refine Fine.setCell ?_ (by first | assumption | (simp; omega)) _))); have hz3 := F3.size)
      | (at_builtin; refine wpList_appS rfl (.tmp 30) (.tmp 31) rfl w3.heap.size _ _ rfl (O3.out.alloc _) (some ⟨w4.heap.size, 0, none⟩) _ _ [255, 255] rfl rfl (HB2.out _) (by first | omega | (simp; done) | (simp; omega)) (by first | omega | (simp; done) | (simp; omega)) ?_; intro A4 c4 w5 O4 K4 k4; have F4 : Fine w3 w5 := (by repeat (first | exact Fine.refl _ | assumption | refine Fine.alloc ?_ _ | refine Fine.drew ?_ | refine Fine.drewN ?_ _ | refine Fine.trans ?_ (by assumption) | (refine Fine.kept ?_ (by assumption) (by intro x hx; first | omega | (simp; omega))) | (refine Fine.setCell ?_ (by first | assumption | (simp; omega)) _)))))
    have F5 : Fine w w5 := F2.trans F4
    have K2' := Lib.hid (K2.out.fine F4)
    clear O1 O2 O3 O4 K1 K2 K3 k1 k2 k3 k4 F1 F2 F3 F4 G1 hz0 hz1 hz3 hRF HB2 HB hm1
    go_loopw [35, 8] (fun i z wr => ∃ k : Nat, k ≤ E.length ∧ i = .int .i64 k ∧ (∃ zb : Bool, z = .bool zb ∧ (zb = false → 0 < great false E)) ∧ wr = w5) (fun i _ _ => E.length - (intOf i).toNat)
    case atStart => exact ⟨0, Nat.zero_le _, rfl, ⟨true, rfl, by simp⟩, rfl⟩
    case round =>
      obtain ⟨k, hk, rfl, ⟨zb, rfl, hzb⟩, rfl⟩ := hrel
      by_cases hlt : k < E.length
      · obtain ⟨b, off, rfl, hb, hck⟩ := (HE.out.fine F5).at_ hlt
        have hp := HP.out k hlt
        obtain ⟨x, hx⟩ : ∃ x, E.getD k 0 = x := ⟨_, rfl⟩
        rw [hx] at hck hp
        clear hx
        cases zb with
        | false =>
          go_wp2
          go_roundw
          case rel => exact ⟨k + 1, by omega, by go_num, ⟨false, rfl, hzb⟩, (by trivial)⟩
          case measure => simp [intOf]; omega
        | true =>
          by_cases hx0 : x = 0
          · subst hx0
            go_wp2
            go_roundw
            case rel => exact ⟨k + 1, by omega, by go_num, ⟨true, rfl, hzb⟩, (by trivial)⟩
            case measure => simp [intOf]; omega
          · have hxb : (x == 0) = false := by simp [hx0]
            have hg := Lib.hid (hp hx0)
            go_wp2
            go_roundw
            case rel => exact ⟨k + 1, by omega, by go_num, ⟨false, rfl, fun _ => hg.out⟩, (by trivial)⟩
            case measure => simp [intOf]; omega
      · have e : k = E.length := by omega
        subst e
        go_wp2_with fail
        refine (of_one wr.heap.size _ c2 A2 (E ++ List.replicate q 0) _ (by repeat (first | assumption | (with_reducible refine Blk.newAt ?_; first | rfl | (simp; done)) | (with_reducible refine Blk.drew ?_) | (with_reducible refine Blk.alloc ?_ _) | (refine Blk.fine ?_ (by assumption)))) (by simp) (K2'.out.fine (by repeat (first | exact Fine.refl _ | assumption | refine Fine.alloc ?_ _ | refine Fine.drew ?_ | refine Fine.drewN ?_ _ | refine Fine.trans ?_ (by assumption) | (refine Fine.kept ?_ (by assumption) (by intro x hx; first | omega | (simp; omega))) | (refine Fine.setCell ?_ (by first | assumption | (simp; omega)) _)))) (by simp; omega)).mono ?_; rintro e w6 ⟨rfl, f6⟩
        rw [HZ1.out]
        have F6 : Fine wr w6 := (by repeat (first | exact Fine.refl _ | assumption | refine Fine.alloc ?_ _ | refine Fine.drew ?_ | refine Fine.drewN ?_ _ | refine Fine.trans ?_ (by assumption) | (refine Fine.kept ?_ (by assumption) (by intro x hx; first | omega | (simp; omega))) | (refine Fine.setCell ?_ (by first | assumption | (simp; omega)) _)))
        go_wp2_with fail
        refine (of_one w6.heap.size _ cap a E _ (by repeat (first | assumption | (with_reducible refine Blk.newAt ?_; first | rfl | (simp; done)) | (with_reducible refine Blk.drew ?_) | (with_reducible refine Blk.alloc ?_ _) | (refine Blk.fine ?_ (by assumption)))) rfl (HE.out.fine (by repeat (first | exact Fine.refl _ | assumption | refine Fine.alloc ?_ _ | refine Fine.drew ?_ | refine Fine.drewN ?_ _ | refine Fine.trans ?_ (by assumption) | (refine Fine.kept ?_ (by assumption) (by intro x hx; first | omega | (simp; omega))) | (refine Fine.setCell ?_ (by first | assumption | (simp; omega)) _)))) (by omega)).mono ?_; rintro e w7 ⟨rfl, f7⟩
        rw [HS.out]
        have F7 : Fine wr w7 := (by repeat (first | exact Fine.refl _ | assumption | refine Fine.alloc ?_ _ | refine Fine.drew ?_ | refine Fine.drewN ?_ _ | refine Fine.trans ?_ (by assumption) | (refine Fine.kept ?_ (by assumption) (by intro x hx; first | omega | (simp; omega))) | (refine Fine.setCell ?_ (by first | assumption | (simp; omega)) _)))
        cases zb with
        | true =>
          go_wp2
          go_ret
          exact ⟨rfl, (by repeat (first | exact Fine.refl _ | assumption | refine Fine.alloc ?_ _ | refine Fine.drew ?_ | refine Fine.drewN ?_ _ | refine Fine.trans ?_ (by assumption) | (refine Fine.kept ?_ (by assumption) (by intro x hx; first | omega | (simp; omega))) | (refine Fine.setCell ?_ (by first | assumption | (simp; omega)) _)))⟩
        | false =>
          have hs2 := Lib.hid (HO1.out (hzb rfl))
          go_wp2_with fail
          refine (of_one w7.heap.size _ c4 A4 (E ++ [255, 255]) _ (by repeat (first | assumption | (with_reducible refine Blk.newAt ?_; first | rfl | (simp; done)) | (with_reducible refine Blk.drew ?_) | (with_reducible refine Blk.alloc ?_ _) | (refine Blk.fine ?_ (by assumption)))) (by simp) (K4.out.fine (by repeat (first | exact Fine.refl _ | assumption | refine Fine.alloc ?_ _ | refine Fine.drew ?_ | refine Fine.drewN ?_ _ | refine Fine.trans ?_ (by assumption) | (refine Fine.kept ?_ (by assumption) (by intro x hx; first | omega | (simp; omega))) | (refine Fine.setCell ?_ (by first | assumption | (simp; omega)) _)))) (by simp; omega)).mono ?_; rintro e w8 ⟨rfl, f8⟩
          rw [hs2.out]
          have F8 : Fine wr w8 := (by repeat (first | exact Fine.refl _ | assumption | refine Fine.alloc ?_ _ | refine Fine.drew ?_ | refine Fine.drewN ?_ _ | refine Fine.trans ?_ (by assumption) | (refine Fine.kept ?_ (by assumption) (by intro x hx; first | omega | (simp; omega))) | (refine Fine.setCell ?_ (by first | assumption | (simp; omega)) _)))
          go_wp2_with fail
          refine (of_one w8.heap.size _ cap a E _ (by repeat (first | assumption | (with_reducible refine Blk.newAt ?_; first | rfl | (simp; done)) | (with_reducible refine Blk.drew ?_) | (with_reducible refine Blk.alloc ?_ _) | (refine Blk.fine ?_ (by assumption)))) rfl (HE.out.fine (by repeat (first | exact Fine.refl _ | assumption | refine Fine.alloc ?_ _ | refine Fine.drew ?_ | refine Fine.drewN ?_ _ | refine Fine.trans ?_ (by assumption) | (refine Fine.kept ?_ (by assumption) (by intro x hx; first | omega | (simp; omega))) | (refine Fine.setCell ?_ (by first | assumption | (simp; omega)) _)))) (by omega)).mono ?_; rintro e w9 ⟨rfl, f9⟩
          rw [HS.out]
          go_wp2
          go_ret
          exact ⟨rfl, (by repeat (first | exact Fine.refl _ | assumption | refine Fine.alloc ?_ _ | refine Fine.drew ?_ | refine Fine.drewN ?_ _ | refine Fine.trans ?_ (by assumption) | (refine Fine.kept ?_ (by assumption) (by intro x hx; first | omega | (simp; omega))) | (refine Fine.setCell ?_ (by first | assumption | (simp; omega)) _)))⟩
end Go.Proofs.Ythnennleblgjeaa
