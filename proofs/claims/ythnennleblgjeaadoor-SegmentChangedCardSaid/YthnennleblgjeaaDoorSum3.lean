/- Contracts of sum.Good, of the reference's functions of layer 2, and that the example holds. -/
import Derived.Test.YthnennleblgjeaaDoorSum2
namespace Go.Proofs.YthnennleblgjeaaDoor
open Go.ChangeShapes Go.WideShapes Go.ChangeAt Go.RowKit
set_option linter.unusedVariables false

/-- Do bytes have their sum behind them? -/
def goodB (l : List Int) : Bool := decide (2 ≤ l.length) && (decide (l.length % 2 = 0) && decide (sumOf l = 0))

theorem good_any (A : Option Addr) (k c : Nat) (xs : List Int) (w : World) (h : BS w A c xs) (hk : k = xs.length) (hl : xs.length ≤ 1000000) :
    Calls Tryd.prog 41 #[.slice A k c] w fun e w' => e = .returned (.bool (goodB xs)) ∧ Fine w w' := by
  subst hk
  have H := Lib.hid h; clear h
  by_cases h2 : 2 ≤ xs.length
  · by_cases he : xs.length % 2 = 0
    · have he' : ((xs.length : Int) % 2 == 0) = true := by simp; omega
      have HG : Hid (goodB xs = decide (sumOf xs = 0)) := by show _ = _; unfold goodB; simp [h2, he]
      have h2' : (2 : Int) ≤ (xs.length : Int) := by omega
      obtain ⟨s, hs⟩ : ∃ s, sumOf xs = s := ⟨_, rfl⟩
      rw [hs] at HG
      have HS := Lib.hid hs
      clear he h2 hs
      go_enter Tryd.func41, Tryd.ntmps41
      go_wp2_with fail
      refine (of_one w.heap.size _ c A xs _ (by repeat (first | assumption | (with_reducible refine Blk.newAt ?_; first | rfl | (simp; done)) | (with_reducible refine Blk.drew ?_) | (with_reducible refine Blk.alloc ?_ _) | (refine Blk.fine ?_ (by assumption)))) rfl (H.out.fine (by repeat (first | exact Fine.refl _ | assumption | refine Fine.alloc ?_ _ | refine Fine.drew ?_ | refine Fine.drewN ?_ _ | refine Fine.trans ?_ (by assumption) | (refine Fine.kept ?_ (by assumption) (by intro x hx; first | omega | (simp; omega))) | (refine Fine.setCell ?_ (by first | assumption | (simp; omega)) _)))) (by omega)).mono ?_; rintro e w3 ⟨rfl, f3⟩
      rw [HS.out]
      go_wp2
      go_ret
      exact ⟨ret_bool (by rw [HG.out, Bool.eq_iff_iff]; simp), (by repeat (first | exact Fine.refl _ | assumption | refine Fine.alloc ?_ _ | refine Fine.drew ?_ | refine Fine.drewN ?_ _ | refine Fine.trans ?_ (by assumption) | (refine Fine.kept ?_ (by assumption) (by intro x hx; first | omega | (simp; omega))) | (refine Fine.setCell ?_ (by first | assumption | (simp; omega)) _)))⟩
    · have he' : ((xs.length : Int) % 2 == 0) = false := by simp; omega
      have HG : Hid (goodB xs = false) := by show _ = _; unfold goodB; simp [he]
      have h2' : (2 : Int) ≤ (xs.length : Int) := by omega
      clear he h2
      go_enter Tryd.func41, Tryd.ntmps41
      go_wp2
      go_ret
      exact ⟨ret_bool (by rw [HG.out]), (by repeat (first | exact Fine.refl _ | assumption | refine Fine.alloc ?_ _ | refine Fine.drew ?_ | refine Fine.drewN ?_ _ | refine Fine.trans ?_ (by assumption) | (refine Fine.kept ?_ (by assumption) (by intro x hx; first | omega | (simp; omega))) | (refine Fine.setCell ?_ (by first | assumption | (simp; omega)) _)))⟩
  · have HG : Hid (goodB xs = false) := by show _ = _; unfold goodB; simp [h2]
    have h2' : (xs.length : Int) < 2 := by omega
    clear h2
    go_enter Tryd.func41, Tryd.ntmps41
    go_wp2
    go_ret
    exact ⟨ret_bool (by rw [HG.out]), (by repeat (first | exact Fine.refl _ | assumption | refine Fine.alloc ?_ _ | refine Fine.drew ?_ | refine Fine.drewN ?_ _ | refine Fine.trans ?_ (by assumption) | (refine Fine.kept ?_ (by assumption) (by intro x hx; first | omega | (simp; omega))) | (refine Fine.setCell ?_ (by first | assumption | (simp; omega)) _)))⟩

/-- The bytes of a block that was laid for a list. -/
theorem bs_lit (w : World) (l : List Int) (h : Bytes l) (hl : l.length ≤ 1000000) : BS (w.alloc (.cells (cellB l).toArray 5)) (some ⟨w.heap.size, 0, none⟩) l.length l :=
  ⟨h, by rw [cellB_length]; omega, by unfold maxLen; omega, (fun e => by cases e), fun _ => ⟨w.heap.size, 0, rfl, by simp, fun i v hv => by
    rw [Nat.zero_add, (Blk.new w 5 (cellB l).toArray).cell i]
    simpa using hv⟩⟩

theorem great_take2 (l : List Int) (k : Nat) (hk : k < l.length) (he : k % 2 = 0) :
    great false (l.take (k + 2)) = great false (l.take k) + 256 * l.getD k 0 + (if k + 1 < l.length then l.getD (k + 1) 0 else 0) := by
  have hp : (l.take k).length % 2 = 0 := by simp; omega
  split
  · rename_i h
    rw [show k + 2 = (k + 1) + 1 from rfl, take_len_succ l (k + 1) h, take_len_succ l k hk, great_append, great_append]
    simp [great, List.length_take]
    have : (min k l.length + 1) % 2 = 1 := by omega
    simp [this]
    omega
  · rename_i h
    have e : l.take (k + 2) = l.take (k + 1) := by rw [List.take_of_length_le (by omega), List.take_of_length_le (by omega)]
    rw [e, take_len_succ l k hk, great_append]
    simp [great]
    omega

set_option maxHeartbeats 400000 in
theorem rof_any (A : Option Addr) (k c : Nat) (xs : List Int) (w : World) (h : BS w A c xs) (hk : k = xs.length) (hl : xs.length ≤ 1000000) :
    Calls Tryd.prog 66 #[.slice A k c] w fun e w' => e = .returned (.int .u16 (sumOf xs)) ∧ Fine w w' := by
  subst hk
  have H := Lib.hid h
  have HG : Hid (∀ j, 0 ≤ great false (xs.take j) ∧ great false (xs.take j) ≤ 65280 * 1000000) := fun j => by
    have h1 := great_nonneg false (xs.take j) (h.1.take j)
    have h2 := great_le false (xs.take j) (h.1.take j)
    refine ⟨h1, ?_⟩
    have : ((xs.take j).length : Int) ≤ 1000000 := by simp; omega
    omega
  clear h
  go_enter Tryd.func66, Tryd.ntmps66
  go_wp2
  go_loop [3, 4] (fun v i => ∃ j : Nat, j ≤ xs.length + 1 ∧ j % 2 = 0 ∧ i = .int .i64 j ∧ v = .int .i64 (great false (xs.take j))) (fun _ i => xs.length + 1 - (intOf i).toNat)
  case atStart => exact ⟨0, Nat.zero_le _, rfl, rfl, rfl⟩
  case round =>
    obtain ⟨j, hj, hj2, rfl, rfl⟩ := hrel
    have hg := HG.out j
    obtain ⟨G, hG⟩ : ∃ G, great false (xs.take j) = G := ⟨_, rfl⟩
    rw [hG] at hg ⊢
    by_cases hlt : j < xs.length
    · obtain ⟨b, off, rfl, hb, hc⟩ := H.out.at_ hlt
      have hzb := H.out.1.getD j
      have HT := Lib.hid (great_take2 xs j hlt hj2)
      rw [hG] at HT
      obtain ⟨z, hz⟩ : ∃ z, xs.getD j 0 = z := ⟨_, rfl⟩
      rw [hz] at hc hzb HT
      clear hz hG
      have hJ2 := Lib.hid hj2; clear hj2
      by_cases h1 : j + 1 < xs.length
      · obtain ⟨b', off', e1, _, hc1⟩ := H.out.at_ h1
        injection e1 with e1
        injection e1 with e1 e2 _
        subst e1 e2
        have hyb := H.out.1.getD (j + 1)
        obtain ⟨y, hy⟩ : ∃ y, xs.getD (j + 1) 0 = y := ⟨_, rfl⟩
        rw [hy, if_pos h1] at HT
        rw [hy] at hc1 hyb
        clear hy
        go_wp2
        go_round
        case rel => exact ⟨j + 2, by omega, by have := hJ2.out; omega, by go_num, by rw [HT.out]⟩
        case measure => simp [intOf]; omega
      · rw [if_neg h1] at HT
        go_wp2
        go_round
        case rel => exact ⟨j + 2, by omega, by have := hJ2.out; omega, by go_num, by rw [HT.out]; go_num⟩
        case measure => simp [intOf]; omega
    · have hT : great false (xs.take j) = great false xs := by rw [List.take_of_length_le (by omega)]
      have HS : Hid (sumOf xs = told G) := by show _ = _; unfold sumOf; rw [← hT, hG]
      clear hG hT
      go_wp2
      go_loop [3] (fun v => ∃ n : Int, 0 ≤ n ∧ n ≤ 65280000000 ∧ v = .int .i64 n ∧ Hid (told n = told G)) (fun v => (intOf v).toNat)
      case atStart => exact ⟨G, by omega, by omega, rfl, rfl⟩
      case round =>
        obtain ⟨n, hn0, hn1, rfl, HN⟩ := hrel
        by_cases hbig : 65535 < n
        · have HF := Lib.hid (told_fold n hn0)
          go_wp2
          go_round
          case rel => exact ⟨fold16 n, by unfold fold16; omega, by unfold fold16; omega, rfl, by show _ = _; rw [HF.out]; exact HN.out⟩
          case measure => simp [intOf]; omega
        · have HT := Lib.hid (told_small n hn0 (by omega))
          go_wp2
          go_ret
          exact ⟨ret_int (by rw [HS.out, ← HN.out, HT.out]), Fine.refl _⟩

theorem be2 (s : Int) (h : 0 ≤ s ∧ s ≤ 65535) : be 2 s = [s / 256, s % 256] := by
  have e : s / 256 % 256 = s / 256 := by omega
  simp [be, e]

set_option maxHeartbeats 400000 in
theorem rput_any (A : Option Addr) (k c : Nat) (xs : List Int) (w : World) (h : BS w A c xs) (hk : k = xs.length) (hl : xs.length ≤ 100000) :
    Calls Tryd.prog 50 #[.slice A k c] w fun e w' => ∃ v, e = .returned v ∧ OwnB w' w.heap.size v (putOf xs) ∧ Fine w w' := by
  subst hk
  have H := Lib.hid h
  have hpl := pad_le xs
  have hsb := sum_bd (pad_bytes h.1)
  clear h
  obtain ⟨s, hs⟩ : ∃ s, sumOf (pad xs) = s := ⟨_, rfl⟩
  rw [hs] at hsb
  have HR : Hid (putOf xs = pad xs ++ [s / 256, s % 256]) := by show _ = _; unfold putOf; rw [hs, be2 s hsb]
  have HS := Lib.hid hs; clear hs
  have h1 : 0 ≤ s / 256 ∧ s / 256 ≤ 255 := by omega
  have h2 : 0 ≤ s % 256 ∧ s % 256 ≤ 255 := by omega
  have hq1 : IntKind.u16.wrap (s.tdiv 256) = s / 256 := by rw [Int.tdiv_eq_ediv_of_nonneg hsb.1, IntKind.wrap_u16]; omega
  have hq2 : s / 256 % 256 = s / 256 := by omega
  have HB2 : Hid (∀ w : World, BS (w.alloc (.cells #[.int .u8 (s / 256), .int .u8 (s % 256)] 5)) (some ⟨w.heap.size, 0, none⟩) 2 [s / 256, s % 256]) :=
    fun w => bs_lit w [s / 256, s % 256] (by intro x hx; simp at hx; omega) (by simp)
  by_cases hodd : xs.length % 2 = 1
  · have HP : Hid (pad xs = xs ++ [0]) := by show _ = _; unfold pad; rw [if_pos hodd]
    have ho : ((xs.length : Int) % 2 == 1) = true := by simp; omega
    go_enter Tryd.func50, Tryd.ntmps50
    go_wp2_with (first
      | (at_builtin; refine wpList_appS rfl (.tmp 5) (.tmp 6) rfl w.heap.size _ _ rfl (OwnB.nil_ w _) A _ c xs rfl rfl H.out (by simp; omega) (Nat.le_refl _) ?_; intro A1 c1 w1 O1 K1 k1; simp only [List.nil_append, List.length_nil, Nat.zero_add] at O1 K1; have F1 : Fine w w1 := (by repeat (first | exact Fine.refl _ | assumption | refine Fine.alloc ?_ _ | refine Fine.drew ?_ | refine Fine.drewN ?_ _ | refine Fine.trans ?_ (by assumption) | (refine Fine.kept ?_ (by assumption) (by intro x hx; first | omega | (simp; omega))) | (refine Fine.setCell ?_ (by first | assumption | (simp; omega)) _))); have hz1 := F1.size)
      | (at_builtin; refine wpList_appS rfl (.tmp 12) (.tmp 13) rfl w.heap.size _ _ rfl (O1.out.alloc _) (some ⟨w1.heap.size, 0, none⟩) _ _ [0] rfl rfl (BS.one (by omega) _) (by simp; omega) (by simp; omega) ?_; intro A2 c2 w2 O2 K2 k2))
    have F2 : Fine w w2 := (by repeat (first | exact Fine.refl _ | assumption | refine Fine.alloc ?_ _ | refine Fine.drew ?_ | refine Fine.drewN ?_ _ | refine Fine.trans ?_ (by assumption) | (refine Fine.kept ?_ (by assumption) (by intro x hx; first | omega | (simp; omega))) | (refine Fine.setCell ?_ (by first | assumption | (simp; omega)) _)))
    rw [← HP.out] at O2 K2
    refine (rof_any A2 _ c2 (pad xs) _ K2.out (by rw [HP.out]; simp) (by omega)).mono ?_; rintro e w3 ⟨rfl, f3⟩
    rw [HS.out]
    simp only [List.length_cons, List.length_nil, Nat.zero_add] at O2
    have F3 : Fine w w3 := F2.trans f3
    have hz3 := F3.size
    go_wp2_with (at_builtin; refine wpList_appB rfl (.tmp 17) (.tmp 24) rfl w.heap.size _ _ rfl ((O2.out.fine f3).alloc _) (some ⟨w3.heap.size, 0, none⟩) _ _ [s / 256, s % 256] rfl rfl (HB2.out _) (by first | omega | (simp; done) | (simp; omega)) (by first | omega | (simp; done) | (simp; omega)) ?_; intro v4 w4 O4 k4 _ _)
    rw [← HR.out] at O4
    go_ret
    exact ⟨_, rfl, O4, (by repeat (first | exact Fine.refl _ | assumption | refine Fine.alloc ?_ _ | refine Fine.drew ?_ | refine Fine.drewN ?_ _ | refine Fine.trans ?_ (by assumption) | (refine Fine.kept ?_ (by assumption) (by intro x hx; first | omega | (simp; omega))) | (refine Fine.setCell ?_ (by first | assumption | (simp; omega)) _)))⟩
  · have HP : Hid (pad xs = xs) := by show _ = _; unfold pad; rw [if_neg hodd]; simp
    have ho : ((xs.length : Int) % 2 == 1) = false := by simp; omega
    go_enter Tryd.func50, Tryd.ntmps50
    go_wp2_with (at_builtin; refine wpList_appS rfl (.tmp 5) (.tmp 6) rfl w.heap.size _ _ rfl (OwnB.nil_ w _) A _ c xs rfl rfl H.out (by simp; omega) (Nat.le_refl _) ?_; intro A1 c1 w1 O1 K1 k1; simp only [List.nil_append, List.length_nil, Nat.zero_add] at O1 K1; have F1 : Fine w w1 := (by repeat (first | exact Fine.refl _ | assumption | refine Fine.alloc ?_ _ | refine Fine.drew ?_ | refine Fine.drewN ?_ _ | refine Fine.trans ?_ (by assumption) | (refine Fine.kept ?_ (by assumption) (by intro x hx; first | omega | (simp; omega))) | (refine Fine.setCell ?_ (by first | assumption | (simp; omega)) _))); have hz1 := F1.size)
    refine (rof_any A1 _ c1 (pad xs) _ (by rw [HP.out]; exact K1.out) (by rw [HP.out]) (by omega)).mono ?_; rintro e w3 ⟨rfl, f3⟩
    rw [HS.out]
    have F3 : Fine w w3 := F1.trans f3
    have hz3 := F3.size
    go_wp2_with (at_builtin; go_loud (refine wpList_appB rfl (.tmp 17) (.tmp 24) rfl w.heap.size _ _ rfl ((O1.out.fine f3).alloc _) (some ⟨w3.heap.size, 0, none⟩) _ _ [s / 256, s % 256] rfl rfl (HB2.out _) (by first | omega | (simp; done) | (simp; omega)) (by first | omega | (simp; done) | (simp; omega)) ?_); intro v4 w4 O4 k4 _ _)
    rw [HP.out] at HR
    rw [← HR.out] at O4
    go_ret
    exact ⟨_, rfl, O4, (by repeat (first | exact Fine.refl _ | assumption | refine Fine.alloc ?_ _ | refine Fine.drew ?_ | refine Fine.drewN ?_ _ | refine Fine.trans ?_ (by assumption) | (refine Fine.kept ?_ (by assumption) (by intro x hx; first | omega | (simp; omega))) | (refine Fine.setCell ?_ (by first | assumption | (simp; omega)) _)))⟩
end Go.Proofs.YthnennleblgjeaaDoor
