/- Contracts of the reference's functions of layer 1. -/
import Derived.Test.YthnennleblgjeaaDoorOct2
namespace Go.Proofs.YthnennleblgjeaaDoor
open Go.ChangeShapes Go.WideShapes Go.ChangeAt Go.RowKit
set_option linter.unusedVariables false

theorem rwidth_any (x : Int) (w : World) : Calls Tryd.prog 74 #[.int .i64 x] w fun e w' => e = .returned (.int .i64 (width x)) ∧ Fine w w' := by
  go_enter Tryd.func74, Tryd.ntmps74
  go_wp2
  all_goals
    go_ret
    exact ⟨ret_int (by unfold width; omega), (by repeat (first | exact Fine.refl _ | assumption | refine Fine.alloc ?_ _ | refine Fine.drew ?_ | refine Fine.drewN ?_ _ | refine Fine.trans ?_ (by assumption) | (refine Fine.kept ?_ (by assumption) (by intro x hx; first | omega | (simp; omega))) | (refine Fine.setCell ?_ (by first | assumption | (simp; omega)) _)))⟩

/-- 'Same' says whether the lists are one. -/
theorem same_q (A B : Option Addr) (c d : Nat) (xs ys : List Int) (w : World) (hx : BS w A c xs) (hy : BS w B d ys) (hl : xs.length ≤ 1000000000) :
    Calls Tryd.prog 22 #[.slice A xs.length c, .slice B ys.length d] w fun e w' => e = .returned (.bool (decide (xs = ys))) ∧ ∃ q, w' = w.drewN q := by
  by_cases hlen : xs.length = ys.length
  · have hlb : ((xs.length : Int) != (ys.length : Int)) = false := by simp [hlen]
    have HL := Lib.hid hlen
    have hle : xs.length ≤ ys.length ∧ ys.length ≤ xs.length := by omega
    clear hlen
    go_enter Tryd.func22, Tryd.ntmps22
    go_wp2
    go_loopw [5] (fun i wr => ∃ k : Nat, k ≤ xs.length ∧ i = .int .i64 k ∧ Hid (xs.take k = ys.take k) ∧ ∃ q, wr = w.drewN q) (fun i _ => xs.length - (intOf i).toNat)
    case atStart => exact ⟨0, Nat.zero_le _, rfl, rfl, 0, rfl⟩
    case round =>
      obtain ⟨k, hk, rfl, HT, q, rfl⟩ := hrel
      have hf : Fine w (w.drewN q) := (Fine.refl w).drewN q
      by_cases hlt : k < xs.length
      · obtain ⟨b1, o1, rfl, hb1, hc1⟩ := hx.at_ (k := k) hlt
        obtain ⟨b2, o2, rfl, hb2, hc2⟩ := hy.at_ (k := k) (by omega)
        obtain ⟨z1, hz1⟩ : ∃ z, xs.getD k 0 = z := ⟨_, rfl⟩
        obtain ⟨z2, hz2⟩ : ∃ z, ys.getD k 0 = z := ⟨_, rfl⟩
        rw [hz1] at hc1
        rw [hz2] at hc2
        have HZ1 := Lib.hid hz1; clear hz1
        have HZ2 := Lib.hid hz2; clear hz2
        have hlt2 : k < ys.length := by omega
        by_cases hz : z1 = z2
        · have hzb : (z1 != z2) = false := by simp [hz]
          have HZ := Lib.hid hz; clear hz
          go_wp2
          go_region
          go_wp2
          go_roundw
          case rel => exact ⟨k + 1, by omega, by go_num, by
            show _ = _
            rw [List.take_succ_eq_append_getElem hlt, List.take_succ_eq_append_getElem hlt2, HT.out]
            have e1 := HZ1.out
            have e2 := HZ2.out
            simp [List.getD, hlt, hlt2] at e1 e2
            rw [e1, e2, HZ.out], q + 1, rfl⟩
          case measure => simp [intOf]; omega
        · have hzb : (z1 != z2) = true := by simp [hz]
          have HZ := Lib.hid hz; clear hz
          go_wp2
          go_region
          go_wp2
          go_ret
          refine ⟨ret_bool ?_, q + 1, rfl⟩
          symm
          simp
          rintro rfl
          exact HZ.out (HZ1.out.symm.trans HZ2.out)
      · have e : k = xs.length := by omega
        subst e
        have hT := HT.out
        rw [List.take_length, List.take_of_length_le hle.2] at hT
        have HE := Lib.hid hT; clear hT
        go_wp2
        go_ret
        exact ⟨ret_bool (by simp [HE.out]), q, rfl⟩
  · have hlb : ((xs.length : Int) != (ys.length : Int)) = true := by simp; omega
    have hne : decide (xs = ys) = false := by simp; rintro rfl; exact hlen rfl
    have HN := Lib.hid hne
    clear hlen hne
    go_enter Tryd.func22, Tryd.ntmps22
    go_wp2
    go_ret
    exact ⟨ret_bool HN.out.symm, 0, rfl⟩
theorem same_any (A B : Option Addr) (c d : Nat) (xs ys : List Int) (w : World) (hx : BS w A c xs) (hy : BS w B d ys) (hl : xs.length ≤ 1000000000) :
    Calls Tryd.prog 22 #[.slice A xs.length c, .slice B ys.length d] w fun e w' => e = .returned (.bool (decide (xs = ys))) ∧ Fine w w' :=
  (same_q A B c d xs ys w hx hy hl).mono fun e w' ⟨he, q, hq⟩ => ⟨he, by rw [hq]; exact (Fine.refl w).drewN q⟩

theorem number_any (A : Option Addr) (c : Nat) (xs : List Int) (w : World) (hx : BS w A c xs) (hl : xs.length ≤ 8) :
    Calls Tryd.prog 71 #[.slice A xs.length c] w fun e w' => e = .returned (.int .u64 (num xs)) ∧ Fine w w' := by
  go_enter Tryd.func71, Tryd.ntmps71
  go_wp2
  go_loopw [3, 4] (fun v i wr => ∃ k : Nat, k ≤ xs.length ∧ i = .int .i64 k ∧ v = .int .u64 (num (xs.take k)) ∧ Fine w wr) (fun _ i _ => xs.length - (intOf i).toNat)
  case atStart => exact ⟨0, Nat.zero_le _, rfl, rfl, (by repeat (first | exact Fine.refl _ | assumption | refine Fine.alloc ?_ _ | refine Fine.drew ?_ | refine Fine.drewN ?_ _ | refine Fine.trans ?_ (by assumption) | (refine Fine.kept ?_ (by assumption) (by intro x hx; first | omega | (simp; omega))) | (refine Fine.setCell ?_ (by first | assumption | (simp; omega)) _)))⟩
  case round =>
    obtain ⟨k, hk, rfl, rfl, hf⟩ := hrel
    by_cases hlt : k < xs.length
    · obtain ⟨b, off, rfl, hb, hc⟩ := (hx.fine hf).at_ (k := k) hlt
      have hcb := hx.1.getD k
      obtain ⟨z, hz⟩ : ∃ z, xs.getD k 0 = z := ⟨_, rfl⟩
      rw [hz] at hc hcb
      have HNT := Lib.hid (num_take xs k (by omega))
      rw [hz] at HNT
      obtain ⟨N, hN⟩ : ∃ N, num (xs.take k) = N := ⟨_, rfl⟩
      have hNb := num_bd k (xs.take k) (by simp; omega) (hx.1.take k)
      rw [hN] at hNb HNT ⊢
      clear hz hN
      have hN7 : N < 72057594037927936 := Int.lt_of_lt_of_le hNb.2 ((show ∀ k : Nat, k ≤ 7 → (256 : Int) ^ k ≤ 72057594037927936 by decide) k (by omega))
      have hN0 := hNb.1
      clear hNb
      go_wp2
      go_roundw
      case rel => exact ⟨k + 1, by omega, by go_num, by rw [HNT.out], hf⟩
      case measure => simp [intOf]; omega
    · have e : k = xs.length := by omega
      subst e
      have HT : Hid (num (xs.take xs.length) = num xs) := by show _ = _; rw [List.take_length]
      go_wp2
      go_ret
      exact ⟨ret_int (by rw [← HT.out]), hf⟩

theorem take_len_succ (l : List Int) (k : Nat) (hk : k < l.length) : l.take (k + 1) = l.take k ++ [l.getD k 0] := by
  rw [List.take_succ_eq_append_getElem hk]
  simp [List.getD, hk]

theorem bytes_any (n : Int) (hn : 0 ≤ n ∧ n < 18446744073709551616) (x : Int) (w : World) :
    Calls Tryd.prog 67 #[.int .u64 n, .int .i64 x] w fun e w' => ∃ v, e = .returned v ∧ OwnB w' w.heap.size v (be (width x) n) ∧ Fine w w' := by
  have hw := width_bd x
  obtain ⟨m, hm⟩ : ∃ m, width x = m := ⟨_, rfl⟩
  rw [hm] at hw
  have HW := Lib.hid (fun w => hm ▸ rwidth_any x w)
  rw [hm]
  clear hm
  have hn0 := hn.1
  have hn1 := hn.2
  clear hn
  have hlen := be_length m n
  have hbb := be_bytes m n
  obtain ⟨L, hL⟩ : ∃ L, be m n = L := ⟨_, rfl⟩
  have HG : Hid (∀ i, i < m → L.getD i 0 = n / 256 ^ (m - 1 - i) % 256) := by rw [← hL]; exact be_get m n
  rw [hL] at hlen hbb ⊢
  clear hL
  have HL := Lib.hid hlen
  have HBB := Lib.hid hbb; clear hbb
  have hle : L.length ≤ m ∧ m ≤ L.length := by omega
  clear hlen
  go_enter Tryd.func67, Tryd.ntmps67
  go_wp2_with fail
  refine (HW.out _).mono ?_; rintro e w1 ⟨rfl, f1⟩
  go_wp2
  go_loopw [6, 5] (fun i v wr => ∃ k : Nat, k ≤ m ∧ i = .int .i64 k ∧ OwnB wr w1.heap.size v (L.take k) ∧ Fine w1 wr) (fun i _ _ => m - (intOf i).toNat)
  case atStart => exact ⟨0, Nat.zero_le _, rfl, by simpa using OwnB.nil_ w1 w1.heap.size, (by repeat (first | exact Fine.refl _ | assumption | refine Fine.alloc ?_ _ | refine Fine.drew ?_ | refine Fine.drewN ?_ _ | refine Fine.trans ?_ (by assumption) | (refine Fine.kept ?_ (by assumption) (by intro x hx; first | omega | (simp; omega))) | (refine Fine.setCell ?_ (by first | assumption | (simp; omega)) _)))⟩
  case round =>
    obtain ⟨k, hk, rfl, hown, hf⟩ := hrel
    by_cases hlt : k < m
    · go_wp2
      go_loop [7, 8] (fun v q => ∃ j : Nat, k + 1 + j ≤ m ∧ q = .int .i64 ((k + 1 + j : Nat) : Int) ∧ v = .int .u64 (n / 256 ^ j)) (fun _ q => m - (intOf q).toNat)
      case atStart => exact ⟨0, by omega, by go_num, by simp⟩
      case round =>
        obtain ⟨j, hj, rfl, rfl⟩ := hrel
        have hdb := div_pow_bd n j hn0
        have HD := Lib.hid (div_pow_succ n j)
        obtain ⟨N, hN⟩ : ∃ N, n / 256 ^ j = N := ⟨_, rfl⟩
        have HNN := Lib.hid hN
        rw [hN] at hdb HD ⊢
        clear hN
        by_cases hlt2 : k + 1 + j < m
        · go_wp2
          go_round
          case rel => exact ⟨j + 1, by omega, by go_num, by rw [HD.out]⟩
          case measure => simp [intOf]; omega
        · have hj' : j = m - 1 - k := by omega
          have HE : Hid (L.getD k 0 = N % 256) := by show _ = _; rw [HG.out k hlt, ← hj', HNN.out]
          have hr : 0 ≤ N % 256 ∧ N % 256 ≤ 255 := by omega
          have hsz := hf.size
          have hlk : (L.take k).length ≤ 8 := by simp; omega
          go_wp2_with (at_builtin; refine wpList_appB rfl (.tmp 26) (.tmp 30) rfl w1.heap.size _ _ rfl (hown.alloc _) (some ⟨wr.heap.size, 0, none⟩) _ _ [N % 256] rfl rfl (BS.one hr _) (by simp; omega) (by simp; omega) ?_; intro v' w2 hown2 _ hg2 _)
          have hf2 : Fine w1 w2 := (hf.alloc _).grown hg2 (fun q hq => (hown.lt q hq).1)
          have hT : L.take (k + 1) = L.take k ++ [N % 256] := by rw [take_len_succ L k (by omega), HE.out]
          go_roundw
          case rel => exact ⟨k + 1, by omega, by go_num, by rw [hT]; exact hown2, hf2⟩
          case measure => simp [intOf]; omega
    · have e : k = m := by omega
      subst e
      have HT : Hid (L.take k = L) := by show _ = _; rw [List.take_of_length_le hle.1]
      go_wp2
      go_ret
      exact ⟨_, rfl, by rw [HT.out] at hown; exact hown.lower f1.size, (by repeat (first | exact Fine.refl _ | assumption | refine Fine.alloc ?_ _ | refine Fine.drew ?_ | refine Fine.drewN ?_ _ | refine Fine.trans ?_ (by assumption) | (refine Fine.kept ?_ (by assumption) (by intro x hx; first | omega | (simp; omega))) | (refine Fine.setCell ?_ (by first | assumption | (simp; omega)) _)))⟩
end Go.Proofs.YthnennleblgjeaaDoor
