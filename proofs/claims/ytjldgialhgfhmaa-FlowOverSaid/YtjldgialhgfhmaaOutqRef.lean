/- The reference of outq: bytes that are the same; numbers of 32 bits. -/
import Derived.Test.YtjldgialhgfhmaaOutq3
namespace Go.Proofs.Ytjldgialhgfhmaa
open Go.ChangeShapes Go.WideShapes Go.ChangeAt Go.RowKit
set_option linter.unusedVariables false

theorem bytes_any (A B : Option Addr) (c d : Nat) (xs ys : List Int) (w : World) (hx : RS LB w A c xs) (hy : RS LB w B d ys) :
    Calls Try.prog 48 #[.slice A xs.length c, .slice B ys.length d] w fun e w' => e = .returned (.bool (decide (xs = ys))) ∧ Fine w w' := by
  have hx1 := hx.le
  have hx2 := hx.max
  have hy1 := hy.le
  have hy2 := hy.max
  unfold maxLen at hx2 hy2
  by_cases hl : xs.length = ys.length
  · have hlb : ((xs.length : Int) != (ys.length : Int)) = false := by simp [hl]
    have hle : xs.length ≤ ys.length ∧ ys.length ≤ xs.length := by omega
    have HL := Lib.hid hl; clear hl
    go_enter Try.func48, Try.ntmps48
    go_wp2_with fail
    go_loopw [5] (fun i wr => ∃ k : Nat, k ≤ xs.length ∧ i = .int .i64 k ∧ xs.take k = ys.take k ∧ Fine w wr) (fun i _ => xs.length - (intOf i).toNat)
    case atStart => exact ⟨0, Nat.zero_le _, rfl, by simp, (by repeat (first | exact Fine.refl _ | assumption | refine Fine.alloc ?_ _ | refine Fine.drew ?_ | refine Fine.drewN ?_ _ | refine Fine.trans ?_ (by assumption) | (refine Fine.kept ?_ (by assumption) (by intro x hx; first | omega | (simp; omega))) | (refine Fine.setCell ?_ (by first | assumption | (simp; done) | (simp; omega)) _)))⟩
    case round =>
      obtain ⟨k, hk, rfl, ht0, hf⟩ := hrel
      have HT := Lib.hid ht0; clear ht0
      by_cases hlt : k < xs.length
      · obtain ⟨b1, o1, rfl, hb1, hc1⟩ := (hx.fine hf).atI hlt
        obtain ⟨b2, o2, rfl, hb2, hc2⟩ := (hy.fine hf).atI (i := k) (by omega)
        obtain ⟨z1, hz1⟩ : ∃ z, xs.getD k 0 = z := ⟨_, rfl⟩
        obtain ⟨z2, hz2⟩ : ∃ z, ys.getD k 0 = z := ⟨_, rfl⟩
        rw [hz1] at hc1
        rw [hz2] at hc2
        have HZ1 := Lib.hid hz1; clear hz1
        have HZ2 := Lib.hid hz2; clear hz2
        have hlt2 : k < ys.length := by omega
        by_cases hz : z1 = z2
        · have hzb : (z1 != z2) = false := by simp [hz]
          have HZ := Lib.hid hz; clear hz
          go_wp2
          go_region
          go_wp2
          go_roundw
          case rel => exact ⟨k + 1, by omega, by go_num, by
            show _ = _
            rw [List.take_succ_eq_append_getElem hlt, List.take_succ_eq_append_getElem hlt2, HT.out]
            have e1 := HZ1.out
            have e2 := HZ2.out
            simp [List.getD, hlt, hlt2] at e1 e2
            rw [e1, e2, HZ.out], (by repeat (first | exact Fine.refl _ | assumption | refine Fine.alloc ?_ _ | refine Fine.drew ?_ | refine Fine.drewN ?_ _ | refine Fine.trans ?_ (by assumption) | (refine Fine.kept ?_ (by assumption) (by intro x hx; first | omega | (simp; omega))) | (refine Fine.setCell ?_ (by first | assumption | (simp; done) | (simp; omega)) _)))⟩
          case measure => simp [intOf]; omega
        · have hzb : (z1 != z2) = true := by simp [hz]
          have HZ := Lib.hid hz; clear hz
          go_wp2
          go_region
          go_wp2
          go_ret
          refine ⟨ret_bool ?_, (by repeat (first | exact Fine.refl _ | assumption | refine Fine.alloc ?_ _ | refine Fine.drew ?_ | refine Fine.drewN ?_ _ | refine Fine.trans ?_ (by assumption) | (refine Fine.kept ?_ (by assumption) (by intro x hx; first | omega | (simp; omega))) | (refine Fine.setCell ?_ (by first | assumption | (simp; done) | (simp; omega)) _)))⟩
          symm
          simp
          rintro rfl
          exact HZ.out (HZ1.out.symm.trans HZ2.out)
      · have e : k = xs.length := by omega
        have hT := HT.out
        rw [e, List.take_length, List.take_of_length_le hle.2] at hT
        have HE := Lib.hid hT; clear hT e
        go_wp2
        go_ret
        exact ⟨ret_bool (by simp [HE.out]), (by repeat (first | exact Fine.refl _ | assumption | refine Fine.alloc ?_ _ | refine Fine.drew ?_ | refine Fine.drewN ?_ _ | refine Fine.trans ?_ (by assumption) | (refine Fine.kept ?_ (by assumption) (by intro x hx; first | omega | (simp; omega))) | (refine Fine.setCell ?_ (by first | assumption | (simp; done) | (simp; omega)) _)))⟩
  · have hlb : ((xs.length : Int) != (ys.length : Int)) = true := by simp; omega
    have HL := Lib.hid hl; clear hl
    go_enter Try.func48, Try.ntmps48
    go_wp2_with fail
    go_ret
    exact ⟨ret_bool (by symm; simp; rintro rfl; exact HL.out rfl), (by repeat (first | exact Fine.refl _ | assumption | refine Fine.alloc ?_ _ | refine Fine.drew ?_ | refine Fine.drewN ?_ _ | refine Fine.trans ?_ (by assumption) | (refine Fine.kept ?_ (by assumption) (by intro x hx; first | omega | (simp; omega))) | (refine Fine.setCell ?_ (by first | assumption | (simp; done) | (simp; omega)) _)))⟩

theorem same_any (r s : Raw) (p : Pc) (v v' : Nat → Prop) (w : World) (hr : Is w v r p) (hs : Is w v' s p) :
    Calls Try.prog 37 #[.agg r.cells.toArray, .agg s.cells.toArray] w fun x w' => x = .returned (.bool true) ∧ Fine w w' := by
  obtain ⟨seq, syn, fin, A, len, c, dsn, last⟩ := r
  obtain ⟨seq', syn', fin', B, len', d, dsn', last'⟩ := s
  obtain ⟨h1, h2, h3, h4, h5, h6, h7, _⟩ := hr
  obtain ⟨g1, g2, g3, g4, g5, g6, g7, _⟩ := hs
  simp only at h1 h2 h3 h4 h5 h6 g1 g2 g3 g4 g5 g6 h7 g7
  obtain rfl := g1.trans h1.symm
  obtain rfl := g2.trans h2.symm
  obtain rfl := g3.trans h3.symm
  obtain rfl := g4.trans h4.symm
  obtain rfl := g5.trans h5.symm
  obtain rfl := g6.trans h6.symm
  have HC := Lib.hid (fun w' (hf : Fine w w') => bytes_any A B c d p.xs p.xs w' (h7.fine hf) (g7.fine hf))
  rw [← h6] at HC
  clear h1 h2 h3 h4 h5 h6 h7 g1 g2 g3 g4 g5 g6 g7
  show Calls Try.prog 37 #[.agg #[.int .u32 seq', .bool syn', .bool fin', .slice A len' c, .int .i64 dsn', .bool last'], .agg #[.int .u32 seq', .bool syn', .bool fin', .slice B len' d, .int .i64 dsn', .bool last']] w _
  go_enter Try.func37, Try.ntmps37
  go_wp2_with fail
  refine (HC.out _ (by repeat (first | exact Fine.refl _ | assumption | refine Fine.alloc ?_ _ | refine Fine.drew ?_ | refine Fine.drewN ?_ _ | refine Fine.trans ?_ (by assumption) | (refine Fine.kept ?_ (by assumption) (by intro x hx; first | omega | (simp; omega))) | (refine Fine.setCell ?_ (by first | assumption | (simp; done) | (simp; omega)) _)))).mono ?_; rintro x w1 ⟨rfl, f1⟩
  go_wp2_with fail
  go_ret
  exact ⟨ret_bool (by simp), (by repeat (first | exact Fine.refl _ | assumption | refine Fine.alloc ?_ _ | refine Fine.drew ?_ | refine Fine.drewN ?_ _ | refine Fine.trans ?_ (by assumption) | (refine Fine.kept ?_ (by assumption) (by intro x hx; first | omega | (simp; omega))) | (refine Fine.setCell ?_ (by first | assumption | (simp; done) | (simp; omega)) _)))⟩
theorem refSteps_any (a b : Int) (ha : 0 ≤ a ∧ a < 4294967296) (hb : 0 ≤ b ∧ b < 4294967296) (w : World) :
    Calls Try.prog 68 #[.int .u32 a, .int .u32 b] w fun e w' => e = .returned (.int .i64 (dist a b)) ∧ Fine w w' := by
  by_cases h : b - a < 0
  · have hd : dist a b = b - a + 4294967296 := by unfold dist; omega
    have HD := Lib.hid hd; clear hd
    go_enter Try.func68, Try.ntmps68
    go_wp2_with fail
    go_ret
    exact ⟨by rw [HD.out]; rfl, (by repeat (first | exact Fine.refl _ | assumption | refine Fine.alloc ?_ _ | refine Fine.drew ?_ | refine Fine.drewN ?_ _ | refine Fine.trans ?_ (by assumption) | (refine Fine.kept ?_ (by assumption) (by intro x hx; first | omega | (simp; omega))) | (refine Fine.setCell ?_ (by first | assumption | (simp; done) | (simp; omega)) _)))⟩
  · have hd : dist a b = b - a := by unfold dist; omega
    have HD := Lib.hid hd; clear hd
    go_enter Try.func68, Try.ntmps68
    go_wp2_with fail
    go_ret
    exact ⟨by rw [HD.out]; rfl, (by repeat (first | exact Fine.refl _ | assumption | refine Fine.alloc ?_ _ | refine Fine.drew ?_ | refine Fine.drewN ?_ _ | refine Fine.trans ?_ (by assumption) | (refine Fine.kept ?_ (by assumption) (by intro x hx; first | omega | (simp; omega))) | (refine Fine.setCell ?_ (by first | assumption | (simp; done) | (simp; omega)) _)))⟩
theorem refOn_any (a n : Int) (ha : 0 ≤ a ∧ a < 4294967296) (w : World) :
    Calls Try.prog 31 #[.int .u32 a, .int .i64 n] w fun e w' => e = .returned (.int .u32 (onN a n)) ∧ Fine w w' := by
  obtain ⟨m, hm⟩ : ∃ m, n.tmod 4294967296 = m := ⟨_, rfl⟩
  have hb : -4294967296 < m ∧ m < 4294967296 := by
    subst hm
    have h1 := Int.tmod_lt_of_pos n (b := 4294967296) (by omega)
    have h2 := Int.lt_tmod_of_pos n (b := 4294967296) (by omega)
    omega
  have hc : (a + m) % 4294967296 = onN a n := by
    have h := Int.tmod_add_mul_tdiv n 4294967296
    rw [hm] at h
    unfold onN; omega
  have HC := Lib.hid hc; clear hc
  by_cases h : m < 0
  · go_enter Try.func31, Try.ntmps31
    go_wp2_with fail
    go_ret
    refine ⟨?_, (by repeat (first | exact Fine.refl _ | assumption | refine Fine.alloc ?_ _ | refine Fine.drew ?_ | refine Fine.drewN ?_ _ | refine Fine.trans ?_ (by assumption) | (refine Fine.kept ?_ (by assumption) (by intro x hx; first | omega | (simp; omega))) | (refine Fine.setCell ?_ (by first | assumption | (simp; done) | (simp; omega)) _)))⟩
    have e0 : (a + (m + 4294967296)) % 4294967296 = onN a n := by have := HC.out; omega
    rw [← e0]; rfl
  · go_enter Try.func31, Try.ntmps31
    go_wp2_with fail
    go_ret
    refine ⟨?_, (by repeat (first | exact Fine.refl _ | assumption | refine Fine.alloc ?_ _ | refine Fine.drew ?_ | refine Fine.drewN ?_ _ | refine Fine.trans ?_ (by assumption) | (refine Fine.kept ?_ (by assumption) (by intro x hx; first | omega | (simp; omega))) | (refine Fine.setCell ?_ (by first | assumption | (simp; done) | (simp; omega)) _)))⟩
    rw [← HC.out]; rfl
end Go.Proofs.Ytjldgialhgfhmaa
