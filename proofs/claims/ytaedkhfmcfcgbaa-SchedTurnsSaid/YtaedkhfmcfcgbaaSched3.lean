/- Contracts: the comparison of lists, and what picks one. -/
import Derived.Test.YtaedkhfmcfcgbaaSched2
namespace Go.Proofs.Ytaedkhfmcfcgbaa
open Go.ChangeShapes Go.WideShapes Go.ChangeAt Go.RowKit
set_option linter.unusedVariables false

theorem ints_any (A B : Option Addr) (c d : Nat) (xs ys : List Int) (w : World) (hx : RS LI w A c xs) (hy : RS LI w B d ys) :
    Calls Try.prog 8 #[.slice A xs.length c, .slice B ys.length d] w fun e w' => e = .returned (.bool (decide (xs = ys))) ∧ Fine w w' := by
  have hx1 := hx.le
  have hx2 := hx.max
  have hy1 := hy.le
  have hy2 := hy.max
  unfold maxLen at hx2 hy2
  by_cases hl : xs.length = ys.length
  · have hlb : ((xs.length : Int) != (ys.length : Int)) = false := by simp [hl]
    have hle : xs.length ≤ ys.length ∧ ys.length ≤ xs.length := by omega
    have HL := Lib.hid hl; clear hl
    go_enter Try.func8, Try.ntmps8
    go_wp2_with fail
    go_loopw [5] (fun i wr => ∃ k : Nat, k ≤ xs.length ∧ i = .int .i64 k ∧ xs.take k = ys.take k ∧ Fine w wr) (fun i _ => xs.length - (intOf i).toNat)
    case atStart => exact ⟨0, Nat.zero_le _, rfl, by simp, (by repeat (first | exact Fine.refl _ | assumption | refine Fine.alloc ?_ _ | refine Fine.drew ?_ | refine Fine.drewN ?_ _ | refine Fine.trans ?_ (by assumption) | (refine Fine.kept ?_ (by assumption) (by intro x hx; first | omega | (simp; omega))) | (refine Fine.setCell ?_ (by first | assumption | (simp; omega)) _)))⟩
    case round =>
      obtain ⟨k, hk, rfl, ht0, hf⟩ := hrel
      have HT := Lib.hid ht0; clear ht0
      by_cases hlt : k < xs.length
      · obtain ⟨b1, o1, rfl, hb1, hc1⟩ := (hx.fine hf).atI hlt
        obtain ⟨b2, o2, rfl, hb2, hc2⟩ := (hy.fine hf).atI (i := k) (by omega)
        obtain ⟨z1, hz1⟩ : ∃ z, xs.getD k 0 = z := ⟨_, rfl⟩
        obtain ⟨z2, hz2⟩ : ∃ z, ys.getD k 0 = z := ⟨_, rfl⟩
        rw [hz1] at hc1
        rw [hz2] at hc2
        have HZ1 := Lib.hid hz1; clear hz1
        have HZ2 := Lib.hid hz2; clear hz2
        have hlt2 : k < ys.length := by omega
        by_cases hz : z1 = z2
        · have hzb : (z1 != z2) = false := by simp [hz]
          have HZ := Lib.hid hz; clear hz
          go_wp2
          go_region
          go_wp2
          go_roundw
          case rel => exact ⟨k + 1, by omega, by go_num, by
            show _ = _
            rw [List.take_succ_eq_append_getElem hlt, List.take_succ_eq_append_getElem hlt2, HT.out]
            have e1 := HZ1.out
            have e2 := HZ2.out
            simp [List.getD, hlt, hlt2] at e1 e2
            rw [e1, e2, HZ.out], (by repeat (first | exact Fine.refl _ | assumption | refine Fine.alloc ?_ _ | refine Fine.drew ?_ | refine Fine.drewN ?_ _ | refine Fine.trans ?_ (by assumption) | (refine Fine.kept ?_ (by assumption) (by intro x hx; first | omega | (simp; omega))) | (refine Fine.setCell ?_ (by first | assumption | (simp; omega)) _)))⟩
          case measure => simp [intOf]; omega
        · have hzb : (z1 != z2) = true := by simp [hz]
          have HZ := Lib.hid hz; clear hz
          go_wp2
          go_region
          go_wp2
          go_ret
          refine ⟨ret_bool ?_, (by repeat (first | exact Fine.refl _ | assumption | refine Fine.alloc ?_ _ | refine Fine.drew ?_ | refine Fine.drewN ?_ _ | refine Fine.trans ?_ (by assumption) | (refine Fine.kept ?_ (by assumption) (by intro x hx; first | omega | (simp; omega))) | (refine Fine.setCell ?_ (by first | assumption | (simp; omega)) _)))⟩
          symm
          simp
          rintro rfl
          exact HZ.out (HZ1.out.symm.trans HZ2.out)
      · have e : k = xs.length := by omega
        have hT := HT.out
        rw [e, List.take_length, List.take_of_length_le hle.2] at hT
        have HE := Lib.hid hT; clear hT e
        go_wp2
        go_ret
        exact ⟨ret_bool (by simp [HE.out]), (by repeat (first | exact Fine.refl _ | assumption | refine Fine.alloc ?_ _ | refine Fine.drew ?_ | refine Fine.drewN ?_ _ | refine Fine.trans ?_ (by assumption) | (refine Fine.kept ?_ (by assumption) (by intro x hx; first | omega | (simp; omega))) | (refine Fine.setCell ?_ (by first | assumption | (simp; omega)) _)))⟩
  · have hlb : ((xs.length : Int) != (ys.length : Int)) = true := by simp; omega
    have HL := Lib.hid hl; clear hl
    go_enter Try.func8, Try.ntmps8
    go_wp2_with fail
    go_ret
    exact ⟨ret_bool (by symm; simp; rintro rfl; exact HL.out rfl), (by repeat (first | exact Fine.refl _ | assumption | refine Fine.alloc ?_ _ | refine Fine.drew ?_ | refine Fine.drewN ?_ _ | refine Fine.trans ?_ (by assumption) | (refine Fine.kept ?_ (by assumption) (by intro x hx; first | omega | (simp; omega))) | (refine Fine.setCell ?_ (by first | assumption | (simp; omega)) _)))⟩

/-- The closure of quick: a path's smoothed time. -/
theorem smooth_any (g : Nat) (A : Option Addr) (c : Nat) (ps : List Pth) (k : Nat) (hk : k < ps.length) (w : World) (hg : Blk w g 22 #[.slice A ps.length c]) (h : RS layP w A c ps) :
    Calls Try.prog 21 #[.int .i64 k, .pointer (some ⟨g, 0, none⟩)] w fun e w' => e = .returned (.int .i64 (smAt ps k)) ∧ Fine w w' := by
  obtain ⟨b, off, rfl, hb⟩ := h.blockP (by omega)
  obtain ⟨r, bk, s, l, hp, c0, c1, c2, c3⟩ := h.cellsP hk
  have hs : Hid (smAt ps k = s) := by show smAt ps k = s; unfold smAt; rw [Int.toNat_natCast, hp]
  clear hp
  have cg : w.cell? ⟨g, 0, none⟩ = some (.slice (some ⟨b, off, none⟩) ps.length c) := hg.cell 0
  have HG := Lib.hid hg; clear hg
  have hm := h.max
  have hle := h.le
  unfold maxLen at hm
  go_enter Try.func21, Try.ntmps21
  go_wp2_with fail
  go_ret
  exact ⟨ret_int hs.out.symm, (by repeat (first | exact Fine.refl _ | assumption | refine Fine.alloc ?_ _ | refine Fine.drew ?_ | refine Fine.drewN ?_ _ | refine Fine.trans ?_ (by assumption) | (refine Fine.kept ?_ (by assumption) (by intro x hx; first | omega | (simp; omega))) | (refine Fine.setCell ?_ (by first | assumption | (simp; omega)) _)))⟩

/-- Places of paths. -/
def InB (n : Nat) (xs : List Int) : Prop := ∀ x ∈ xs, ∃ i : Nat, x = (i : Int) ∧ i < n
theorem InB.at_ {n : Nat} {xs : List Int} (h : InB n xs) {k : Nat} (hk : k < xs.length) : ∃ i : Nat, xs.getD k 0 = (i : Int) ∧ i < n := h _ (getD_mem xs k hk)
theorem least_in {n : Nat} {xs : List Int} (h : InB n xs) (f : Int → Int) (k : Nat) (hk : 1 ≤ k) (hl : k ≤ xs.length) : ∃ i : Nat, least f xs k = (i : Int) ∧ i < n := by
  obtain ⟨b, ⟨h1, _, _⟩, e⟩ := least_first f xs k hk hl
  rw [e]
  exact h.at_ (by omega)
theorem ables_in (ps : List Pth) (k : Nat) (hk : k ≤ ps.length) : InB ps.length (ables ps k) := fun x hx => by
  obtain ⟨i, hi, e, _⟩ := ables_mem hx
  exact ⟨i, e, by omega⟩

theorem least_any (g : Nat) (A B : Option Addr) (c d : Nat) (ps : List Pth) (hm : ps.length ≤ 50) (xs : List Int) (h0 : 0 < xs.length) (hin : InB ps.length xs) (w : World) (hg : Blk w g 22 #[.slice A ps.length c]) (h : RS layP w A c ps) (hx : RS LI w B d xs) :
    Calls Try.prog 20 #[.slice B xs.length d, .func (.func 21) #[] #[.pointer (some ⟨g, 0, none⟩)]] w fun e w' => e = .returned (.int .i64 (least (smAt ps) xs xs.length)) ∧ Fine w w' := by
  have hd := hx.max
  have hdl := hx.le
  unfold maxLen at hd
  obtain ⟨B', hrun0, hB, _⟩ := hx.run_behind sliceI 1 (by omega)
  have hrun : ∀ w, (Instr.sliceAt 25 (.slice B xs.length d) (some (.int .i64 1)) none none).run Try.prog w = .ok (.slice B' (xs.length - 1) (d - 1)) w := hrun0
  clear hrun0
  obtain ⟨b, off, rfl, hb, c0⟩ := hx.atI h0
  have hl1 := Lib.hid (least_one (smAt ps) xs)
  obtain ⟨x0, hx0, hx0'⟩ := hin.at_ h0
  rw [hx0, Nat.add_zero] at c0
  have HX0 := Lib.hid hx0; clear hx0
  have HG := Lib.hid hg; clear hg
  go_enter Try.func20, Try.ntmps20
  go_wp2_with fail
  go_loopw [5, 14] (fun best i wr => ∃ k : Nat, k + 1 ≤ xs.length ∧ i = .int .i64 k ∧ (∃ y : Nat, y < ps.length ∧ best = .int .i64 y ∧ least (smAt ps) xs (k + 1) = y) ∧ Fine w wr) (fun _ i _ => xs.length - (intOf i).toNat)
  case atStart => exact ⟨0, by omega, rfl, ⟨x0, hx0', rfl, by rw [hl1.out, HX0.out]⟩, (by repeat (first | exact Fine.refl _ | assumption | refine Fine.alloc ?_ _ | refine Fine.drew ?_ | refine Fine.drewN ?_ _ | refine Fine.trans ?_ (by assumption) | (refine Fine.kept ?_ (by assumption) (by intro x hx; first | omega | (simp; omega))) | (refine Fine.setCell ?_ (by first | assumption | (simp; omega)) _)))⟩
  case round =>
    obtain ⟨k, hk, rfl, ⟨y, hy, rfl, hl0⟩, hf⟩ := hrel
    have hl := Lib.hid hl0; clear hl0
    by_cases hlt : k + 1 < xs.length
    · obtain ⟨x, hxe, hxlt⟩ := hin.at_ hlt
      obtain ⟨b2, o2, rfl, hb2, hc2⟩ := ((hB w hx).fine hf).atI (i := k) (by rw [List.length_drop]; omega)
      have he : (xs.drop 1).getD k 0 = x := by rw [← hxe]; simp [List.getD]
      rw [he] at hc2
      have HX := Lib.hid hxe; clear hxe he
      have hst := Lib.hid (least_succ (smAt ps) xs (k + 1) (by omega) hlt)
      go_wp2_with fail
      refine (smooth_any g A c ps x hxlt _ (HG.out.fine hf) (h.fine hf)).mono ?_; rintro e w1 ⟨rfl, f1⟩
      go_wp2_with fail
      refine (smooth_any g A c ps y hy _ ((HG.out.fine hf).fine f1) ((h.fine hf).fine f1)).mono ?_; rintro e w2 ⟨rfl, f2⟩
      by_cases hc : smAt ps x < smAt ps y
      · have hst2 : Hid (least (smAt ps) xs (k + 1 + 1) = (x : Int)) := by show _ = _; rw [hst.out, HX.out, hl.out, if_pos hc]
        go_wp2_with fail
        go_roundw
        case rel => exact ⟨k + 1, by omega, by go_num, ⟨x, hxlt, rfl, hst2.out⟩, (by repeat (first | exact Fine.refl _ | assumption | refine Fine.alloc ?_ _ | refine Fine.drew ?_ | refine Fine.drewN ?_ _ | refine Fine.trans ?_ (by assumption) | (refine Fine.kept ?_ (by assumption) (by intro x hx; first | omega | (simp; omega))) | (refine Fine.setCell ?_ (by first | assumption | (simp; omega)) _)))⟩
        case measure => simp [intOf]; omega
      · have hst2 : Hid (least (smAt ps) xs (k + 1 + 1) = (y : Int)) := by show _ = _; rw [hst.out, HX.out, hl.out, if_neg hc]
        go_wp2_with fail
        go_roundw
        case rel => exact ⟨k + 1, by omega, by go_num, ⟨y, hy, rfl, hst2.out⟩, (by repeat (first | exact Fine.refl _ | assumption | refine Fine.alloc ?_ _ | refine Fine.drew ?_ | refine Fine.drewN ?_ _ | refine Fine.trans ?_ (by assumption) | (refine Fine.kept ?_ (by assumption) (by intro x hx; first | omega | (simp; omega))) | (refine Fine.setCell ?_ (by first | assumption | (simp; omega)) _)))⟩
        case measure => simp [intOf]; omega
    · have he := Lib.hid (show k + 1 = xs.length by omega)
      go_wp2_with fail
      go_ret
      exact ⟨ret_int (by rw [← he.out, hl.out]), (by repeat (first | exact Fine.refl _ | assumption | refine Fine.alloc ?_ _ | refine Fine.drew ?_ | refine Fine.drewN ?_ _ | refine Fine.trans ?_ (by assumption) | (refine Fine.kept ?_ (by assumption) (by intro x hx; first | omega | (simp; omega))) | (refine Fine.setCell ?_ (by first | assumption | (simp; omega)) _)))⟩
end Go.Proofs.Ytaedkhfmcfcgbaa
