/- Contracts: the document's Pick. -/
import Derived.Test.YtaedkhfmcfcgbaaSched4
namespace Go.Proofs.Ytaedkhfmcfcgbaa
open Go.ChangeShapes Go.WideShapes Go.ChangeAt Go.RowKit
set_option linter.unusedVariables false

set_option maxHeartbeats 1000000 in
theorem refPick0 (last : Int) (A : Option Addr) (c : Nat) (ps : List Pth) (hm : ps.length ≤ 50) (w : World) (h : RS layP w A c ps) (xs : List Int) (hxs : ables ps ps.length = xs) (hal : xs.length ≤ ps.length) (hin : InB ps.length xs) (h0 : 0 < xs.length) :
    Calls Try.prog 12 #[.int .i64 0, .int .i64 last, .slice A ps.length c] w (PickOf [least (smAt ps) xs xs.length] w) := by
  obtain ⟨b, off, rfl, hb⟩ := h.blockP (by omega)
  have hlb : ((xs.length : Int) == 0) = false := by rw [beq_eq_false_iff_ne]; omega
  have HXS := Lib.hid hxs; clear hxs
  obtain ⟨x0, hx0, hx0'⟩ := hin.at_ h0
  have HX0 := Lib.hid hx0; clear hx0
  have hcm := h.max
  have hcl := h.le
  unfold maxLen at hcm
  go_enter Try.func12, Try.ntmps12
  go_wp2_with fail
  refine (refAble_any _ c ps hm _ h).mono ?_; rintro e w1 ⟨A1, c1, rfl, hown, f1⟩
  rw [HXS.out] at hown ⊢
  have hr := hown.rs.1
  obtain ⟨b1, o1, rfl, hb1, a0⟩ := hr.atI h0
  rw [HX0.out, Nat.add_zero] at a0
  have hr1 := hr.max
  have hr2 := hr.le
  unfold maxLen at hr1
  have HR := Lib.hid hr; clear hr hown
  go_wp2_with fail
  go_loopw [8, 9] (fun best i wr => ∃ k : Nat, k ≤ xs.length ∧ i = .int .i64 ((k : Int) - 1) ∧ (∃ y : Nat, y < ps.length ∧ best = .int .i64 y ∧ DownMin (smAt ps) xs k y) ∧ Fine w1 wr) (fun _ i _ => (intOf i + 1).toNat)
  case atStart => exact ⟨xs.length, Nat.le_refl _, rfl, ⟨x0, hx0', rfl, by rw [← HX0.out]; exact DownMin.start _ _ h0⟩, (by repeat (first | exact Fine.refl _ | assumption | refine Fine.alloc ?_ _ | refine Fine.drew ?_ | refine Fine.drewN ?_ _ | refine Fine.trans ?_ (by assumption) | (refine Fine.kept ?_ (by assumption) (by intro x hx; first | omega | (simp; omega))) | (refine Fine.setCell ?_ (by first | assumption | (simp; omega)) _)))⟩
  case round =>
    obtain ⟨k, hk, rfl, ⟨y, hy, rfl, hl0⟩, hf⟩ := hrel
    have hl := Lib.hid hl0; clear hl0
    by_cases hlt : 0 < k
    · obtain ⟨j, rfl⟩ : ∃ j, k = j + 1 := ⟨k - 1, by omega⟩
      have ej : ((j + 1 : Nat) : Int) - 1 = (j : Int) := by omega
      rw [ej]
      clear ej
      obtain ⟨x, hxe, hxlt⟩ := hin.at_ (show j < xs.length by omega)
      obtain ⟨b2, o2, e2, hb2, a2⟩ := (HR.out.fine hf).atI (show j < xs.length by omega)
      injection e2 with e2; injection e2 with e2 e3; subst e2 e3
      rw [hxe] at a2
      have HX := Lib.hid hxe; clear hxe
      obtain ⟨r', bk', s', l', hp0, _, _, p2, _⟩ := ((h.fine f1).fine hf).cellsP hxlt
      obtain ⟨r'', bk'', s'', l'', hp0', _, _, q2, _⟩ := ((h.fine f1).fine hf).cellsP hy
      have hs1 : Hid (smAt ps x = s') := by show smAt ps x = s'; unfold smAt; rw [Int.toNat_natCast, hp0]
      have hs2 : Hid (smAt ps y = s'') := by show smAt ps y = s''; unfold smAt; rw [Int.toNat_natCast, hp0']
      clear hp0 hp0'
      have i1 : (j : Int) < (xs.length : Int) := by omega
      have i2 : (x : Int) < (ps.length : Int) := by omega
      have i3 : (y : Int) < (ps.length : Int) := by omega
      by_cases hc : s' ≤ s''
      · have hcd : decide (s' ≤ s'') = true := by simpa using hc
        have HC := Lib.hid hc; clear hc
        go_wp2_with fail
        go_quiet (fail)
        go_wp2_with fail
        refine ⟨⟨j, by omega, rfl, ⟨x, hxlt, rfl, ?_⟩, (by repeat (first | exact Fine.refl _ | assumption | refine Fine.alloc ?_ _ | refine Fine.drew ?_ | refine Fine.drewN ?_ _ | refine Fine.trans ?_ (by assumption) | (refine Fine.kept ?_ (by assumption) (by intro x hx; first | omega | (simp; omega))) | (refine Fine.setCell ?_ (by first | assumption | (simp; omega)) _)))⟩, by simp [intOf] <;> omega⟩
        rw [← HX.out]
        exact hl.out.yes (by omega) (by rw [HX.out, hs1.out, hs2.out]; exact HC.out)
      · have hcd : decide (s' ≤ s'') = false := by simpa using hc
        have HC := Lib.hid hc; clear hc
        go_wp2_with fail
        go_quiet (fail)
        go_wp2_with fail
        refine ⟨⟨j, by omega, rfl, ⟨y, hy, rfl, ?_⟩, (by repeat (first | exact Fine.refl _ | assumption | refine Fine.alloc ?_ _ | refine Fine.drew ?_ | refine Fine.drewN ?_ _ | refine Fine.trans ?_ (by assumption) | (refine Fine.kept ?_ (by assumption) (by intro x hx; first | omega | (simp; omega))) | (refine Fine.setCell ?_ (by first | assumption | (simp; omega)) _)))⟩, by simp [intOf] <;> omega⟩
        exact hl.out.no (by omega) (by rw [HX.out, hs1.out, hs2.out]; have := HC.out; omega)
    · have he := Lib.hid (show k = 0 by omega)
      have hi0 : (k : Int) - 1 < 0 := by omega
      go_wp2_with fail
      go_ret
      have e : (y : Int) = least (smAt ps) xs xs.length := DownMin.done (by have := hl.out; rwa [he.out] at this)
      rw [← e]
      exact ⟨some ⟨wr.heap.size, 0, none⟩, 1, rfl, RS.litI _ rfl, (by repeat (first | exact Fine.refl _ | assumption | refine Fine.alloc ?_ _ | refine Fine.drew ?_ | refine Fine.drewN ?_ _ | refine Fine.trans ?_ (by assumption) | (refine Fine.kept ?_ (by assumption) (by intro x hx; first | omega | (simp; omega))) | (refine Fine.setCell ?_ (by first | assumption | (simp; omega)) _)))⟩

set_option maxHeartbeats 1000000 in
theorem refPick1 (last : Int) (A : Option Addr) (c : Nat) (ps : List Pth) (hm : ps.length ≤ 50) (w : World) (h : RS layP w A c ps) (xs : List Int) (hxs : ables ps ps.length = xs) (hal : xs.length ≤ ps.length) (hin : InB ps.length xs) (h0 : 0 < xs.length) :
    Calls Try.prog 12 #[.int .i64 1, .int .i64 last, .slice A ps.length c] w (PickOf [turnOf last xs] w) := by
  have hlb : ((xs.length : Int) == 0) = false := by rw [beq_eq_false_iff_ne]; omega
  have HXS := Lib.hid hxs; clear hxs
  obtain ⟨x0, hx0, hx0'⟩ := hin.at_ h0
  have HX0 := Lib.hid hx0; clear hx0
  go_enter Try.func12, Try.ntmps12
  go_wp2_with fail
  refine (refAble_any _ c ps hm _ h).mono ?_; rintro e w1 ⟨A1, c1, rfl, hown, f1⟩
  rw [HXS.out] at hown ⊢
  have hr := hown.rs.1
  obtain ⟨b1, o1, rfl, hb1, a0⟩ := hr.atI h0
  rw [HX0.out, Nat.add_zero] at a0
  have hr1 := hr.max
  have hr2 := hr.le
  unfold maxLen at hr1
  have HR := Lib.hid hr; clear hr hown
  go_wp2_with fail
  go_loopw [8, 9] (fun best i wr => ∃ k : Nat, k ≤ xs.length ∧ i = .int .i64 ((k : Int) - 1) ∧ (∃ y : Nat, y < ps.length ∧ best = .int .i64 y ∧ DownTurn last xs k y) ∧ Fine w1 wr) (fun _ i _ => (intOf i + 1).toNat)
  case atStart => exact ⟨xs.length, Nat.le_refl _, rfl, ⟨x0, hx0', rfl, by rw [← HX0.out]; exact DownTurn.start _ _⟩, (by repeat (first | exact Fine.refl _ | assumption | refine Fine.alloc ?_ _ | refine Fine.drew ?_ | refine Fine.drewN ?_ _ | refine Fine.trans ?_ (by assumption) | (refine Fine.kept ?_ (by assumption) (by intro x hx; first | omega | (simp; omega))) | (refine Fine.setCell ?_ (by first | assumption | (simp; omega)) _)))⟩
  case round =>
    obtain ⟨k, hk, rfl, ⟨y, hy, rfl, hl0⟩, hf⟩ := hrel
    have hl := Lib.hid hl0; clear hl0
    by_cases hlt : 0 < k
    · obtain ⟨j, rfl⟩ : ∃ j, k = j + 1 := ⟨k - 1, by omega⟩
      have ej : ((j + 1 : Nat) : Int) - 1 = (j : Int) := by omega
      rw [ej]
      clear ej
      obtain ⟨x, hxe, hxlt⟩ := hin.at_ (show j < xs.length by omega)
      obtain ⟨b2, o2, e2, hb2, a2⟩ := (HR.out.fine hf).atI (show j < xs.length by omega)
      injection e2 with e2; injection e2 with e2 e3; subst e2 e3
      rw [hxe] at a2
      have HX := Lib.hid hxe; clear hxe
      have i1 : (j : Int) < (xs.length : Int) := by omega
      by_cases hc : last < x
      · go_wp2_with fail
        go_quiet (fail)
        go_wp2_with fail
        refine ⟨⟨j, by omega, rfl, ⟨x, hxlt, rfl, ?_⟩, (by repeat (first | exact Fine.refl _ | assumption | refine Fine.alloc ?_ _ | refine Fine.drew ?_ | refine Fine.drewN ?_ _ | refine Fine.trans ?_ (by assumption) | (refine Fine.kept ?_ (by assumption) (by intro x hx; first | omega | (simp; omega))) | (refine Fine.setCell ?_ (by first | assumption | (simp; omega)) _)))⟩, by simp [intOf] <;> omega⟩
        rw [← HX.out]
        exact hl.out.yes (by omega) (by rw [HX.out]; exact hc)
      · go_wp2_with fail
        go_quiet (fail)
        go_wp2_with fail
        refine ⟨⟨j, by omega, rfl, ⟨y, hy, rfl, ?_⟩, (by repeat (first | exact Fine.refl _ | assumption | refine Fine.alloc ?_ _ | refine Fine.drew ?_ | refine Fine.drewN ?_ _ | refine Fine.trans ?_ (by assumption) | (refine Fine.kept ?_ (by assumption) (by intro x hx; first | omega | (simp; omega))) | (refine Fine.setCell ?_ (by first | assumption | (simp; omega)) _)))⟩, by simp [intOf] <;> omega⟩
        exact hl.out.no (by omega) (by rw [HX.out]; omega)
    · have he := Lib.hid (show k = 0 by omega)
      have hi0 : (k : Int) - 1 < 0 := by omega
      go_wp2_with fail
      go_ret
      have e : (y : Int) = turnOf last xs := DownTurn.done (by have := hl.out; rwa [he.out] at this)
      rw [← e]
      exact ⟨some ⟨wr.heap.size, 0, none⟩, 1, rfl, RS.litI _ rfl, (by repeat (first | exact Fine.refl _ | assumption | refine Fine.alloc ?_ _ | refine Fine.drew ?_ | refine Fine.drewN ?_ _ | refine Fine.trans ?_ (by assumption) | (refine Fine.kept ?_ (by assumption) (by intro x hx; first | omega | (simp; omega))) | (refine Fine.setCell ?_ (by first | assumption | (simp; omega)) _)))⟩

theorem refPick_any (how last : Int) (A : Option Addr) (c : Nat) (ps : List Pth) (hm : ps.length ≤ 50) (w : World) (h : RS layP w A c ps) :
    Calls Try.prog 12 #[.int .i64 how, .int .i64 last, .slice A ps.length c] w (PickOf (picked ps how last) w) := by
  have hal := ables_le ps ps.length
  have hin := ables_in ps ps.length (Nat.le_refl _)
  by_cases hn : ables ps ps.length = [] ∨ how < 0 ∨ 2 < how
  · rw [picked_none hn]
    have hn' : (ables ps ps.length).length = 0 ∨ (0 < (ables ps ps.length).length ∧ how < 0) ∨ (0 < (ables ps ps.length).length ∧ 2 < how) := by
      by_cases a : (ables ps ps.length).length = 0
      · exact .inl a
      · rcases hn with hn | hn | hn
        · rw [hn] at a; exact absurd rfl a
        · exact .inr (.inl ⟨by omega, hn⟩)
        · exact .inr (.inr ⟨by omega, hn⟩)
    clear hn
    rcases hn' with hn | ⟨h0, hn⟩ | ⟨h0, hn⟩
    · have hb : (((ables ps ps.length).length : Int) == 0) = true := by rw [hn]; rfl
      have hn := Lib.hid hn
      go_enter Try.func12, Try.ntmps12
      go_wp2_with fail
      refine (refAble_any A c ps hm _ h).mono ?_; rintro e w1 ⟨A1, c1, rfl, hown, f1⟩
      go_wp2_with fail
      go_ret
      exact ⟨none, 0, rfl, RS.nil_ _ _, (by repeat (first | exact Fine.refl _ | assumption | refine Fine.alloc ?_ _ | refine Fine.drew ?_ | refine Fine.drewN ?_ _ | refine Fine.trans ?_ (by assumption) | (refine Fine.kept ?_ (by assumption) (by intro x hx; first | omega | (simp; omega))) | (refine Fine.setCell ?_ (by first | assumption | (simp; omega)) _)))⟩
    · have hb : (((ables ps ps.length).length : Int) == 0) = false := by rw [beq_eq_false_iff_ne]; omega
      go_enter Try.func12, Try.ntmps12
      go_wp2_with fail
      refine (refAble_any A c ps hm _ h).mono ?_; rintro e w1 ⟨A1, c1, rfl, hown, f1⟩
      go_wp2_with fail
      go_ret
      exact ⟨none, 0, rfl, RS.nil_ _ _, (by repeat (first | exact Fine.refl _ | assumption | refine Fine.alloc ?_ _ | refine Fine.drew ?_ | refine Fine.drewN ?_ _ | refine Fine.trans ?_ (by assumption) | (refine Fine.kept ?_ (by assumption) (by intro x hx; first | omega | (simp; omega))) | (refine Fine.setCell ?_ (by first | assumption | (simp; omega)) _)))⟩
    · have hb : (((ables ps ps.length).length : Int) == 0) = false := by rw [beq_eq_false_iff_ne]; omega
      go_enter Try.func12, Try.ntmps12
      go_wp2_with fail
      refine (refAble_any A c ps hm _ h).mono ?_; rintro e w1 ⟨A1, c1, rfl, hown, f1⟩
      go_wp2_with fail
      go_ret
      exact ⟨none, 0, rfl, RS.nil_ _ _, (by repeat (first | exact Fine.refl _ | assumption | refine Fine.alloc ?_ _ | refine Fine.drew ?_ | refine Fine.drewN ?_ _ | refine Fine.trans ?_ (by assumption) | (refine Fine.kept ?_ (by assumption) (by intro x hx; first | omega | (simp; omega))) | (refine Fine.setCell ?_ (by first | assumption | (simp; omega)) _)))⟩
  · have h3 : ables ps ps.length ≠ [] ∧ 0 ≤ how ∧ how ≤ 2 := ⟨fun e => hn (.inl e), by omega, by omega⟩
    clear hn
    obtain ⟨hne, ha, hb⟩ := h3
    have h0 : 0 < (ables ps ps.length).length := List.length_pos_iff.2 hne
    have hlb : (((ables ps ps.length).length : Int) == 0) = false := by rw [beq_eq_false_iff_ne]; omega
    have hcs : how = 0 ∨ how = 1 ∨ how = 2 := by omega
    rcases hcs with rfl | rfl | rfl
    · rw [picked_quick hne]
      exact refPick0 last A c ps hm w h _ rfl hal hin h0
    · rw [picked_turn hne]
      exact refPick1 last A c ps hm w h _ rfl hal hin h0
    · rw [picked_all]
      generalize hxs : ables ps ps.length = xs at hal hin h0 hlb
      have HXS := Lib.hid hxs; clear hxs hne
      go_enter Try.func12, Try.ntmps12
      go_wp2_with fail
      refine (refAble_any A c ps hm _ h).mono ?_; rintro e w1 ⟨A1, c1, rfl, hown, f1⟩
      rw [HXS.out] at hown ⊢
      have HO := Lib.hid hown; clear hown
      go_wp2_with fail
      go_ret
      exact ⟨A1, c1, rfl, HO.out.rs.1, (by repeat (first | exact Fine.refl _ | assumption | refine Fine.alloc ?_ _ | refine Fine.drew ?_ | refine Fine.drewN ?_ _ | refine Fine.trans ?_ (by assumption) | (refine Fine.kept ?_ (by assumption) (by intro x hx; first | omega | (simp; omega))) | (refine Fine.setCell ?_ (by first | assumption | (simp; omega)) _)))⟩
end Go.Proofs.Ytaedkhfmcfcgbaa
