/- Contracts of package path's methods: Tell, Untell, Told, Gone, Own, Other. -/
import Derived.Test.YtbgdcpecpcmjdaaPath1
namespace Go.Proofs.Ytbgdcpecpcmjdaa
open Go.ChangeShapes Go.WideShapes Go.ChangeAt Go.RowKit
set_option linter.unusedVariables false

theorem set_same {L : List Bool} {i : Nat} {v : Bool} (hi : i < L.length) (h : L.getD i false = v) : L.set i v = L := by
  subst h
  apply List.ext_getElem?
  intro j
  rw [List.getElem?_set]
  split
  · rename_i e; subst e; simp [List.getD, hi]
  · rfl

theorem tell_any (g : Nat) (L : List Bool) (m a : Int) (w : World) (h : PMB w g L m) :
    Calls Try.prog 9 #[.pointer (some ⟨g, 0, none⟩), .int .i64 a] w fun e w' => e = .returned (.int .i64 (tellC L a)) ∧ PMB w' g (tellL L a) m ∧ Kept (· = g) w w' := by
  have hlt := h.lt
  cases hm : mayI a
  · have HC : Hid (tellC L a = 1 ∧ tellL L a = L) := by constructor <;> simp [tellC, tellL, hm]
    have HM := Lib.hid hm; clear hm
    have H := Lib.hid h; clear h
    go_enter Try.func9, Try.ntmps9
    go_wp2_with fail
    refine (may1 _ _ _ rfl).mono ?_; rintro e w1 ⟨rfl, f1⟩
    rw [HM.out]
    go_wp2_with fail
    go_ret
    have f : Fine w w1 := (by repeat (first | exact Fine.refl _ | assumption | refine Fine.alloc ?_ _ | refine Fine.drew ?_ | refine Fine.drewN ?_ _ | refine Fine.trans ?_ (by assumption) | (refine Fine.kept ?_ (by assumption) (by intro x hx; first | omega | (simp; omega))) | (refine Fine.setCell ?_ (by first | assumption | (simp; omega)) _)))
    exact ⟨ret_int HC.out.1.symm, by rw [HC.out.2]; exact H.out.fine f, Kept.of_fine f⟩
  · have HM := Lib.hid hm
    obtain ⟨n, rfl, hn⟩ := mayI_nat hm
    have c0 := h.cell (i := n) (by omega)
    cases ho : L.getD n false
    · have HC : Hid (tellC L n = 0 ∧ tellL L n = L.set n true) := ⟨by simp only [tellC, hm, ownB, Int.toNat_natCast, ho]; rfl, by simp only [tellL, hm, if_true, Int.toNat_natCast]⟩
      clear hm
      rw [ho] at c0
      have H := Lib.hid h; clear h ho
      go_enter Try.func9, Try.ntmps9
      go_wp2_with fail
      refine (may1 _ _ _ rfl).mono ?_; rintro e w1 ⟨rfl, f1⟩
      rw [HM.out]
      have f : Fine w w1 := (by repeat (first | exact Fine.refl _ | assumption | refine Fine.alloc ?_ _ | refine Fine.drew ?_ | refine Fine.drewN ?_ _ | refine Fine.trans ?_ (by assumption) | (refine Fine.kept ?_ (by assumption) (by intro x hx; first | omega | (simp; omega))) | (refine Fine.setCell ?_ (by first | assumption | (simp; omega)) _)))
      have h1 := H.out.fine f
      have d0 : w1.cell? ⟨g, n, none⟩ = some (.bool false) := (f.cell (p := ⟨g, n, none⟩) hlt).trans c0
      have fr := h1.frozen n
      have H1 := Lib.hid h1; clear h1
      go_wp2_with fail
      go_ret
      exact ⟨ret_int HC.out.1.symm, by rw [HC.out.2]; exact H1.out.set_ (by omega) true, (Kept.of_fine f).trans (by repeat (first | exact Kept.refl _ _ | assumption | (refine Kept.setIn ?_ (by simp) _) | refine Kept.alloc ?_ _ | refine Kept.drew ?_ | refine Kept.drewN ?_ _ | refine Kept.trans ?_ (by assumption) | refine Kept.trans ?_ (Kept.of_fine (by assumption))))⟩
    · have HC : Hid (tellC L n = 8 ∧ tellL L n = L) := ⟨by simp only [tellC, hm, ownB, Int.toNat_natCast, ho]; rfl, by simp only [tellL, hm, if_true, Int.toNat_natCast]; exact set_same (by rw [h.len]; omega) ho⟩
      clear hm
      rw [ho] at c0
      have H := Lib.hid h; clear h ho
      go_enter Try.func9, Try.ntmps9
      go_wp2_with fail
      refine (may1 _ _ _ rfl).mono ?_; rintro e w1 ⟨rfl, f1⟩
      rw [HM.out]
      have f : Fine w w1 := (by repeat (first | exact Fine.refl _ | assumption | refine Fine.alloc ?_ _ | refine Fine.drew ?_ | refine Fine.drewN ?_ _ | refine Fine.trans ?_ (by assumption) | (refine Fine.kept ?_ (by assumption) (by intro x hx; first | omega | (simp; omega))) | (refine Fine.setCell ?_ (by first | assumption | (simp; omega)) _)))
      have d0 : w1.cell? ⟨g, n, none⟩ = some (.bool true) := (f.cell (p := ⟨g, n, none⟩) hlt).trans c0
      go_wp2_with fail
      go_ret
      exact ⟨ret_int HC.out.1.symm, by rw [HC.out.2]; exact H.out.fine f, Kept.of_fine f⟩
theorem untell_any (g : Nat) (L : List Bool) (m a : Int) (w : World) (h : PMB w g L m) :
    Calls Try.prog 19 #[.pointer (some ⟨g, 0, none⟩), .int .i64 a] w fun e w' => e = .returned (.int .i64 (untellC L a)) ∧ PMB w' g (untellL L a) m ∧ Kept (· = g) w w' := by
  have hlt := h.lt
  cases hm : mayI a
  · have HC : Hid (untellC L a = 1 ∧ untellL L a = L) := by constructor <;> simp [untellC, untellL, hm]
    have HM := Lib.hid hm; clear hm
    have H := Lib.hid h; clear h
    go_enter Try.func19, Try.ntmps19
    go_wp2_with fail
    refine (may1 _ _ _ rfl).mono ?_; rintro e w1 ⟨rfl, f1⟩
    rw [HM.out]
    go_wp2_with fail
    go_ret
    have f : Fine w w1 := (by repeat (first | exact Fine.refl _ | assumption | refine Fine.alloc ?_ _ | refine Fine.drew ?_ | refine Fine.drewN ?_ _ | refine Fine.trans ?_ (by assumption) | (refine Fine.kept ?_ (by assumption) (by intro x hx; first | omega | (simp; omega))) | (refine Fine.setCell ?_ (by first | assumption | (simp; omega)) _)))
    exact ⟨ret_int HC.out.1.symm, by rw [HC.out.2]; exact H.out.fine f, Kept.of_fine f⟩
  · have HM := Lib.hid hm
    obtain ⟨n, rfl, hn⟩ := mayI_nat hm
    have c0 := h.cell (i := n) (by omega)
    cases ho : L.getD n false
    · have HC : Hid (untellC L n = 6 ∧ untellL L n = L) := ⟨by simp only [untellC, hm, ownB, Int.toNat_natCast, ho]; rfl, by simp only [untellL, hm, if_true, Int.toNat_natCast]; exact set_same (by rw [h.len]; omega) ho⟩
      clear hm
      rw [ho] at c0
      have H := Lib.hid h; clear h ho
      go_enter Try.func19, Try.ntmps19
      go_wp2_with fail
      refine (may1 _ _ _ rfl).mono ?_; rintro e w1 ⟨rfl, f1⟩
      rw [HM.out]
      have f : Fine w w1 := (by repeat (first | exact Fine.refl _ | assumption | refine Fine.alloc ?_ _ | refine Fine.drew ?_ | refine Fine.drewN ?_ _ | refine Fine.trans ?_ (by assumption) | (refine Fine.kept ?_ (by assumption) (by intro x hx; first | omega | (simp; omega))) | (refine Fine.setCell ?_ (by first | assumption | (simp; omega)) _)))
      have d0 : w1.cell? ⟨g, n, none⟩ = some (.bool false) := (f.cell (p := ⟨g, n, none⟩) hlt).trans c0
      go_wp2_with fail
      go_ret
      exact ⟨ret_int HC.out.1.symm, by rw [HC.out.2]; exact H.out.fine f, Kept.of_fine f⟩
    · have HC : Hid (untellC L n = 0 ∧ untellL L n = L.set n false) := ⟨by simp only [untellC, hm, ownB, Int.toNat_natCast, ho]; rfl, by simp only [untellL, hm, if_true, Int.toNat_natCast]⟩
      clear hm
      rw [ho] at c0
      have H := Lib.hid h; clear h ho
      go_enter Try.func19, Try.ntmps19
      go_wp2_with fail
      refine (may1 _ _ _ rfl).mono ?_; rintro e w1 ⟨rfl, f1⟩
      rw [HM.out]
      have f : Fine w w1 := (by repeat (first | exact Fine.refl _ | assumption | refine Fine.alloc ?_ _ | refine Fine.drew ?_ | refine Fine.drewN ?_ _ | refine Fine.trans ?_ (by assumption) | (refine Fine.kept ?_ (by assumption) (by intro x hx; first | omega | (simp; omega))) | (refine Fine.setCell ?_ (by first | assumption | (simp; omega)) _)))
      have h1 := H.out.fine f
      have d0 : w1.cell? ⟨g, n, none⟩ = some (.bool true) := (f.cell (p := ⟨g, n, none⟩) hlt).trans c0
      have fr := h1.frozen n
      have H1 := Lib.hid h1; clear h1
      go_wp2_with fail
      go_ret
      exact ⟨ret_int HC.out.1.symm, by rw [HC.out.2]; exact H1.out.set_ (by omega) false, (Kept.of_fine f).trans (by repeat (first | exact Kept.refl _ _ | assumption | (refine Kept.setIn ?_ (by simp) _) | refine Kept.alloc ?_ _ | refine Kept.drew ?_ | refine Kept.drewN ?_ _ | refine Kept.trans ?_ (by assumption) | refine Kept.trans ?_ (Kept.of_fine (by assumption))))⟩
theorem told_any (g : Nat) (L : List Bool) (m b : Int) (w : World) (h : PMB w g L m) :
    Calls Try.prog 10 #[.pointer (some ⟨g, 0, none⟩), .int .i64 b] w fun e w' => e = .returned (.tuple #[]) ∧ PMB w' g (toldL L b) m ∧ Kept (· = g) w w' := by
  have hlt := h.lt
  cases hm : mayI b
  · have HC : Hid (toldL L b = L) := by show toldL L b = L; simp [toldL, hm]
    have HM := Lib.hid hm; clear hm
    have H := Lib.hid h; clear h
    go_enter Try.func10, Try.ntmps10
    go_wp2_with fail
    refine (may1 _ _ _ rfl).mono ?_; rintro e w1 ⟨rfl, f1⟩
    rw [HM.out]
    go_wp2_with fail
    go_end0
    have f : Fine w w1 := (by repeat (first | exact Fine.refl _ | assumption | refine Fine.alloc ?_ _ | refine Fine.drew ?_ | refine Fine.drewN ?_ _ | refine Fine.trans ?_ (by assumption) | (refine Fine.kept ?_ (by assumption) (by intro x hx; first | omega | (simp; omega))) | (refine Fine.setCell ?_ (by first | assumption | (simp; omega)) _)))
    exact ⟨rfl, by rw [HC.out]; exact H.out.fine f, Kept.of_fine f⟩
  · have HM := Lib.hid hm
    obtain ⟨n, rfl, hn⟩ := mayI_nat hm
    have c0 := h.cell (i := 4 + n) (by omega)
    have HC : Hid (toldL L n = L.set (4 + n) true) := by show toldL L n = _; simp [toldL, hm]
    clear hm
    obtain ⟨v, hv⟩ : ∃ v, L.getD (4 + n) false = v := ⟨_, rfl⟩
    rw [hv] at c0
    clear hv
    have H := Lib.hid h; clear h
    go_enter Try.func10, Try.ntmps10
    go_wp2_with fail
    refine (may1 _ _ _ rfl).mono ?_; rintro e w1 ⟨rfl, f1⟩
    rw [HM.out]
    have f : Fine w w1 := (by repeat (first | exact Fine.refl _ | assumption | refine Fine.alloc ?_ _ | refine Fine.drew ?_ | refine Fine.drewN ?_ _ | refine Fine.trans ?_ (by assumption) | (refine Fine.kept ?_ (by assumption) (by intro x hx; first | omega | (simp; omega))) | (refine Fine.setCell ?_ (by first | assumption | (simp; omega)) _)))
    have h1 := H.out.fine f
    have d0 : w1.cell? ⟨g, 4 + n, none⟩ = some (.bool v) := (f.cell (p := ⟨g, 4 + n, none⟩) hlt).trans c0
    have fr := h1.frozen (4 + n)
    have H1 := Lib.hid h1; clear h1
    go_wp2_with fail
    go_end0
    exact ⟨rfl, by rw [HC.out]; exact H1.out.set_ (by omega) true, (Kept.of_fine f).trans (by repeat (first | exact Kept.refl _ _ | assumption | (refine Kept.setIn ?_ (by simp) _) | refine Kept.alloc ?_ _ | refine Kept.drew ?_ | refine Kept.drewN ?_ _ | refine Kept.trans ?_ (by assumption) | refine Kept.trans ?_ (Kept.of_fine (by assumption))))⟩
theorem gone_any (g : Nat) (L : List Bool) (m a b : Int) (w : World) (h : PMB w g L m) :
    Calls Try.prog 16 #[.pointer (some ⟨g, 0, none⟩), .int .i64 a, .int .i64 b] w fun e w' => e = .returned (.bool (goneB L a b)) ∧ PMB w' g (goneL L a b) m ∧ Kept (· = g) w w' := by
  have hlt := h.lt
  cases hm : mayI a && mayI b
  · have HC : Hid (goneB L a b = false ∧ goneL L a b = L) := by constructor <;> simp [goneB, goneL, hm]
    have HM := Lib.hid hm; clear hm
    have H := Lib.hid h; clear h
    go_enter Try.func16, Try.ntmps16
    go_wp2_with fail
    refine (may2 _ _ _ _ rfl).mono ?_; rintro e w1 ⟨rfl, f1⟩
    rw [HM.out]
    go_wp2_with fail
    go_ret
    have f : Fine w w1 := (by repeat (first | exact Fine.refl _ | assumption | refine Fine.alloc ?_ _ | refine Fine.drew ?_ | refine Fine.drewN ?_ _ | refine Fine.trans ?_ (by assumption) | (refine Fine.kept ?_ (by assumption) (by intro x hx; first | omega | (simp; omega))) | (refine Fine.setCell ?_ (by first | assumption | (simp; omega)) _)))
    exact ⟨ret_bool HC.out.1.symm, by rw [HC.out.2]; exact H.out.fine f, Kept.of_fine f⟩
  · have HM := Lib.hid hm
    obtain ⟨n, rfl, hn⟩ := mayI_nat (by cases hx : mayI a <;> simp [hx] at hm ⊢)
    obtain ⟨k, rfl, hk⟩ := mayI_nat (a := b) (by cases hx : mayI b <;> simp [hx] at hm ⊢)
    have c0 := h.cell (i := 8 + n * 4 + k) (by omega)
    cases ho : L.getD (8 + n * 4 + k) false
    · have HC : Hid (goneB L n k = false ∧ goneL L n k = L) := by
        constructor
        · simp only [goneB, hm, flowB, Int.toNat_natCast, ho]; rfl
        · simp only [goneL, hm, if_true, Int.toNat_natCast]; exact set_same (by rw [h.len]; omega) ho
      clear hm
      rw [ho] at c0
      have H := Lib.hid h; clear h ho
      go_enter Try.func16, Try.ntmps16
      go_wp2_with fail
      refine (may2 _ _ _ _ rfl).mono ?_; rintro e w1 ⟨rfl, f1⟩
      rw [HM.out]
      have f : Fine w w1 := (by repeat (first | exact Fine.refl _ | assumption | refine Fine.alloc ?_ _ | refine Fine.drew ?_ | refine Fine.drewN ?_ _ | refine Fine.trans ?_ (by assumption) | (refine Fine.kept ?_ (by assumption) (by intro x hx; first | omega | (simp; omega))) | (refine Fine.setCell ?_ (by first | assumption | (simp; omega)) _)))
      have d0 : w1.cell? ⟨g, 8 + n * 4 + k, none⟩ = some (.bool false) := (f.cell (p := ⟨g, _, none⟩) hlt).trans c0
      go_wp2_with fail
      go_ret
      exact ⟨ret_bool HC.out.1.symm, by rw [HC.out.2]; exact H.out.fine f, Kept.of_fine f⟩
    · have HC : Hid (goneB L n k = true ∧ goneL L n k = L.set (8 + n * 4 + k) false) := by
        constructor
        · simp only [goneB, hm, flowB, Int.toNat_natCast, ho, Bool.and_true]
        · simp only [goneL, hm, if_true, Int.toNat_natCast]
      clear hm
      rw [ho] at c0
      have H := Lib.hid h; clear h ho
      go_enter Try.func16, Try.ntmps16
      go_wp2_with fail
      refine (may2 _ _ _ _ rfl).mono ?_; rintro e w1 ⟨rfl, f1⟩
      rw [HM.out]
      have f : Fine w w1 := (by repeat (first | exact Fine.refl _ | assumption | refine Fine.alloc ?_ _ | refine Fine.drew ?_ | refine Fine.drewN ?_ _ | refine Fine.trans ?_ (by assumption) | (refine Fine.kept ?_ (by assumption) (by intro x hx; first | omega | (simp; omega))) | (refine Fine.setCell ?_ (by first | assumption | (simp; omega)) _)))
      have h1 := H.out.fine f
      have d0 : w1.cell? ⟨g, 8 + n * 4 + k, none⟩ = some (.bool true) := (f.cell (p := ⟨g, _, none⟩) hlt).trans c0
      have fr := h1.frozen (8 + n * 4 + k)
      have H1 := Lib.hid h1; clear h1
      go_wp2_with fail
      go_ret
      exact ⟨ret_bool HC.out.1.symm, by rw [HC.out.2]; exact H1.out.set_ (by omega) false, (Kept.of_fine f).trans (by repeat (first | exact Kept.refl _ _ | assumption | (refine Kept.setIn ?_ (by simp) _) | refine Kept.alloc ?_ _ | refine Kept.drew ?_ | refine Kept.drewN ?_ _ | refine Kept.trans ?_ (by assumption) | refine Kept.trans ?_ (Kept.of_fine (by assumption))))⟩
theorem own_any (g : Nat) (L : List Bool) (m : Int) (w : World) (h : PMB w g L m) :
    Calls Try.prog 14 #[.pointer (some ⟨g, 0, none⟩)] w (AddrOf (addrs (ownB L) 4) w) := by
  have c0 := h.cell (i := 0) (by omega)
  have c1 := h.cell (i := 1) (by omega)
  have c2 := h.cell (i := 2) (by omega)
  have c3 := h.cell (i := 3) (by omega)
  have hl := list_any (ownB L) _ _ _ _ rfl rfl rfl rfl
  unfold ownB at hl
  have HL := Lib.hid hl; clear hl h
  go_enter Try.func14, Try.ntmps14
  go_wp2_with fail
  refine (HL.out w).mono ?_; rintro e w1 ⟨A, c, rfl, ho, f⟩
  have HO := Lib.hid ho; clear ho
  go_wp2_with fail
  go_ret
  exact ⟨A, c, rfl, HO.out, f⟩
theorem other_any (g : Nat) (L : List Bool) (m : Int) (w : World) (h : PMB w g L m) :
    Calls Try.prog 15 #[.pointer (some ⟨g, 0, none⟩)] w (AddrOf (addrs (othB L) 4) w) := by
  have c0 := h.cell (i := 4) (by omega)
  have c1 := h.cell (i := 5) (by omega)
  have c2 := h.cell (i := 6) (by omega)
  have c3 := h.cell (i := 7) (by omega)
  have hl := list_any (othB L) _ _ _ _ rfl rfl rfl rfl
  have HL := Lib.hid hl; clear hl h
  go_enter Try.func15, Try.ntmps15
  go_wp2_with fail
  refine (HL.out w).mono ?_; rintro e w1 ⟨A, c, rfl, ho, f⟩
  have HO := Lib.hid ho; clear ho
  go_wp2_with fail
  go_ret
  exact ⟨A, c, rfl, HO.out, f⟩
end Go.Proofs.Ytbgdcpecpcmjdaa
