/- segment.Same. -/
import Derived.Test.YthnennleblgjeaaDoorXSeg2
import Derived.Test.YthnennleblgjeaaDoorXSeg3
namespace Go.Proofs.YthnennleblgjeaaDoor
set_option linter.unusedVariables false
set_option linter.unusedSimpArgs false
open Go.ChangeShapes Go.WideShapes Go.ChangeAt Go.RowKit
set_option linter.unusedVariables false
theorem same_bad (N M : Nat → Int) (A B A' B' : Option Addr) (n1 n2 n3 n4 c d c' d' : Nat) (w : World) (h : sameN N M = false) : Calls Tryd.prog 18 #[.agg (segL N (.slice A n1 c) (.slice B n3 d)).toArray, .agg (segL M (.slice A' n2 c') (.slice B' n4 d')).toArray] w fun r w' => r = .returned (.bool false) ∧ Fine w w' := by
  by_cases e0 : (N 0 == M 0) = true
  · revert h; intro h
    by_cases e1 : (N 1 == M 1) = true
    · revert h; intro h
      by_cases e2 : (N 2 == M 2) = true
      · revert h; intro h
        by_cases e3 : (N 3 == M 3) = true
        · revert h; intro h
          by_cases e4 : (N 4 == M 4) = true
          · revert h; intro h
            by_cases e5 : (N 5 == M 5) = true
            · revert h; intro h
              by_cases e6 : (decide (N 6 = 1) == decide (M 6 = 1)) = true
              · revert h; intro h
                by_cases e7 : (decide (N 7 = 1) == decide (M 7 = 1)) = true
                · revert h; intro h
                  by_cases e8 : (decide (N 8 = 1) == decide (M 8 = 1)) = true
                  · revert h; intro h
                    by_cases e9 : (decide (N 9 = 1) == decide (M 9 = 1)) = true
                    · revert h; intro h
                      by_cases e10 : (N 10 == M 10) = true
                      · exact absurd h (by simp [sameN, e0, e1, e2, e3, e4, e5, e6, e7, e8, e9, e10])
                      · exact same_bad10 N M A B A' B' n1 n2 n3 n4 c d c' d' w e0 e1 e2 e3 e4 e5 e6 e7 e8 e9 (Bool.eq_false_iff.mpr e10)
                    · exact same_bad9 N M A B A' B' n1 n2 n3 n4 c d c' d' w e0 e1 e2 e3 e4 e5 e6 e7 e8 (Bool.eq_false_iff.mpr e9)
                  · exact same_bad8 N M A B A' B' n1 n2 n3 n4 c d c' d' w e0 e1 e2 e3 e4 e5 e6 e7 (Bool.eq_false_iff.mpr e8)
                · exact same_bad7 N M A B A' B' n1 n2 n3 n4 c d c' d' w e0 e1 e2 e3 e4 e5 e6 (Bool.eq_false_iff.mpr e7)
              · exact same_bad6 N M A B A' B' n1 n2 n3 n4 c d c' d' w e0 e1 e2 e3 e4 e5 (Bool.eq_false_iff.mpr e6)
            · exact same_bad5 N M A B A' B' n1 n2 n3 n4 c d c' d' w e0 e1 e2 e3 e4 (Bool.eq_false_iff.mpr e5)
          · exact same_bad4 N M A B A' B' n1 n2 n3 n4 c d c' d' w e0 e1 e2 e3 (Bool.eq_false_iff.mpr e4)
        · exact same_bad3 N M A B A' B' n1 n2 n3 n4 c d c' d' w e0 e1 e2 (Bool.eq_false_iff.mpr e3)
      · exact same_bad2 N M A B A' B' n1 n2 n3 n4 c d c' d' w e0 e1 (Bool.eq_false_iff.mpr e2)
    · exact same_bad1 N M A B A' B' n1 n2 n3 n4 c d c' d' w e0 (Bool.eq_false_iff.mpr e1)
  · exact same_bad0 N M A B A' B' n1 n2 n3 n4 c d c' d' w  (Bool.eq_false_iff.mpr e0)
set_option maxHeartbeats 4000000 in
set_option maxRecDepth 100000 in
theorem same_good (N M : Nat → Int) (A B A' B' : Option Addr) (n1 n2 n3 n4 c d c' d' : Nat) (w : World) (l m : List (Nat → Int)) (xs ys : List Int) (hn1 : n1 = l.length) (hn2 : n2 = m.length) (hn3 : n3 = xs.length) (hn4 : n4 = ys.length) (hl : l.length ≤ 100000) (hm : m.length ≤ 100000)
    (h1 : RS layO w A c l) (h2 : RS layO w A' c' m) (h3 : BS w B d xs) (h4 : BS w B' d' ys) (e0 : (N 0 == M 0) = true) (e1 : (N 1 == M 1) = true) (e2 : (N 2 == M 2) = true) (e3 : (N 3 == M 3) = true) (e4 : (N 4 == M 4) = true) (e5 : (N 5 == M 5) = true) (e6 : (decide (N 6 = 1) == decide (M 6 = 1)) = true) (e7 : (decide (N 7 = 1) == decide (M 7 = 1)) = true) (e8 : (decide (N 8 = 1) == decide (M 8 = 1)) = true) (e9 : (decide (N 9 = 1) == decide (M 9 = 1)) = true) (e10 : (N 10 == M 10) = true) :
    Calls Tryd.prog 18 #[.agg (segL N (.slice A n1 c) (.slice B n3 d)).toArray, .agg (segL M (.slice A' n2 c') (.slice B' n4 d')).toArray] w fun r w' => r = .returned (.bool (optsEq l m && decide (xs = ys))) ∧ Fine w w' := by
  have H1 := Lib.hid h1; clear h1
  have H2 := Lib.hid h2; clear h2
  have H3 := Lib.hid h3; clear h3
  have H4 := Lib.hid h4; clear h4
  have HN1 := Lib.hid hn1; clear hn1
  have HN2 := Lib.hid hn2; clear hn2
  have HN3 := Lib.hid hn3; clear hn3
  have HN4 := Lib.hid hn4; clear hn4
  obtain ⟨q, hq⟩ : ∃ q, (optsEq l m && decide (xs = ys)) = q := ⟨_, rfl⟩
  rw [hq]
  have HQ := Lib.hid hq; clear hq
  go_enter Tryd.func18, Tryd.ntmps18
  go_wp2_with fail
  have b1 : Blk ((w.alloc (.cells (segL N (.slice A n1 c) (.slice B n3 d)).toArray 26)).alloc (.cells (segL M (.slice A' n2 c') (.slice B' n4 d')).toArray 26)) w.heap.size 26 (segL N (.slice A n1 c) (.slice B n3 d)).toArray := (Blk.new w 26 _).alloc _
  have b2 : Blk ((w.alloc (.cells (segL N (.slice A n1 c) (.slice B n3 d)).toArray 26)).alloc (.cells (segL M (.slice A' n2 c') (.slice B' n4 d')).toArray 26)) (w.heap.size + 1) 26 (segL M (.slice A' n2 c') (.slice B' n4 d')).toArray := Blk.newAt (by simp)
  have f1 : Fine w ((w.alloc (.cells (segL N (.slice A n1 c) (.slice B n3 d)).toArray 26)).alloc (.cells (segL M (.slice A' n2 c') (.slice B' n4 d')).toArray 26)) := ((Fine.refl w).alloc _).alloc _
  generalize ((w.alloc (.cells (segL N (.slice A n1 c) (.slice B n3 d)).toArray 26)).alloc (.cells (segL M (.slice A' n2 c') (.slice B' n4 d')).toArray 26)) = w1 at b1 b2 f1 ⊢
  generalize w.heap.size = x1 at b1 b2 ⊢
  obtain ⟨x2, hx2⟩ : ∃ x2, x1 + 1 = x2 := ⟨_, rfl⟩
  rw [hx2] at b2 ⊢
  clear hx2
  refine (equal_n A A' n1 n2 c c' l m HN1.out HN2.out hl hm w1 (H1.out.fine f1) (H2.out.fine f1)).mono ?_
  rintro x w2 ⟨rfl, f2⟩
  have f02 : Fine w w2 := f1.trans f2
  have d1 : w2.cell? ⟨x1, 12, none⟩ = some (.slice B n3 d) := (b1.fine f2).cell 12
  have d2 : w2.cell? ⟨x2, 12, none⟩ = some (.slice B' n4 d') := (b2.fine f2).cell 12
  clear b1 b2 f1 f2
  obtain ⟨p, hp⟩ : ∃ p, optsEq l m = p := ⟨_, rfl⟩
  rw [hp]
  have HP := Lib.hid hp; clear hp
  cases p
  · go_wp2_with fail
    go_ret
    exact ⟨by rw [← HQ.out]; simp [HP.out], f02⟩
  · go_wp2_with fail
    refine (osame_any B B' n3 n4 d d' xs ys w2 (H3.out.fine f02) (H4.out.fine f02) HN3.out HN4.out).mono ?_
    rintro x w3 ⟨rfl, f3⟩
    have f03 : Fine w w3 := f02.trans f3
    go_wp2_with fail
    go_ret
    exact ⟨by rw [← HQ.out]; simp [HP.out], f03⟩
theorem same_seg (N M : Nat → Int) (A B A' B' : Option Addr) (n1 n2 n3 n4 c d c' d' : Nat) (w : World) (l m : List (Nat → Int)) (xs ys : List Int) (hn1 : n1 = l.length) (hn2 : n2 = m.length) (hn3 : n3 = xs.length) (hn4 : n4 = ys.length) (hl : l.length ≤ 100000) (hm : m.length ≤ 100000)
    (h1 : RS layO w A c l) (h2 : RS layO w A' c' m) (h3 : BS w B d xs) (h4 : BS w B' d' ys) :
    Calls Tryd.prog 18 #[.agg (segL N (.slice A n1 c) (.slice B n3 d)).toArray, .agg (segL M (.slice A' n2 c') (.slice B' n4 d')).toArray] w fun r w' => r = .returned (.bool (sameS N M l m xs ys)) ∧ Fine w w' := by
  unfold sameS
  rcases Bool.eq_false_or_eq_true (sameN N M) with h | h
  · have h' := h
    unfold sameN at h'
    simp only [Bool.and_eq_true] at h'
    obtain ⟨e0, e1, e2, e3, e4, e5, e6, e7, e8, e9, e10⟩ := h'
    rw [h, Bool.true_and]
    exact same_good N M A B A' B' n1 n2 n3 n4 c d c' d' w l m xs ys hn1 hn2 hn3 hn4 hl hm h1 h2 h3 h4 e0 e1 e2 e3 e4 e5 e6 e7 e8 e9 e10
  · rw [h, Bool.false_and]
    exact same_bad N M A B A' B' n1 n2 n3 n4 c d c' d' w h
end Go.Proofs.YthnennleblgjeaaDoor
