/- The law SegmentReplies. -/
import Derived.Test.YthnennleblgjeaaDoorSeg5
import Derived.Test.YthnennleblgjeaaDoorSeg8
import Derived.Test.YthnennleblgjeaaDoorSeg9
namespace Go.Proofs.YthnennleblgjeaaDoor
open Go.ChangeShapes Go.WideShapes Go.ChangeAt Go.RowKit
set_option linter.unusedVariables false
set_option linter.unusedSimpArgs false
theorem reply1 (N : Nat → Int) (A B : Option Addr) (n1 n3 c d : Nat) (w : World) : Calls Tryd.prog 16 #[.agg #[.int .i64 (N 0), .int .i64 (N 1), .int .i64 (N 2), .int .i64 (N 3), .int .u32 (N 4), .int .u32 (N 5), .bool (decide (N 6 = 1)), .bool (decide (N 7 = 1)), .bool (decide (N 8 = 1)), .bool (decide (N 9 = 1)), .int .i64 (N 10), .slice A n1 c, .slice B n3 d]] w fun r w' => r = .returned (.agg #[.int .i64 (N 1), .int .i64 (N 0), .int .i64 (N 3), .int .i64 (N 2), .int .u32 0, .int .u32 0, .bool false, .bool false, .bool false, .bool false, .int .i64 0, .slice none 0 0, .slice none 0 0]) ∧ Fine w w' := reply_any N _ _ A B n1 c n3 d rfl rfl w
theorem reply2 (N : Nat → Int) (w : World) : Calls Tryd.prog 16 #[.agg #[.int .i64 (N 1), .int .i64 (N 0), .int .i64 (N 3), .int .i64 (N 2), .int .u32 0, .int .u32 0, .bool false, .bool false, .bool false, .bool false, .int .i64 0, .slice none 0 0, .slice none 0 0]] w fun r w' => r = .returned (.agg #[.int .i64 (N 0), .int .i64 (N 1), .int .i64 (N 2), .int .i64 (N 3), .int .u32 0, .int .u32 0, .bool false, .bool false, .bool false, .bool false, .int .i64 0, .slice none 0 0, .slice none 0 0]) ∧ Fine w w' := reply_any (replyN N) _ _ none none 0 0 0 0 rfl rfl w
theorem rsame_r1 (N : Nat → Int) (w : World) : Calls Tryd.prog 17 #[.agg #[.int .i64 (N 1), .int .i64 (N 0), .int .i64 (N 3), .int .i64 (N 2), .int .u32 0, .int .u32 0, .bool false, .bool false, .bool false, .bool false, .int .i64 0, .slice none 0 0, .slice none 0 0], .agg #[.int .i64 (N 1), .int .i64 (N 0), .int .i64 (N 3), .int .i64 (N 2), .int .u32 0, .int .u32 0, .bool false, .bool false, .bool false, .bool false, .int .i64 0, .slice none 0 0, .slice none 0 0]] w fun r w' => r = .returned (.bool true) ∧ Fine w w' := by
  have h := rsame_seg (replyN N) (replyN N) none none none none 0 0 0 0 0 0 0 0 w [] [] [] [] rfl rfl rfl rfl (by simp) (by simp) (RS.nil_ _ _) (RS.nil_ _ _) (BS.nil_ _) (BS.nil_ _)
  rw [sameS_self] at h
  exact h
def replyNN (N : Nat → Int) : Nat → Int := fun j => match j with | 0 => N 0 | 1 => N 1 | 2 => N 2 | 3 => N 3 | _ => 0
theorem rsame_r2 (N : Nat → Int) (w : World) : Calls Tryd.prog 17 #[.agg #[.int .i64 (N 0), .int .i64 (N 1), .int .i64 (N 2), .int .i64 (N 3), .int .u32 0, .int .u32 0, .bool false, .bool false, .bool false, .bool false, .int .i64 0, .slice none 0 0, .slice none 0 0], .agg #[.int .i64 (N 0), .int .i64 (N 1), .int .i64 (N 2), .int .i64 (N 3), .int .u32 0, .int .u32 0, .bool false, .bool false, .bool false, .bool false, .int .i64 0, .slice none 0 0, .slice none 0 0]] w fun r w' => r = .returned (.bool true) ∧ Fine w w' := by
  have h := rsame_seg (replyNN N) (replyNN N) none none none none 0 0 0 0 0 0 0 0 w [] [] [] [] rfl rfl rfl rfl (by simp) (by simp) (RS.nil_ _ _) (RS.nil_ _ _) (BS.nil_ _) (BS.nil_ _)
  rw [sameS_self] at h
  exact h
set_option maxHeartbeats 4000000 in
set_option maxRecDepth 100000 in
theorem segReplies_any (N M : Nat → Int) (A B A' B' : Option Addr) (n1 n2 n3 n4 c d c' d' : Nat) (w : World) (hT : TabW w) (l m : List (Nat → Int)) (xs ys : List Int) (hn1 : n1 = l.length) (hn2 : n2 = m.length) (hn3 : n3 = xs.length) (hn4 : n4 = ys.length)
    (h1 : RS layO w A c l) (h2 : RS layO w A' c' m) (h3 : BS w B d xs) (h4 : BS w B' d' ys) :
    Calls Tryd.prog 4 #[.agg #[.int .i64 (N 0), .int .i64 (N 1), .int .i64 (N 2), .int .i64 (N 3), .int .u32 (N 4), .int .u32 (N 5), .bool (decide (N 6 = 1)), .bool (decide (N 7 = 1)), .bool (decide (N 8 = 1)), .bool (decide (N 9 = 1)), .int .i64 (N 10), .slice A n1 c, .slice B n3 d], .agg #[.int .i64 (M 0), .int .i64 (M 1), .int .i64 (M 2), .int .i64 (M 3), .int .u32 (M 4), .int .u32 (M 5), .bool (decide (M 6 = 1)), .bool (decide (M 7 = 1)), .bool (decide (M 8 = 1)), .bool (decide (M 9 = 1)), .int .i64 (M 10), .slice A' n2 c', .slice B' n4 d']] w fun r w' => r = .returned (.bool true) ∧ Fine w w' := by
  have HN1 := Lib.hid hn1; clear hn1
  have HN2 := Lib.hid hn2; clear hn2
  have HN3 := Lib.hid hn3; clear hn3
  have HN4 := Lib.hid hn4; clear hn4
  have H1 := Lib.hid h1; clear h1
  have H2 := Lib.hid h2; clear h2
  have H3 := Lib.hid h3; clear h3
  have H4 := Lib.hid h4; clear h4
  have HT := Lib.hid hT; clear hT
  go_enter Tryd.func4, Tryd.ntmps4
  go_wp2_with fail
  have b1 : Blk ((w.alloc (.cells #[.int .i64 (N 0), .int .i64 (N 1), .int .i64 (N 2), .int .i64 (N 3), .int .u32 (N 4), .int .u32 (N 5), .bool (decide (N 6 = 1)), .bool (decide (N 7 = 1)), .bool (decide (N 8 = 1)), .bool (decide (N 9 = 1)), .int .i64 (N 10), .slice A n1 c, .slice B n3 d] 26)).alloc (.cells #[.int .i64 (M 0), .int .i64 (M 1), .int .i64 (M 2), .int .i64 (M 3), .int .u32 (M 4), .int .u32 (M 5), .bool (decide (M 6 = 1)), .bool (decide (M 7 = 1)), .bool (decide (M 8 = 1)), .bool (decide (M 9 = 1)), .int .i64 (M 10), .slice A' n2 c', .slice B' n4 d'] 26)) w.heap.size 26 #[.int .i64 (N 0), .int .i64 (N 1), .int .i64 (N 2), .int .i64 (N 3), .int .u32 (N 4), .int .u32 (N 5), .bool (decide (N 6 = 1)), .bool (decide (N 7 = 1)), .bool (decide (N 8 = 1)), .bool (decide (N 9 = 1)), .int .i64 (N 10), .slice A n1 c, .slice B n3 d] := (Blk.new w 26 _).alloc _
  have b2 : Blk ((w.alloc (.cells #[.int .i64 (N 0), .int .i64 (N 1), .int .i64 (N 2), .int .i64 (N 3), .int .u32 (N 4), .int .u32 (N 5), .bool (decide (N 6 = 1)), .bool (decide (N 7 = 1)), .bool (decide (N 8 = 1)), .bool (decide (N 9 = 1)), .int .i64 (N 10), .slice A n1 c, .slice B n3 d] 26)).alloc (.cells #[.int .i64 (M 0), .int .i64 (M 1), .int .i64 (M 2), .int .i64 (M 3), .int .u32 (M 4), .int .u32 (M 5), .bool (decide (M 6 = 1)), .bool (decide (M 7 = 1)), .bool (decide (M 8 = 1)), .bool (decide (M 9 = 1)), .int .i64 (M 10), .slice A' n2 c', .slice B' n4 d'] 26)) (w.heap.size + 1) 26 #[.int .i64 (M 0), .int .i64 (M 1), .int .i64 (M 2), .int .i64 (M 3), .int .u32 (M 4), .int .u32 (M 5), .bool (decide (M 6 = 1)), .bool (decide (M 7 = 1)), .bool (decide (M 8 = 1)), .bool (decide (M 9 = 1)), .int .i64 (M 10), .slice A' n2 c', .slice B' n4 d'] := Blk.newAt (by simp)
  have f1 : Fine w ((w.alloc (.cells #[.int .i64 (N 0), .int .i64 (N 1), .int .i64 (N 2), .int .i64 (N 3), .int .u32 (N 4), .int .u32 (N 5), .bool (decide (N 6 = 1)), .bool (decide (N 7 = 1)), .bool (decide (N 8 = 1)), .bool (decide (N 9 = 1)), .int .i64 (N 10), .slice A n1 c, .slice B n3 d] 26)).alloc (.cells #[.int .i64 (M 0), .int .i64 (M 1), .int .i64 (M 2), .int .i64 (M 3), .int .u32 (M 4), .int .u32 (M 5), .bool (decide (M 6 = 1)), .bool (decide (M 7 = 1)), .bool (decide (M 8 = 1)), .bool (decide (M 9 = 1)), .int .i64 (M 10), .slice A' n2 c', .slice B' n4 d'] 26)) := ((Fine.refl w).alloc _).alloc _
  generalize ((w.alloc (.cells #[.int .i64 (N 0), .int .i64 (N 1), .int .i64 (N 2), .int .i64 (N 3), .int .u32 (N 4), .int .u32 (N 5), .bool (decide (N 6 = 1)), .bool (decide (N 7 = 1)), .bool (decide (N 8 = 1)), .bool (decide (N 9 = 1)), .int .i64 (N 10), .slice A n1 c, .slice B n3 d] 26)).alloc (.cells #[.int .i64 (M 0), .int .i64 (M 1), .int .i64 (M 2), .int .i64 (M 3), .int .u32 (M 4), .int .u32 (M 5), .bool (decide (M 6 = 1)), .bool (decide (M 7 = 1)), .bool (decide (M 8 = 1)), .bool (decide (M 9 = 1)), .int .i64 (M 10), .slice A' n2 c', .slice B' n4 d'] 26)) = w1 at b1 b2 f1 ⊢
  generalize w.heap.size = x1 at b1 b2 ⊢
  obtain ⟨x2, hx2⟩ : ∃ x2, x1 + 1 = x2 := ⟨_, rfl⟩
  rw [hx2] at b2 ⊢
  clear hx2
  refine (wakes_any w1 (HT.out.fine f1)).mono ?_
  rintro x w2 ⟨rfl, f⟩
  have B1 := Lib.hid (b1.fine f); have B2 := Lib.hid (b2.fine f); have f2 := f1.trans f
  clear b1 b2 f1 f
  have a0 : w2.cell? ⟨x1, 0, none⟩ = some (.int .i64 (N 0)) := B1.out.cell 0
  have a1 : w2.cell? ⟨x1, 1, none⟩ = some (.int .i64 (N 1)) := B1.out.cell 1
  have a2 : w2.cell? ⟨x1, 2, none⟩ = some (.int .i64 (N 2)) := B1.out.cell 2
  have a3 : w2.cell? ⟨x1, 3, none⟩ = some (.int .i64 (N 3)) := B1.out.cell 3
  have a4 : w2.cell? ⟨x1, 4, none⟩ = some (.int .u32 (N 4)) := B1.out.cell 4
  have a5 : w2.cell? ⟨x1, 5, none⟩ = some (.int .u32 (N 5)) := B1.out.cell 5
  have a6 : w2.cell? ⟨x1, 6, none⟩ = some (.bool (decide (N 6 = 1))) := B1.out.cell 6
  have a7 : w2.cell? ⟨x1, 7, none⟩ = some (.bool (decide (N 7 = 1))) := B1.out.cell 7
  have a8 : w2.cell? ⟨x1, 8, none⟩ = some (.bool (decide (N 8 = 1))) := B1.out.cell 8
  have a9 : w2.cell? ⟨x1, 9, none⟩ = some (.bool (decide (N 9 = 1))) := B1.out.cell 9
  have a10 : w2.cell? ⟨x1, 10, none⟩ = some (.int .i64 (N 10)) := B1.out.cell 10
  have a11 : w2.cell? ⟨x1, 11, none⟩ = some (.slice A n1 c) := B1.out.cell 11
  have a12 : w2.cell? ⟨x1, 12, none⟩ = some (.slice B n3 d) := B1.out.cell 12
  go_wp2_with fail
  refine (long_any N A B n1 c n3 d w2).mono ?_
  rintro x w3 ⟨rfl, f⟩
  clear a0 a1 a2 a3 a4 a5 a6 a7 a8 a9 a10 a11 a12
  have B1 := Lib.hid (B1.out.fine f); have B2 := Lib.hid (B2.out.fine f); have f3 := f2.trans f
  clear f2 f
  obtain ⟨p, hp⟩ : ∃ p, (decide (50 < n1) || decide (200 < n3)) = p := ⟨_, rfl⟩
  rw [hp]
  have HP := Lib.hid hp; clear hp
  cases p
  · have hs1 : n1 ≤ 50 ∧ n3 ≤ 200 := by have := HP.out; simp at this; omega
    have HS1 := Lib.hid hs1; clear hs1
    have a0 : w3.cell? ⟨x2, 0, none⟩ = some (.int .i64 (M 0)) := B2.out.cell 0
    have a1 : w3.cell? ⟨x2, 1, none⟩ = some (.int .i64 (M 1)) := B2.out.cell 1
    have a2 : w3.cell? ⟨x2, 2, none⟩ = some (.int .i64 (M 2)) := B2.out.cell 2
    have a3 : w3.cell? ⟨x2, 3, none⟩ = some (.int .i64 (M 3)) := B2.out.cell 3
    have a4 : w3.cell? ⟨x2, 4, none⟩ = some (.int .u32 (M 4)) := B2.out.cell 4
    have a5 : w3.cell? ⟨x2, 5, none⟩ = some (.int .u32 (M 5)) := B2.out.cell 5
    have a6 : w3.cell? ⟨x2, 6, none⟩ = some (.bool (decide (M 6 = 1))) := B2.out.cell 6
    have a7 : w3.cell? ⟨x2, 7, none⟩ = some (.bool (decide (M 7 = 1))) := B2.out.cell 7
    have a8 : w3.cell? ⟨x2, 8, none⟩ = some (.bool (decide (M 8 = 1))) := B2.out.cell 8
    have a9 : w3.cell? ⟨x2, 9, none⟩ = some (.bool (decide (M 9 = 1))) := B2.out.cell 9
    have a10 : w3.cell? ⟨x2, 10, none⟩ = some (.int .i64 (M 10)) := B2.out.cell 10
    have a11 : w3.cell? ⟨x2, 11, none⟩ = some (.slice A' n2 c') := B2.out.cell 11
    have a12 : w3.cell? ⟨x2, 12, none⟩ = some (.slice B' n4 d') := B2.out.cell 12
    go_wp2_with fail
    refine (long_any M A' B' n2 c' n4 d' w3).mono ?_
    rintro x w4 ⟨rfl, f⟩
    clear a0 a1 a2 a3 a4 a5 a6 a7 a8 a9 a10 a11 a12
    have B1 := Lib.hid (B1.out.fine f); have B2 := Lib.hid (B2.out.fine f); have f4 := f3.trans f
    clear f3 f
    obtain ⟨p, hp⟩ : ∃ p, (decide (50 < n2) || decide (200 < n4)) = p := ⟨_, rfl⟩
    rw [hp]
    have HP2 := Lib.hid hp; clear hp
    cases p
    · have hs2 : n2 ≤ 50 ∧ n4 ≤ 200 := by have := HP2.out; simp at this; omega
      have HS2 := Lib.hid hs2; clear hs2
      have a0 : w4.cell? ⟨x1, 0, none⟩ = some (.int .i64 (N 0)) := B1.out.cell 0
      have a1 : w4.cell? ⟨x1, 1, none⟩ = some (.int .i64 (N 1)) := B1.out.cell 1
      have a2 : w4.cell? ⟨x1, 2, none⟩ = some (.int .i64 (N 2)) := B1.out.cell 2
      have a3 : w4.cell? ⟨x1, 3, none⟩ = some (.int .i64 (N 3)) := B1.out.cell 3
      have a4 : w4.cell? ⟨x1, 4, none⟩ = some (.int .u32 (N 4)) := B1.out.cell 4
      have a5 : w4.cell? ⟨x1, 5, none⟩ = some (.int .u32 (N 5)) := B1.out.cell 5
      have a6 : w4.cell? ⟨x1, 6, none⟩ = some (.bool (decide (N 6 = 1))) := B1.out.cell 6
      have a7 : w4.cell? ⟨x1, 7, none⟩ = some (.bool (decide (N 7 = 1))) := B1.out.cell 7
      have a8 : w4.cell? ⟨x1, 8, none⟩ = some (.bool (decide (N 8 = 1))) := B1.out.cell 8
      have a9 : w4.cell? ⟨x1, 9, none⟩ = some (.bool (decide (N 9 = 1))) := B1.out.cell 9
      have a10 : w4.cell? ⟨x1, 10, none⟩ = some (.int .i64 (N 10)) := B1.out.cell 10
      have a11 : w4.cell? ⟨x1, 11, none⟩ = some (.slice A n1 c) := B1.out.cell 11
      have a12 : w4.cell? ⟨x1, 12, none⟩ = some (.slice B n3 d) := B1.out.cell 12
      go_wp2_with fail
      refine (reply1 N A B n1 n3 c d w4).mono ?_
      rintro x w5 ⟨rfl, f⟩
      clear a0 a1 a2 a3 a4 a5 a6 a7 a8 a9 a10 a11 a12
      have B1 := Lib.hid (B1.out.fine f); have B2 := Lib.hid (B2.out.fine f); have f5 := f4.trans f
      clear f4 f
      go_wp2_with fail
      have b5 : Blk (w5.alloc (.cells #[.int .i64 (N 1), .int .i64 (N 0), .int .i64 (N 3), .int .i64 (N 2), .int .u32 0, .int .u32 0, .bool false, .bool false, .bool false, .bool false, .int .i64 0, .slice none 0 0, .slice none 0 0] 26)) w5.heap.size 26 #[.int .i64 (N 1), .int .i64 (N 0), .int .i64 (N 3), .int .i64 (N 2), .int .u32 0, .int .u32 0, .bool false, .bool false, .bool false, .bool false, .int .i64 0, .slice none 0 0, .slice none 0 0] := Blk.new w5 26 _
      have f : Fine w5 (w5.alloc (.cells #[.int .i64 (N 1), .int .i64 (N 0), .int .i64 (N 3), .int .i64 (N 2), .int .u32 0, .int .u32 0, .bool false, .bool false, .bool false, .bool false, .int .i64 0, .slice none 0 0, .slice none 0 0] 26)) := (Fine.refl w5).alloc _
      generalize (w5.alloc (.cells #[.int .i64 (N 1), .int .i64 (N 0), .int .i64 (N 3), .int .i64 (N 2), .int .u32 0, .int .u32 0, .bool false, .bool false, .bool false, .bool false, .int .i64 0, .slice none 0 0, .slice none 0 0] 26)) = w6 at b5 f ⊢
      generalize w5.heap.size = x5 at b5 ⊢
      have B1 := Lib.hid (B1.out.fine f); have B2 := Lib.hid (B2.out.fine f); have f6 := f5.trans f
      clear f5 f
      refine (reply2 N w6).mono ?_
      rintro x w7 ⟨rfl, f⟩
      have B5 := Lib.hid (b5.fine f)
      have B1 := Lib.hid (B1.out.fine f); have B2 := Lib.hid (B2.out.fine f); have f7 := f6.trans f
      clear f6 f b5
      go_upto_region 7 with (fail)
      have b6 : Blk (w7.alloc (.cells #[.int .i64 (N 0), .int .i64 (N 1), .int .i64 (N 2), .int .i64 (N 3), .int .u32 0, .int .u32 0, .bool false, .bool false, .bool false, .bool false, .int .i64 0, .slice none 0 0, .slice none 0 0] 26)) w7.heap.size 26 #[.int .i64 (N 0), .int .i64 (N 1), .int .i64 (N 2), .int .i64 (N 3), .int .u32 0, .int .u32 0, .bool false, .bool false, .bool false, .bool false, .int .i64 0, .slice none 0 0, .slice none 0 0] := Blk.new w7 26 _
      have f : Fine w7 (w7.alloc (.cells #[.int .i64 (N 0), .int .i64 (N 1), .int .i64 (N 2), .int .i64 (N 3), .int .u32 0, .int .u32 0, .bool false, .bool false, .bool false, .bool false, .int .i64 0, .slice none 0 0, .slice none 0 0] 26)) := (Fine.refl w7).alloc _
      generalize (w7.alloc (.cells #[.int .i64 (N 0), .int .i64 (N 1), .int .i64 (N 2), .int .i64 (N 3), .int .u32 0, .int .u32 0, .bool false, .bool false, .bool false, .bool false, .int .i64 0, .slice none 0 0, .slice none 0 0] 26)) = w8 at b6 f ⊢
      generalize w7.heap.size = x6 at b6 ⊢
      have B1 := Lib.hid (B1.out.fine f); have B2 := Lib.hid (B2.out.fine f); have B5 := Lib.hid (B5.out.fine f); have B6 := Lib.hid b6; have f8 := f7.trans f
      clear f7 f b6
      have HK : Hid (∀ w', Fine w8 w' → (fun w' => w'.cell? ⟨x1, 0, none⟩ = some (.int .i64 (N 0)) ∧ w'.cell? ⟨x1, 1, none⟩ = some (.int .i64 (N 1)) ∧ w'.cell? ⟨x1, 2, none⟩ = some (.int .i64 (N 2)) ∧ w'.cell? ⟨x1, 3, none⟩ = some (.int .i64 (N 3)) ∧ w'.cell? ⟨x1, 4, none⟩ = some (.int .u32 (N 4)) ∧ w'.cell? ⟨x1, 5, none⟩ = some (.int .u32 (N 5)) ∧ w'.cell? ⟨x1, 6, none⟩ = some (.bool (decide (N 6 = 1))) ∧ w'.cell? ⟨x1, 7, none⟩ = some (.bool (decide (N 7 = 1))) ∧ w'.cell? ⟨x1, 8, none⟩ = some (.bool (decide (N 8 = 1))) ∧ w'.cell? ⟨x1, 9, none⟩ = some (.bool (decide (N 9 = 1))) ∧ w'.cell? ⟨x1, 10, none⟩ = some (.int .i64 (N 10)) ∧ w'.cell? ⟨x1, 11, none⟩ = some (.slice A n1 c) ∧ w'.cell? ⟨x1, 12, none⟩ = some (.slice B n3 d) ∧ w'.cell? ⟨x2, 0, none⟩ = some (.int .i64 (M 0)) ∧ w'.cell? ⟨x2, 1, none⟩ = some (.int .i64 (M 1)) ∧ w'.cell? ⟨x2, 2, none⟩ = some (.int .i64 (M 2)) ∧ w'.cell? ⟨x2, 3, none⟩ = some (.int .i64 (M 3)) ∧ w'.cell? ⟨x2, 4, none⟩ = some (.int .u32 (M 4)) ∧ w'.cell? ⟨x2, 5, none⟩ = some (.int .u32 (M 5)) ∧ w'.cell? ⟨x2, 6, none⟩ = some (.bool (decide (M 6 = 1))) ∧ w'.cell? ⟨x2, 7, none⟩ = some (.bool (decide (M 7 = 1))) ∧ w'.cell? ⟨x2, 8, none⟩ = some (.bool (decide (M 8 = 1))) ∧ w'.cell? ⟨x2, 9, none⟩ = some (.bool (decide (M 9 = 1))) ∧ w'.cell? ⟨x2, 10, none⟩ = some (.int .i64 (M 10)) ∧ w'.cell? ⟨x2, 11, none⟩ = some (.slice A' n2 c') ∧ w'.cell? ⟨x2, 12, none⟩ = some (.slice B' n4 d') ∧ w'.cell? ⟨x5, 0, none⟩ = some (.int .i64 (N 1)) ∧ w'.cell? ⟨x5, 1, none⟩ = some (.int .i64 (N 0)) ∧ w'.cell? ⟨x5, 2, none⟩ = some (.int .i64 (N 3)) ∧ w'.cell? ⟨x5, 3, none⟩ = some (.int .i64 (N 2)) ∧ w'.cell? ⟨x5, 4, none⟩ = some (.int .u32 0) ∧ w'.cell? ⟨x5, 5, none⟩ = some (.int .u32 0) ∧ w'.cell? ⟨x5, 6, none⟩ = some (.bool false) ∧ w'.cell? ⟨x5, 7, none⟩ = some (.bool false) ∧ w'.cell? ⟨x5, 8, none⟩ = some (.bool false) ∧ w'.cell? ⟨x5, 9, none⟩ = some (.bool false) ∧ w'.cell? ⟨x5, 10, none⟩ = some (.int .i64 0) ∧ w'.cell? ⟨x5, 11, none⟩ = some (.slice none 0 0) ∧ w'.cell? ⟨x5, 12, none⟩ = some (.slice none 0 0) ∧ w'.cell? ⟨x6, 0, none⟩ = some (.int .i64 (N 0)) ∧ w'.cell? ⟨x6, 1, none⟩ = some (.int .i64 (N 1)) ∧ w'.cell? ⟨x6, 2, none⟩ = some (.int .i64 (N 2)) ∧ w'.cell? ⟨x6, 3, none⟩ = some (.int .i64 (N 3)) ∧ w'.cell? ⟨x6, 4, none⟩ = some (.int .u32 0) ∧ w'.cell? ⟨x6, 5, none⟩ = some (.int .u32 0) ∧ w'.cell? ⟨x6, 6, none⟩ = some (.bool false) ∧ w'.cell? ⟨x6, 7, none⟩ = some (.bool false) ∧ w'.cell? ⟨x6, 8, none⟩ = some (.bool false) ∧ w'.cell? ⟨x6, 9, none⟩ = some (.bool false) ∧ w'.cell? ⟨x6, 10, none⟩ = some (.int .i64 0) ∧ w'.cell? ⟨x6, 11, none⟩ = some (.slice none 0 0) ∧ w'.cell? ⟨x6, 12, none⟩ = some (.slice none 0 0)) w') := Lib.hid (fun w' hk => by
        have b1 := B1.out.fine hk
        have b2 := B2.out.fine hk
        have b5 := B5.out.fine hk
        have b6 := B6.out.fine hk
        exact ⟨b1.cell 0, b1.cell 1, b1.cell 2, b1.cell 3, b1.cell 4, b1.cell 5, b1.cell 6, b1.cell 7, b1.cell 8, b1.cell 9, b1.cell 10, b1.cell 11, b1.cell 12, b2.cell 0, b2.cell 1, b2.cell 2, b2.cell 3, b2.cell 4, b2.cell 5, b2.cell 6, b2.cell 7, b2.cell 8, b2.cell 9, b2.cell 10, b2.cell 11, b2.cell 12, b5.cell 0, b5.cell 1, b5.cell 2, b5.cell 3, b5.cell 4, b5.cell 5, b5.cell 6, b5.cell 7, b5.cell 8, b5.cell 9, b5.cell 10, b5.cell 11, b5.cell 12, b6.cell 0, b6.cell 1, b6.cell 2, b6.cell 3, b6.cell 4, b6.cell 5, b6.cell 6, b6.cell 7, b6.cell 8, b6.cell 9, b6.cell 10, b6.cell 11, b6.cell 12⟩)
      obtain ⟨q, hq⟩ : ∃ q, sameS N M l m xs ys = q := ⟨_, rfl⟩
      have HC3 : Hid (∀ w', Fine w8 w' → Calls Tryd.prog 18 #[.agg #[.int .i64 (N 0), .int .i64 (N 1), .int .i64 (N 2), .int .i64 (N 3), .int .u32 (N 4), .int .u32 (N 5), .bool (decide (N 6 = 1)), .bool (decide (N 7 = 1)), .bool (decide (N 8 = 1)), .bool (decide (N 9 = 1)), .int .i64 (N 10), .slice A n1 c, .slice B n3 d], .agg #[.int .i64 (M 0), .int .i64 (M 1), .int .i64 (M 2), .int .i64 (M 3), .int .u32 (M 4), .int .u32 (M 5), .bool (decide (M 6 = 1)), .bool (decide (M 7 = 1)), .bool (decide (M 8 = 1)), .bool (decide (M 9 = 1)), .int .i64 (M 10), .slice A' n2 c', .slice B' n4 d']] w' fun r w'' => r = .returned (.bool q) ∧ Fine w' w'') := Lib.hid (fun w' hk => by
        have f := f8.trans hk
        rw [← hq]
        exact same_seg N M A B A' B' n1 n2 n3 n4 c d c' d' w' l m xs ys HN1.out HN2.out HN3.out HN4.out (by have := HN1.out; have := HS1.out; omega) (by have := HN2.out; have := HS2.out; omega) (H1.out.fine f) (H2.out.fine f) (H3.out.fine f) (H4.out.fine f))
      have HC4 : Hid (∀ w', Fine w8 w' → Calls Tryd.prog 17 #[.agg #[.int .i64 (N 0), .int .i64 (N 1), .int .i64 (N 2), .int .i64 (N 3), .int .u32 (N 4), .int .u32 (N 5), .bool (decide (N 6 = 1)), .bool (decide (N 7 = 1)), .bool (decide (N 8 = 1)), .bool (decide (N 9 = 1)), .int .i64 (N 10), .slice A n1 c, .slice B n3 d], .agg #[.int .i64 (M 0), .int .i64 (M 1), .int .i64 (M 2), .int .i64 (M 3), .int .u32 (M 4), .int .u32 (M 5), .bool (decide (M 6 = 1)), .bool (decide (M 7 = 1)), .bool (decide (M 8 = 1)), .bool (decide (M 9 = 1)), .int .i64 (M 10), .slice A' n2 c', .slice B' n4 d']] w' fun r w'' => r = .returned (.bool q) ∧ Fine w' w'') := Lib.hid (fun w' hk => by
        have f := f8.trans hk
        rw [← hq]
        exact rsame_seg N M A B A' B' n1 n2 n3 n4 c d c' d' w' l m xs ys HN1.out HN2.out HN3.out HN4.out (by have := HN1.out; have := HS1.out; omega) (by have := HN3.out; have := HS1.out; omega) (H1.out.fine f) (H2.out.fine f) (H3.out.fine f) (H4.out.fine f))
      have HC5 : Hid (∀ w', Fine w8 w' → Calls Tryd.prog 18 #[.agg #[.int .i64 (N 0), .int .i64 (N 1), .int .i64 (N 2), .int .i64 (N 3), .int .u32 (N 4), .int .u32 (N 5), .bool (decide (N 6 = 1)), .bool (decide (N 7 = 1)), .bool (decide (N 8 = 1)), .bool (decide (N 9 = 1)), .int .i64 (N 10), .slice A n1 c, .slice B n3 d], .agg #[.int .i64 (N 0), .int .i64 (N 1), .int .i64 (N 2), .int .i64 (N 3), .int .u32 (N 4), .int .u32 (N 5), .bool (decide (N 6 = 1)), .bool (decide (N 7 = 1)), .bool (decide (N 8 = 1)), .bool (decide (N 9 = 1)), .int .i64 (N 10), .slice A n1 c, .slice B n3 d]] w' fun r w'' => r = .returned (.bool true) ∧ Fine w' w'') := Lib.hid (fun w' hk => by
        have f := f8.trans hk
        have h := same_seg N N A B A B n1 n1 n3 n3 c d c d w' l l xs xs HN1.out HN1.out HN3.out HN3.out (by have := HN1.out; have := HS1.out; omega) (by have := HN1.out; have := HS1.out; omega) (H1.out.fine f) (H1.out.fine f) (H3.out.fine f) (H3.out.fine f)
        rw [sameS_self] at h
        exact h)
      have qe : (q == q) = true := by simp
      clear hq
      go_region_held3 (fun w' => w'.cell? ⟨x1, 0, none⟩ = some (.int .i64 (N 0)) ∧ w'.cell? ⟨x1, 1, none⟩ = some (.int .i64 (N 1)) ∧ w'.cell? ⟨x1, 2, none⟩ = some (.int .i64 (N 2)) ∧ w'.cell? ⟨x1, 3, none⟩ = some (.int .i64 (N 3)) ∧ w'.cell? ⟨x1, 4, none⟩ = some (.int .u32 (N 4)) ∧ w'.cell? ⟨x1, 5, none⟩ = some (.int .u32 (N 5)) ∧ w'.cell? ⟨x1, 6, none⟩ = some (.bool (decide (N 6 = 1))) ∧ w'.cell? ⟨x1, 7, none⟩ = some (.bool (decide (N 7 = 1))) ∧ w'.cell? ⟨x1, 8, none⟩ = some (.bool (decide (N 8 = 1))) ∧ w'.cell? ⟨x1, 9, none⟩ = some (.bool (decide (N 9 = 1))) ∧ w'.cell? ⟨x1, 10, none⟩ = some (.int .i64 (N 10)) ∧ w'.cell? ⟨x1, 11, none⟩ = some (.slice A n1 c) ∧ w'.cell? ⟨x1, 12, none⟩ = some (.slice B n3 d) ∧ w'.cell? ⟨x2, 0, none⟩ = some (.int .i64 (M 0)) ∧ w'.cell? ⟨x2, 1, none⟩ = some (.int .i64 (M 1)) ∧ w'.cell? ⟨x2, 2, none⟩ = some (.int .i64 (M 2)) ∧ w'.cell? ⟨x2, 3, none⟩ = some (.int .i64 (M 3)) ∧ w'.cell? ⟨x2, 4, none⟩ = some (.int .u32 (M 4)) ∧ w'.cell? ⟨x2, 5, none⟩ = some (.int .u32 (M 5)) ∧ w'.cell? ⟨x2, 6, none⟩ = some (.bool (decide (M 6 = 1))) ∧ w'.cell? ⟨x2, 7, none⟩ = some (.bool (decide (M 7 = 1))) ∧ w'.cell? ⟨x2, 8, none⟩ = some (.bool (decide (M 8 = 1))) ∧ w'.cell? ⟨x2, 9, none⟩ = some (.bool (decide (M 9 = 1))) ∧ w'.cell? ⟨x2, 10, none⟩ = some (.int .i64 (M 10)) ∧ w'.cell? ⟨x2, 11, none⟩ = some (.slice A' n2 c') ∧ w'.cell? ⟨x2, 12, none⟩ = some (.slice B' n4 d') ∧ w'.cell? ⟨x5, 0, none⟩ = some (.int .i64 (N 1)) ∧ w'.cell? ⟨x5, 1, none⟩ = some (.int .i64 (N 0)) ∧ w'.cell? ⟨x5, 2, none⟩ = some (.int .i64 (N 3)) ∧ w'.cell? ⟨x5, 3, none⟩ = some (.int .i64 (N 2)) ∧ w'.cell? ⟨x5, 4, none⟩ = some (.int .u32 0) ∧ w'.cell? ⟨x5, 5, none⟩ = some (.int .u32 0) ∧ w'.cell? ⟨x5, 6, none⟩ = some (.bool false) ∧ w'.cell? ⟨x5, 7, none⟩ = some (.bool false) ∧ w'.cell? ⟨x5, 8, none⟩ = some (.bool false) ∧ w'.cell? ⟨x5, 9, none⟩ = some (.bool false) ∧ w'.cell? ⟨x5, 10, none⟩ = some (.int .i64 0) ∧ w'.cell? ⟨x5, 11, none⟩ = some (.slice none 0 0) ∧ w'.cell? ⟨x5, 12, none⟩ = some (.slice none 0 0) ∧ w'.cell? ⟨x6, 0, none⟩ = some (.int .i64 (N 0)) ∧ w'.cell? ⟨x6, 1, none⟩ = some (.int .i64 (N 1)) ∧ w'.cell? ⟨x6, 2, none⟩ = some (.int .i64 (N 2)) ∧ w'.cell? ⟨x6, 3, none⟩ = some (.int .i64 (N 3)) ∧ w'.cell? ⟨x6, 4, none⟩ = some (.int .u32 0) ∧ w'.cell? ⟨x6, 5, none⟩ = some (.int .u32 0) ∧ w'.cell? ⟨x6, 6, none⟩ = some (.bool false) ∧ w'.cell? ⟨x6, 7, none⟩ = some (.bool false) ∧ w'.cell? ⟨x6, 8, none⟩ = some (.bool false) ∧ w'.cell? ⟨x6, 9, none⟩ = some (.bool false) ∧ w'.cell? ⟨x6, 10, none⟩ = some (.int .i64 0) ∧ w'.cell? ⟨x6, 11, none⟩ = some (.slice none 0 0) ∧ w'.cell? ⟨x6, 12, none⟩ = some (.slice none 0 0)) ((refine HK.out _ ?_; (repeat (first | with_reducible exact Fine.refl _ | with_reducible refine Fine.trans ?_ g5 | with_reducible refine Fine.trans ?_ g4 | with_reducible refine Fine.trans ?_ g3 | with_reducible refine Fine.trans ?_ g2 | with_reducible refine Fine.trans ?_ g1 | with_reducible refine Fine.drew ?_)))) (first | (go_at_call 17; with_reducible refine (rsame_r1 N _).mono ?_; rintro x v1 ⟨rfl, g1⟩) | (go_at_call 17; with_reducible refine (rsame_r2 N _).mono ?_; rintro x v2 ⟨rfl, g2⟩) | (go_at_call 18; with_reducible refine (HC3.out _ ?_).mono ?_; (repeat (first | with_reducible exact Fine.refl _ | with_reducible refine Fine.trans ?_ g5 | with_reducible refine Fine.trans ?_ g4 | with_reducible refine Fine.trans ?_ g3 | with_reducible refine Fine.trans ?_ g2 | with_reducible refine Fine.trans ?_ g1 | with_reducible refine Fine.drew ?_)); rintro x v3 ⟨rfl, g3⟩) | (go_at_call 17; with_reducible refine (HC4.out _ ?_).mono ?_; (repeat (first | with_reducible exact Fine.refl _ | with_reducible refine Fine.trans ?_ g5 | with_reducible refine Fine.trans ?_ g4 | with_reducible refine Fine.trans ?_ g3 | with_reducible refine Fine.trans ?_ g2 | with_reducible refine Fine.trans ?_ g1 | with_reducible refine Fine.drew ?_)); rintro x v4 ⟨rfl, g4⟩) | (go_at_call 18; with_reducible refine (HC5.out _ ?_).mono ?_; (repeat (first | with_reducible exact Fine.refl _ | with_reducible refine Fine.trans ?_ g5 | with_reducible refine Fine.trans ?_ g4 | with_reducible refine Fine.trans ?_ g3 | with_reducible refine Fine.trans ?_ g2 | with_reducible refine Fine.trans ?_ g1 | with_reducible refine Fine.drew ?_)); rintro x v5 ⟨rfl, g5⟩))
      all_goals go_wp2_with fail
      all_goals go_ret
      all_goals refine ⟨rfl, ?_⟩
      all_goals (repeat (first | with_reducible exact f8 | with_reducible refine Fine.trans ?_ g5 | with_reducible refine Fine.trans ?_ g4 | with_reducible refine Fine.trans ?_ g3 | with_reducible refine Fine.trans ?_ g2 | with_reducible refine Fine.trans ?_ g1 | with_reducible refine Fine.drew ?_))
    · go_wp2_with fail
      go_ret
      exact ⟨rfl, f4⟩
  · go_wp2_with fail
    go_ret
    exact ⟨rfl, f3⟩
end Go.Proofs.YthnennleblgjeaaDoor
