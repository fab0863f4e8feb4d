/- The law SegmentPuts. -/
import Derived.Test.YthnennleblgjeaaDoorXSeg18
import Derived.Test.YthnennleblgjeaaDoorXSeg5
namespace Go.Proofs.YthnennleblgjeaaDoor
set_option linter.unusedVariables false
set_option linter.unusedSimpArgs false
open Go.ChangeShapes Go.WideShapes Go.ChangeAt Go.RowKit
set_option linter.unusedVariables false
set_option linter.unusedSimpArgs false
set_option maxHeartbeats 4000000 in
set_option maxRecDepth 100000 in
theorem segPuts_any (N : Nat → Int) (A B : Option Addr) (n m c d : Nat) (w : World) (hT : TabW w) (l : List (Nat → Int)) (xs : List Int) (hn : n = l.length) (hm : m = xs.length) (hN : OkN N) (hV : ∀ V ∈ l, OkV V) (h1 : RS layO w A c l) (h2 : BS w B d xs) :
    Calls Tryd.prog 6 #[.agg #[.int .i64 (N 0), .int .i64 (N 1), .int .i64 (N 2), .int .i64 (N 3), .int .u32 (N 4), .int .u32 (N 5), .bool (decide (N 6 = 1)), .bool (decide (N 7 = 1)), .bool (decide (N 8 = 1)), .bool (decide (N 9 = 1)), .int .i64 (N 10), .slice A n c, .slice B m d]] w fun r w' => r = .returned (.bool true) ∧ Fine w w' := by
  have HNL := Lib.hid hn; clear hn
  have HML := Lib.hid hm; clear hm
  have H1 := Lib.hid h1; clear h1
  have H2 := Lib.hid h2; clear h2
  have HT := Lib.hid hT; clear hT
  go_enter Tryd.func6, Tryd.ntmps6
  go_wp2_with fail
  have b1 : Blk (w.alloc (.cells #[.int .i64 (N 0), .int .i64 (N 1), .int .i64 (N 2), .int .i64 (N 3), .int .u32 (N 4), .int .u32 (N 5), .bool (decide (N 6 = 1)), .bool (decide (N 7 = 1)), .bool (decide (N 8 = 1)), .bool (decide (N 9 = 1)), .int .i64 (N 10), .slice A n c, .slice B m d] 26)) w.heap.size 26 #[.int .i64 (N 0), .int .i64 (N 1), .int .i64 (N 2), .int .i64 (N 3), .int .u32 (N 4), .int .u32 (N 5), .bool (decide (N 6 = 1)), .bool (decide (N 7 = 1)), .bool (decide (N 8 = 1)), .bool (decide (N 9 = 1)), .int .i64 (N 10), .slice A n c, .slice B m d] := Blk.new w 26 _
  have f1 : Fine w (w.alloc (.cells #[.int .i64 (N 0), .int .i64 (N 1), .int .i64 (N 2), .int .i64 (N 3), .int .u32 (N 4), .int .u32 (N 5), .bool (decide (N 6 = 1)), .bool (decide (N 7 = 1)), .bool (decide (N 8 = 1)), .bool (decide (N 9 = 1)), .int .i64 (N 10), .slice A n c, .slice B m d] 26)) := (Fine.refl w).alloc _
  generalize (w.alloc (.cells #[.int .i64 (N 0), .int .i64 (N 1), .int .i64 (N 2), .int .i64 (N 3), .int .u32 (N 4), .int .u32 (N 5), .bool (decide (N 6 = 1)), .bool (decide (N 7 = 1)), .bool (decide (N 8 = 1)), .bool (decide (N 9 = 1)), .int .i64 (N 10), .slice A n c, .slice B m d] 26)) = w1 at b1 f1 ⊢
  generalize w.heap.size = x1 at b1 ⊢
  refine (wakes_any w1 (HT.out.fine f1)).mono ?_
  rintro x w2 ⟨rfl, f⟩
  have B1 := Lib.hid (b1.fine f); have f2 := f1.trans f
  clear b1 f1 f
  have a0 : w2.cell? ⟨x1, 0, none⟩ = some (.int .i64 (N 0)) := B1.out.cell 0
  have a1 : w2.cell? ⟨x1, 1, none⟩ = some (.int .i64 (N 1)) := B1.out.cell 1
  have a2 : w2.cell? ⟨x1, 2, none⟩ = some (.int .i64 (N 2)) := B1.out.cell 2
  have a3 : w2.cell? ⟨x1, 3, none⟩ = some (.int .i64 (N 3)) := B1.out.cell 3
  have a4 : w2.cell? ⟨x1, 4, none⟩ = some (.int .u32 (N 4)) := B1.out.cell 4
  have a5 : w2.cell? ⟨x1, 5, none⟩ = some (.int .u32 (N 5)) := B1.out.cell 5
  have a6 : w2.cell? ⟨x1, 6, none⟩ = some (.bool (decide (N 6 = 1))) := B1.out.cell 6
  have a7 : w2.cell? ⟨x1, 7, none⟩ = some (.bool (decide (N 7 = 1))) := B1.out.cell 7
  have a8 : w2.cell? ⟨x1, 8, none⟩ = some (.bool (decide (N 8 = 1))) := B1.out.cell 8
  have a9 : w2.cell? ⟨x1, 9, none⟩ = some (.bool (decide (N 9 = 1))) := B1.out.cell 9
  have a10 : w2.cell? ⟨x1, 10, none⟩ = some (.int .i64 (N 10)) := B1.out.cell 10
  have a11 : w2.cell? ⟨x1, 11, none⟩ = some (.slice A n c) := B1.out.cell 11
  have a12 : w2.cell? ⟨x1, 12, none⟩ = some (.slice B m d) := B1.out.cell 12
  go_wp2_with fail
  refine (long_any N A B n c m d w2).mono ?_
  rintro x w3 ⟨rfl, f⟩
  clear a0 a1 a2 a3 a4 a5 a6 a7 a8 a9 a10 a11 a12
  have B1 := Lib.hid (B1.out.fine f); have f3 := f2.trans f
  clear f2 f
  obtain ⟨p, hp⟩ : ∃ p, (decide (50 < n) || decide (200 < m)) = p := ⟨_, rfl⟩
  rw [hp]
  have HP := Lib.hid hp; clear hp
  cases p
  · have hs1 : n ≤ 50 ∧ m ≤ 200 := by have := HP.out; simp at this; omega
    have HS1 := Lib.hid hs1; clear hs1
    have a0 : w3.cell? ⟨x1, 0, none⟩ = some (.int .i64 (N 0)) := B1.out.cell 0
    have a1 : w3.cell? ⟨x1, 1, none⟩ = some (.int .i64 (N 1)) := B1.out.cell 1
    have a2 : w3.cell? ⟨x1, 2, none⟩ = some (.int .i64 (N 2)) := B1.out.cell 2
    have a3 : w3.cell? ⟨x1, 3, none⟩ = some (.int .i64 (N 3)) := B1.out.cell 3
    have a4 : w3.cell? ⟨x1, 4, none⟩ = some (.int .u32 (N 4)) := B1.out.cell 4
    have a5 : w3.cell? ⟨x1, 5, none⟩ = some (.int .u32 (N 5)) := B1.out.cell 5
    have a6 : w3.cell? ⟨x1, 6, none⟩ = some (.bool (decide (N 6 = 1))) := B1.out.cell 6
    have a7 : w3.cell? ⟨x1, 7, none⟩ = some (.bool (decide (N 7 = 1))) := B1.out.cell 7
    have a8 : w3.cell? ⟨x1, 8, none⟩ = some (.bool (decide (N 8 = 1))) := B1.out.cell 8
    have a9 : w3.cell? ⟨x1, 9, none⟩ = some (.bool (decide (N 9 = 1))) := B1.out.cell 9
    have a10 : w3.cell? ⟨x1, 10, none⟩ = some (.int .i64 (N 10)) := B1.out.cell 10
    have a11 : w3.cell? ⟨x1, 11, none⟩ = some (.slice A n c) := B1.out.cell 11
    have a12 : w3.cell? ⟨x1, 12, none⟩ = some (.slice B m d) := B1.out.cell 12
    go_wp2_with fail
    refine (segPut_any N A B n c m d l xs HNL.out HML.out (by have := HNL.out; have := HS1.out; omega) hN hV w3 (HT.out.fine f3) (H1.out.fine f3) (H2.out.fine f3)).mono ?_
    clear a0 a1 a2 a3 a4 a5 a6 a7 a8 a9 a10 a11 a12
    rintro x w4 ⟨f, hput⟩
    have B1 := Lib.hid (B1.out.fine f); have f4 := f3.trans f
    clear f3 f
    obtain ⟨vb, eb, hput2⟩ : ∃ vb eb, x = .returned (.tuple #[vb, .int .i64 eb]) ∧ ((segRightB N l xs = true ∧ eb = 0 ∧ OwnB w4 w3.heap.size vb (putOf (segB N l xs))) ∨ (segRightB N l xs = false ∧ eb = 1 ∧ vb = .slice none 0 0)) := by
      rcases hput with ⟨hr, v, e, o⟩ | ⟨hr, e⟩
      · exact ⟨v, 0, e, .inl ⟨hr, rfl, o⟩⟩
      · exact ⟨_, 1, e, .inr ⟨hr, rfl, rfl⟩⟩
    obtain ⟨rfl, hput2⟩ := hput2
    have HPU := Lib.hid hput2; clear hput hput2
    obtain ⟨u, hu⟩ : ∃ u, (if decide (N 6 = 1) then (1 : Int) else 0) = u := ⟨_, rfl⟩
    obtain ⟨v, hv⟩ : ∃ v, (if decide (N 8 = 1) then (1 : Int) else 0) = v := ⟨_, rfl⟩
    obtain ⟨s1, hs1⟩ : ∃ s, (m : Int) + u = s := ⟨_, rfl⟩
    obtain ⟨s2, hs2⟩ : ∃ s, s1 + v = s := ⟨_, rfl⟩
    have HU := Lib.hid hu; have HV := Lib.hid hv; have HS := Lib.hid hs1; have HS2 := Lib.hid hs2
    have hm2 : (m : Int) ≤ 200 := by have := HS1.out; omega
    clear hu hv hs1 hs2
    have a0 : w4.cell? ⟨x1, 0, none⟩ = some (.int .i64 (N 0)) := B1.out.cell 0
    have a1 : w4.cell? ⟨x1, 1, none⟩ = some (.int .i64 (N 1)) := B1.out.cell 1
    have a2 : w4.cell? ⟨x1, 2, none⟩ = some (.int .i64 (N 2)) := B1.out.cell 2
    have a3 : w4.cell? ⟨x1, 3, none⟩ = some (.int .i64 (N 3)) := B1.out.cell 3
    have a4 : w4.cell? ⟨x1, 4, none⟩ = some (.int .u32 (N 4)) := B1.out.cell 4
    have a5 : w4.cell? ⟨x1, 5, none⟩ = some (.int .u32 (N 5)) := B1.out.cell 5
    have a6 : w4.cell? ⟨x1, 6, none⟩ = some (.bool (decide (N 6 = 1))) := B1.out.cell 6
    have a7 : w4.cell? ⟨x1, 7, none⟩ = some (.bool (decide (N 7 = 1))) := B1.out.cell 7
    have a8 : w4.cell? ⟨x1, 8, none⟩ = some (.bool (decide (N 8 = 1))) := B1.out.cell 8
    have a9 : w4.cell? ⟨x1, 9, none⟩ = some (.bool (decide (N 9 = 1))) := B1.out.cell 9
    have a10 : w4.cell? ⟨x1, 10, none⟩ = some (.int .i64 (N 10)) := B1.out.cell 10
    have a11 : w4.cell? ⟨x1, 11, none⟩ = some (.slice A n c) := B1.out.cell 11
    have a12 : w4.cell? ⟨x1, 12, none⟩ = some (.slice B m d) := B1.out.cell 12
    go_upto_if 21 with (fail)
    go_cut [5] (fun s5 wx => s5 = .int .i64 s1 ∧ wx = w4)
    case first =>
      have hu := HU.out
      have hs := HS.out
      clear a0 a1 a2 a3 a4 a5 a6 a7 a8 a9 a10 a11 a12 B1
      by_cases h6 : N 6 = 1
      · have hs' : s1 = (m : Int) + 1 := by simp [h6] at hu; omega
        clear hu hs
        go_wp2_with fail
        go_meet
        exact ⟨by rw [hs'], rfl⟩
      · have hs' : s1 = (m : Int) := by simp [h6] at hu; omega
        clear hu hs
        go_wp2_with fail
        go_meet
        exact ⟨by rw [hs'], rfl⟩
    case rest =>
      obtain ⟨rfl, rfl⟩ := hcut
      have a0 : wc.cell? ⟨x1, 0, none⟩ = some (.int .i64 (N 0)) := B1.out.cell 0
      have a1 : wc.cell? ⟨x1, 1, none⟩ = some (.int .i64 (N 1)) := B1.out.cell 1
      have a2 : wc.cell? ⟨x1, 2, none⟩ = some (.int .i64 (N 2)) := B1.out.cell 2
      have a3 : wc.cell? ⟨x1, 3, none⟩ = some (.int .i64 (N 3)) := B1.out.cell 3
      have a4 : wc.cell? ⟨x1, 4, none⟩ = some (.int .u32 (N 4)) := B1.out.cell 4
      have a5 : wc.cell? ⟨x1, 5, none⟩ = some (.int .u32 (N 5)) := B1.out.cell 5
      have a6 : wc.cell? ⟨x1, 6, none⟩ = some (.bool (decide (N 6 = 1))) := B1.out.cell 6
      have a7 : wc.cell? ⟨x1, 7, none⟩ = some (.bool (decide (N 7 = 1))) := B1.out.cell 7
      have a8 : wc.cell? ⟨x1, 8, none⟩ = some (.bool (decide (N 8 = 1))) := B1.out.cell 8
      have a9 : wc.cell? ⟨x1, 9, none⟩ = some (.bool (decide (N 9 = 1))) := B1.out.cell 9
      have a10 : wc.cell? ⟨x1, 10, none⟩ = some (.int .i64 (N 10)) := B1.out.cell 10
      have a11 : wc.cell? ⟨x1, 11, none⟩ = some (.slice A n c) := B1.out.cell 11
      have a12 : wc.cell? ⟨x1, 12, none⟩ = some (.slice B m d) := B1.out.cell 12
      go_upto_if 25 with (fail)
      go_cut [5] (fun s5 wx => s5 = .int .i64 s2 ∧ wx = wc)
      case first =>
        have hu := HV.out
        have hs := HS2.out
        have hs0 := HS.out
        have hu0 : u = 0 ∨ u = 1 := by rw [← HU.out]; split <;> simp
        clear a0 a1 a2 a3 a4 a5 a6 a7 a8 a9 a10 a11 a12 B1
        by_cases h8 : N 8 = 1
        · have hs' : s2 = s1 + 1 := by simp [h8] at hu; omega
          have hb : 0 ≤ s1 ∧ s1 ≤ 1000 := by omega
          clear hu hs hs0 hu0
          go_wp2_with fail
          go_meet
          exact ⟨by rw [hs'], rfl⟩
        · have hs' : s2 = s1 := by simp [h8] at hu; omega
          clear hu hs hs0 hu0
          go_wp2_with fail
          go_meet
          exact ⟨by rw [hs'], rfl⟩
      case rest =>
        obtain ⟨rfl, rfl⟩ := hcut
        have a0 : wc.cell? ⟨x1, 0, none⟩ = some (.int .i64 (N 0)) := B1.out.cell 0
        have a1 : wc.cell? ⟨x1, 1, none⟩ = some (.int .i64 (N 1)) := B1.out.cell 1
        have a2 : wc.cell? ⟨x1, 2, none⟩ = some (.int .i64 (N 2)) := B1.out.cell 2
        have a3 : wc.cell? ⟨x1, 3, none⟩ = some (.int .i64 (N 3)) := B1.out.cell 3
        have a4 : wc.cell? ⟨x1, 4, none⟩ = some (.int .u32 (N 4)) := B1.out.cell 4
        have a5 : wc.cell? ⟨x1, 5, none⟩ = some (.int .u32 (N 5)) := B1.out.cell 5
        have a6 : wc.cell? ⟨x1, 6, none⟩ = some (.bool (decide (N 6 = 1))) := B1.out.cell 6
        have a7 : wc.cell? ⟨x1, 7, none⟩ = some (.bool (decide (N 7 = 1))) := B1.out.cell 7
        have a8 : wc.cell? ⟨x1, 8, none⟩ = some (.bool (decide (N 8 = 1))) := B1.out.cell 8
        have a9 : wc.cell? ⟨x1, 9, none⟩ = some (.bool (decide (N 9 = 1))) := B1.out.cell 9
        have a10 : wc.cell? ⟨x1, 10, none⟩ = some (.int .i64 (N 10)) := B1.out.cell 10
        have a11 : wc.cell? ⟨x1, 11, none⟩ = some (.slice A n c) := B1.out.cell 11
        have a12 : wc.cell? ⟨x1, 12, none⟩ = some (.slice B m d) := B1.out.cell 12
        go_wp2_with fail
        refine (slong_any N _ _ _ _ u v s1 s2 HU.out HV.out A B n m c d (by have := HS1.out; omega) HS.out HS2.out wc).mono ?_
        rintro x w5 ⟨rfl, f⟩
        clear a0 a1 a2 a3 a4 a5 a6 a7 a8 a9 a10 a11 a12
        have B1 := Lib.hid (B1.out.fine f); have f5 := f4.trans f
        have HPU : Hid ((segRightB N l xs = true ∧ eb = 0 ∧ OwnB w5 w3.heap.size vb (putOf (segB N l xs))) ∨ (segRightB N l xs = false ∧ eb = 1 ∧ vb = .slice none 0 0)) := Lib.hid (by
          rcases HPU.out with ⟨h1, h2, h3⟩ | h
          · exact .inl ⟨h1, h2, h3.fine f⟩
          · exact .inr h)
        clear f4 f
        have a0 : w5.cell? ⟨x1, 0, none⟩ = some (.int .i64 (N 0)) := B1.out.cell 0
        have a1 : w5.cell? ⟨x1, 1, none⟩ = some (.int .i64 (N 1)) := B1.out.cell 1
        have a2 : w5.cell? ⟨x1, 2, none⟩ = some (.int .i64 (N 2)) := B1.out.cell 2
        have a3 : w5.cell? ⟨x1, 3, none⟩ = some (.int .i64 (N 3)) := B1.out.cell 3
        have a4 : w5.cell? ⟨x1, 4, none⟩ = some (.int .u32 (N 4)) := B1.out.cell 4
        have a5 : w5.cell? ⟨x1, 5, none⟩ = some (.int .u32 (N 5)) := B1.out.cell 5
        have a6 : w5.cell? ⟨x1, 6, none⟩ = some (.bool (decide (N 6 = 1))) := B1.out.cell 6
        have a7 : w5.cell? ⟨x1, 7, none⟩ = some (.bool (decide (N 7 = 1))) := B1.out.cell 7
        have a8 : w5.cell? ⟨x1, 8, none⟩ = some (.bool (decide (N 8 = 1))) := B1.out.cell 8
        have a9 : w5.cell? ⟨x1, 9, none⟩ = some (.bool (decide (N 9 = 1))) := B1.out.cell 9
        have a10 : w5.cell? ⟨x1, 10, none⟩ = some (.int .i64 (N 10)) := B1.out.cell 10
        have a11 : w5.cell? ⟨x1, 11, none⟩ = some (.slice A n c) := B1.out.cell 11
        have a12 : w5.cell? ⟨x1, 12, none⟩ = some (.slice B m d) := B1.out.cell 12
        go_wp2_with fail
        refine (rright_any N A B n m c d w5 l xs HNL.out HML.out hV (H1.out.fine f5)).mono ?_
        rintro x w6 ⟨rfl, f⟩
        clear a0 a1 a2 a3 a4 a5 a6 a7 a8 a9 a10 a11 a12
        have B1 := Lib.hid (B1.out.fine f); have f6 := f5.trans f
        rcases HPU.out with ⟨hr, rfl, o⟩ | ⟨hr, rfl, rfl⟩
        · have o6 := o.fine f
          have HR := Lib.hid hr
          rw [hr]
          obtain ⟨A2, c2, rfl, b2, _⟩ := o6.form
          obtain ⟨k2, hk2⟩ : ∃ k, (putOf (segB N l xs)).length = k := ⟨_, rfl⟩
          rw [hk2]
          have HK2 := Lib.hid hk2
          have HB2 := Lib.hid b2
          clear o o6 hk2 b2 hr HPU f f5
          go_wp2_with fail
          refine (getGood_any N A2 k2 c2 n m l xs HNL.out HML.out hN hV H2.out.1 HR.out w6 (HT.out.fine f6) HB2.out HK2.out.symm).mono ?_
          rintro x w7 ⟨A7, c7, B7, d7, rfl, r7, d7', f⟩
          have B1 := Lib.hid (B1.out.fine f); have f7 := f6.trans f
          have HB2 := Lib.hid (HB2.out.fine f)
          have HR7 := Lib.hid r7; have HD7 := Lib.hid d7'
          clear r7 d7' f6 f
          go_upto_region 16 with (fail)
          have b8 : Blk (w7.alloc (.cells #[.int .i64 (N 0), .int .i64 (N 1), .int .i64 (N 2), .int .i64 (N 3), .int .u32 (N 4), .int .u32 (N 5), .bool (decide (N 6 = 1)), .bool (decide (N 7 = 1)), .bool (decide (N 8 = 1)), .bool (decide (N 9 = 1)), .int .i64 (N 10), .slice A7 n c7, .slice B7 m d7] 26)) w7.heap.size 26 #[.int .i64 (N 0), .int .i64 (N 1), .int .i64 (N 2), .int .i64 (N 3), .int .u32 (N 4), .int .u32 (N 5), .bool (decide (N 6 = 1)), .bool (decide (N 7 = 1)), .bool (decide (N 8 = 1)), .bool (decide (N 9 = 1)), .int .i64 (N 10), .slice A7 n c7, .slice B7 m d7] := Blk.new w7 26 _
          have f : Fine w7 (w7.alloc (.cells #[.int .i64 (N 0), .int .i64 (N 1), .int .i64 (N 2), .int .i64 (N 3), .int .u32 (N 4), .int .u32 (N 5), .bool (decide (N 6 = 1)), .bool (decide (N 7 = 1)), .bool (decide (N 8 = 1)), .bool (decide (N 9 = 1)), .int .i64 (N 10), .slice A7 n c7, .slice B7 m d7] 26)) := (Fine.refl w7).alloc _
          generalize (w7.alloc (.cells #[.int .i64 (N 0), .int .i64 (N 1), .int .i64 (N 2), .int .i64 (N 3), .int .u32 (N 4), .int .u32 (N 5), .bool (decide (N 6 = 1)), .bool (decide (N 7 = 1)), .bool (decide (N 8 = 1)), .bool (decide (N 9 = 1)), .int .i64 (N 10), .slice A7 n c7, .slice B7 m d7] 26)) = w8 at b8 f ⊢
          generalize w7.heap.size = x8 at b8 ⊢
          have B1 := Lib.hid (B1.out.fine f); have f8 := f7.trans f
          have B8 := Lib.hid b8
          have HB2 := Lib.hid (HB2.out.fine f); have HR7 := Lib.hid (HR7.out.fine f); have HD7 := Lib.hid (HD7.out.fine f)
          clear b8 f7 f
          have a0 : w8.cell? ⟨x1, 0, none⟩ = some (.int .i64 (N 0)) := B1.out.cell 0
          have a1 : w8.cell? ⟨x1, 1, none⟩ = some (.int .i64 (N 1)) := B1.out.cell 1
          have a2 : w8.cell? ⟨x1, 2, none⟩ = some (.int .i64 (N 2)) := B1.out.cell 2
          have a3 : w8.cell? ⟨x1, 3, none⟩ = some (.int .i64 (N 3)) := B1.out.cell 3
          have a4 : w8.cell? ⟨x1, 4, none⟩ = some (.int .u32 (N 4)) := B1.out.cell 4
          have a5 : w8.cell? ⟨x1, 5, none⟩ = some (.int .u32 (N 5)) := B1.out.cell 5
          have a6 : w8.cell? ⟨x1, 6, none⟩ = some (.bool (decide (N 6 = 1))) := B1.out.cell 6
          have a7 : w8.cell? ⟨x1, 7, none⟩ = some (.bool (decide (N 7 = 1))) := B1.out.cell 7
          have a8 : w8.cell? ⟨x1, 8, none⟩ = some (.bool (decide (N 8 = 1))) := B1.out.cell 8
          have a9 : w8.cell? ⟨x1, 9, none⟩ = some (.bool (decide (N 9 = 1))) := B1.out.cell 9
          have a10 : w8.cell? ⟨x1, 10, none⟩ = some (.int .i64 (N 10)) := B1.out.cell 10
          have a11 : w8.cell? ⟨x1, 11, none⟩ = some (.slice A n c) := B1.out.cell 11
          have a12 : w8.cell? ⟨x1, 12, none⟩ = some (.slice B m d) := B1.out.cell 12
          go_wp2_with fail
          refine (segRight_any N A B n c m d l xs HNL.out HML.out hV w8 (H1.out.fine f8)).mono ?_
          rintro x w9 ⟨rfl, f⟩
          rw [HR.out]
          clear a0 a1 a2 a3 a4 a5 a6 a7 a8 a9 a10 a11 a12
          have B1 := Lib.hid (B1.out.fine f); have f9 := f8.trans f
          have B8 := Lib.hid (B8.out.fine f)
          have HB2 := Lib.hid (HB2.out.fine f); have HR7 := Lib.hid (HR7.out.fine f); have HD7 := Lib.hid (HD7.out.fine f)
          clear f8 f
          have a0 : w9.cell? ⟨x1, 0, none⟩ = some (.int .i64 (N 0)) := B1.out.cell 0
          have a1 : w9.cell? ⟨x1, 1, none⟩ = some (.int .i64 (N 1)) := B1.out.cell 1
          have a2 : w9.cell? ⟨x1, 2, none⟩ = some (.int .i64 (N 2)) := B1.out.cell 2
          have a3 : w9.cell? ⟨x1, 3, none⟩ = some (.int .i64 (N 3)) := B1.out.cell 3
          have a4 : w9.cell? ⟨x1, 4, none⟩ = some (.int .u32 (N 4)) := B1.out.cell 4
          have a5 : w9.cell? ⟨x1, 5, none⟩ = some (.int .u32 (N 5)) := B1.out.cell 5
          have a6 : w9.cell? ⟨x1, 6, none⟩ = some (.bool (decide (N 6 = 1))) := B1.out.cell 6
          have a7 : w9.cell? ⟨x1, 7, none⟩ = some (.bool (decide (N 7 = 1))) := B1.out.cell 7
          have a8 : w9.cell? ⟨x1, 8, none⟩ = some (.bool (decide (N 8 = 1))) := B1.out.cell 8
          have a9 : w9.cell? ⟨x1, 9, none⟩ = some (.bool (decide (N 9 = 1))) := B1.out.cell 9
          have a10 : w9.cell? ⟨x1, 10, none⟩ = some (.int .i64 (N 10)) := B1.out.cell 10
          have a11 : w9.cell? ⟨x1, 11, none⟩ = some (.slice A n c) := B1.out.cell 11
          have a12 : w9.cell? ⟨x1, 12, none⟩ = some (.slice B m d) := B1.out.cell 12
          go_wp2_with fail
          refine (rbytes_any N A B n m c d l xs HNL.out HML.out hN HR.out hV w9 (H1.out.fine f9) (H2.out.fine f9)).mono ?_
          rintro x w10 ⟨v10, rfl, o10, f⟩
          obtain ⟨A10, c10, rfl, b10, _⟩ := o10.form
          clear a0 a1 a2 a3 a4 a5 a6 a7 a8 a9 a10 a11 a12
          have B1 := Lib.hid (B1.out.fine f); have f10 := f9.trans f
          have B8 := Lib.hid (B8.out.fine f)
          have HB2 := Lib.hid (HB2.out.fine f); have HR7 := Lib.hid (HR7.out.fine f); have HD7 := Lib.hid (HD7.out.fine f)
          have HB10 := Lib.hid b10
          rw [HK2.out]
          clear f9 f o10 b10
          go_wp2_with fail
          refine (same_n A2 A10 k2 k2 c2 c10 _ _ w10 HB2.out HB10.out HK2.out.symm HK2.out.symm (by have := (put_len HR.out).2; omega)).mono ?_
          rintro x w11 ⟨rfl, f⟩
          rw [decide_eq_true rfl]
          have B1 := Lib.hid (B1.out.fine f); have f11 := f10.trans f
          have B8 := Lib.hid (B8.out.fine f)
          have HR7 := Lib.hid (HR7.out.fine f); have HD7 := Lib.hid (HD7.out.fine f)
          clear f10 f HB2 HB10
          have a0 : w11.cell? ⟨x1, 0, none⟩ = some (.int .i64 (N 0)) := B1.out.cell 0
          have a1 : w11.cell? ⟨x1, 1, none⟩ = some (.int .i64 (N 1)) := B1.out.cell 1
          have a2 : w11.cell? ⟨x1, 2, none⟩ = some (.int .i64 (N 2)) := B1.out.cell 2
          have a3 : w11.cell? ⟨x1, 3, none⟩ = some (.int .i64 (N 3)) := B1.out.cell 3
          have a4 : w11.cell? ⟨x1, 4, none⟩ = some (.int .u32 (N 4)) := B1.out.cell 4
          have a5 : w11.cell? ⟨x1, 5, none⟩ = some (.int .u32 (N 5)) := B1.out.cell 5
          have a6 : w11.cell? ⟨x1, 6, none⟩ = some (.bool (decide (N 6 = 1))) := B1.out.cell 6
          have a7 : w11.cell? ⟨x1, 7, none⟩ = some (.bool (decide (N 7 = 1))) := B1.out.cell 7
          have a8 : w11.cell? ⟨x1, 8, none⟩ = some (.bool (decide (N 8 = 1))) := B1.out.cell 8
          have a9 : w11.cell? ⟨x1, 9, none⟩ = some (.bool (decide (N 9 = 1))) := B1.out.cell 9
          have a10 : w11.cell? ⟨x1, 10, none⟩ = some (.int .i64 (N 10)) := B1.out.cell 10
          have a11 : w11.cell? ⟨x1, 11, none⟩ = some (.slice A n c) := B1.out.cell 11
          have a12 : w11.cell? ⟨x1, 12, none⟩ = some (.slice B m d) := B1.out.cell 12
          have g0 : w11.cell? ⟨x8, 0, none⟩ = some (.int .i64 (N 0)) := B8.out.cell 0
          have g1 : w11.cell? ⟨x8, 1, none⟩ = some (.int .i64 (N 1)) := B8.out.cell 1
          have g2 : w11.cell? ⟨x8, 2, none⟩ = some (.int .i64 (N 2)) := B8.out.cell 2
          have g3 : w11.cell? ⟨x8, 3, none⟩ = some (.int .i64 (N 3)) := B8.out.cell 3
          have g4 : w11.cell? ⟨x8, 4, none⟩ = some (.int .u32 (N 4)) := B8.out.cell 4
          have g5 : w11.cell? ⟨x8, 5, none⟩ = some (.int .u32 (N 5)) := B8.out.cell 5
          have g6 : w11.cell? ⟨x8, 6, none⟩ = some (.bool (decide (N 6 = 1))) := B8.out.cell 6
          have g7 : w11.cell? ⟨x8, 7, none⟩ = some (.bool (decide (N 7 = 1))) := B8.out.cell 7
          have g8 : w11.cell? ⟨x8, 8, none⟩ = some (.bool (decide (N 8 = 1))) := B8.out.cell 8
          have g9 : w11.cell? ⟨x8, 9, none⟩ = some (.bool (decide (N 9 = 1))) := B8.out.cell 9
          have g10 : w11.cell? ⟨x8, 10, none⟩ = some (.int .i64 (N 10)) := B8.out.cell 10
          have g11 : w11.cell? ⟨x8, 11, none⟩ = some (.slice A7 n c7) := B8.out.cell 11
          have g12 : w11.cell? ⟨x8, 12, none⟩ = some (.slice B7 m d7) := B8.out.cell 12
          go_wp2_with fail
          refine (rsame_seg N N A7 B7 A B n n m m c7 d7 c d w11 l l xs xs HNL.out HNL.out HML.out HML.out (by have := HNL.out; have := HS1.out; omega) (by have := HML.out; have := HS1.out; omega) HR7.out (H1.out.fine f11) HD7.out (H2.out.fine f11)).mono ?_
          rintro x w12 ⟨rfl, f⟩
          rw [sameS_self]
          clear a0 a1 a2 a3 a4 a5 a6 a7 a8 a9 a10 a11 a12
          clear g0 g1 g2 g3 g4 g5 g6 g7 g8 g9 g10 g11 g12
          have B1 := Lib.hid (B1.out.fine f); have f12 := f11.trans f
          have B8 := Lib.hid (B8.out.fine f)
          have HR7 := Lib.hid (HR7.out.fine f); have HD7 := Lib.hid (HD7.out.fine f)
          clear f11 f
          have a0 : w12.cell? ⟨x1, 0, none⟩ = some (.int .i64 (N 0)) := B1.out.cell 0
          have a1 : w12.cell? ⟨x1, 1, none⟩ = some (.int .i64 (N 1)) := B1.out.cell 1
          have a2 : w12.cell? ⟨x1, 2, none⟩ = some (.int .i64 (N 2)) := B1.out.cell 2
          have a3 : w12.cell? ⟨x1, 3, none⟩ = some (.int .i64 (N 3)) := B1.out.cell 3
          have a4 : w12.cell? ⟨x1, 4, none⟩ = some (.int .u32 (N 4)) := B1.out.cell 4
          have a5 : w12.cell? ⟨x1, 5, none⟩ = some (.int .u32 (N 5)) := B1.out.cell 5
          have a6 : w12.cell? ⟨x1, 6, none⟩ = some (.bool (decide (N 6 = 1))) := B1.out.cell 6
          have a7 : w12.cell? ⟨x1, 7, none⟩ = some (.bool (decide (N 7 = 1))) := B1.out.cell 7
          have a8 : w12.cell? ⟨x1, 8, none⟩ = some (.bool (decide (N 8 = 1))) := B1.out.cell 8
          have a9 : w12.cell? ⟨x1, 9, none⟩ = some (.bool (decide (N 9 = 1))) := B1.out.cell 9
          have a10 : w12.cell? ⟨x1, 10, none⟩ = some (.int .i64 (N 10)) := B1.out.cell 10
          have a11 : w12.cell? ⟨x1, 11, none⟩ = some (.slice A n c) := B1.out.cell 11
          have a12 : w12.cell? ⟨x1, 12, none⟩ = some (.slice B m d) := B1.out.cell 12
          have g0 : w12.cell? ⟨x8, 0, none⟩ = some (.int .i64 (N 0)) := B8.out.cell 0
          have g1 : w12.cell? ⟨x8, 1, none⟩ = some (.int .i64 (N 1)) := B8.out.cell 1
          have g2 : w12.cell? ⟨x8, 2, none⟩ = some (.int .i64 (N 2)) := B8.out.cell 2
          have g3 : w12.cell? ⟨x8, 3, none⟩ = some (.int .i64 (N 3)) := B8.out.cell 3
          have g4 : w12.cell? ⟨x8, 4, none⟩ = some (.int .u32 (N 4)) := B8.out.cell 4
          have g5 : w12.cell? ⟨x8, 5, none⟩ = some (.int .u32 (N 5)) := B8.out.cell 5
          have g6 : w12.cell? ⟨x8, 6, none⟩ = some (.bool (decide (N 6 = 1))) := B8.out.cell 6
          have g7 : w12.cell? ⟨x8, 7, none⟩ = some (.bool (decide (N 7 = 1))) := B8.out.cell 7
          have g8 : w12.cell? ⟨x8, 8, none⟩ = some (.bool (decide (N 8 = 1))) := B8.out.cell 8
          have g9 : w12.cell? ⟨x8, 9, none⟩ = some (.bool (decide (N 9 = 1))) := B8.out.cell 9
          have g10 : w12.cell? ⟨x8, 10, none⟩ = some (.int .i64 (N 10)) := B8.out.cell 10
          have g11 : w12.cell? ⟨x8, 11, none⟩ = some (.slice A7 n c7) := B8.out.cell 11
          have g12 : w12.cell? ⟨x8, 12, none⟩ = some (.slice B7 m d7) := B8.out.cell 12
          go_wp2_with fail
          refine (same_seg N N A7 B7 A B n n m m c7 d7 c d w12 l l xs xs HNL.out HNL.out HML.out HML.out (by have := HNL.out; have := HS1.out; omega) (by have := HNL.out; have := HS1.out; omega) HR7.out (H1.out.fine f12) HD7.out (H2.out.fine f12)).mono ?_
          rintro x w13 ⟨rfl, f⟩
          rw [sameS_self]
          have f13 := f12.trans f
          clear a0 a1 a2 a3 a4 a5 a6 a7 a8 a9 a10 a11 a12
          clear g0 g1 g2 g3 g4 g5 g6 g7 g8 g9 g10 g11 g12
          go_wp2_with fail
          go_ret
          exact ⟨rfl, f13⟩
        · rw [hr]
          have HR := Lib.hid hr
          clear hr HPU f5 f
          have a0 : w6.cell? ⟨x1, 0, none⟩ = some (.int .i64 (N 0)) := B1.out.cell 0
          have a1 : w6.cell? ⟨x1, 1, none⟩ = some (.int .i64 (N 1)) := B1.out.cell 1
          have a2 : w6.cell? ⟨x1, 2, none⟩ = some (.int .i64 (N 2)) := B1.out.cell 2
          have a3 : w6.cell? ⟨x1, 3, none⟩ = some (.int .i64 (N 3)) := B1.out.cell 3
          have a4 : w6.cell? ⟨x1, 4, none⟩ = some (.int .u32 (N 4)) := B1.out.cell 4
          have a5 : w6.cell? ⟨x1, 5, none⟩ = some (.int .u32 (N 5)) := B1.out.cell 5
          have a6 : w6.cell? ⟨x1, 6, none⟩ = some (.bool (decide (N 6 = 1))) := B1.out.cell 6
          have a7 : w6.cell? ⟨x1, 7, none⟩ = some (.bool (decide (N 7 = 1))) := B1.out.cell 7
          have a8 : w6.cell? ⟨x1, 8, none⟩ = some (.bool (decide (N 8 = 1))) := B1.out.cell 8
          have a9 : w6.cell? ⟨x1, 9, none⟩ = some (.bool (decide (N 9 = 1))) := B1.out.cell 9
          have a10 : w6.cell? ⟨x1, 10, none⟩ = some (.int .i64 (N 10)) := B1.out.cell 10
          have a11 : w6.cell? ⟨x1, 11, none⟩ = some (.slice A n c) := B1.out.cell 11
          have a12 : w6.cell? ⟨x1, 12, none⟩ = some (.slice B m d) := B1.out.cell 12
          go_wp2_with fail
          refine (segRight_any N A B n c m d l xs HNL.out HML.out hV w6 (H1.out.fine f6)).mono ?_
          rintro x w7 ⟨rfl, f⟩
          rw [HR.out]
          have f7 := f6.trans f
          clear a0 a1 a2 a3 a4 a5 a6 a7 a8 a9 a10 a11 a12
          go_wp2_with fail
          go_ret
          exact ⟨rfl, f7⟩
  · go_wp2_with fail
    go_ret
    exact ⟨rfl, f3⟩
end Go.Proofs.YthnennleblgjeaaDoor
