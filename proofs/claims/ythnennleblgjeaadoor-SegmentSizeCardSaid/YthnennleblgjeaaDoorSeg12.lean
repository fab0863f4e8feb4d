/- The law SegmentSize. -/
import Derived.Test.YthnennleblgjeaaDoorSeg8
import Derived.Test.YthnennleblgjeaaDoorSeg11
import Derived.Test.YthnennleblgjeaaDoorSegOpen
namespace Go.Proofs.YthnennleblgjeaaDoor
open Go.ChangeShapes Go.WideShapes Go.ChangeAt Go.RowKit
set_option linter.unusedVariables false
set_option linter.unusedSimpArgs false
theorem optB_13 {V : Nat → Int} (h : rightF V = true) : (optB V).length ≤ 13 := by
  have hk := right_kind h
  have hs := optB_size hk
  have : sizeK (V 0) ≤ 13 := by
    have h12 : V 0 = 1 ∨ V 0 = 2 ∨ V 0 = 3 ∨ V 0 = 4 ∨ V 0 = 5 ∨ V 0 = 6 ∨ V 0 = 7 ∨ V 0 = 8 ∨ V 0 = 9 ∨ V 0 = 10 ∨ V 0 = 11 := by omega
    rcases h12 with e | e | e | e | e | e | e | e | e | e | e <;> rw [e] <;> decide
  omega
theorem flat13 : ∀ (l : List (Nat → Int)), (∀ V ∈ l, rightF V = true) → (l.flatMap optB).length ≤ 13 * l.length
  | [], _ => by simp
  | V :: l, h => by
    have h1 := flat13 l (fun U hU => h U (List.mem_cons_of_mem _ hU))
    have h2 := optB_13 (h V List.mem_cons_self)
    rw [List.flatMap_cons, List.length_append, List.length_cons]
    omega
theorem size_bd {N : Nat → Int} {l : List (Nat → Int)} {xs : List Int} (h : segRightB N l xs = true) : ((putOf (segB N l xs)).length : Int) % 2 = 0 ∧ 22 ≤ (putOf (segB N l xs)).length ∧ 21 + xs.length ≤ (putOf (segB N l xs)).length ∧ (putOf (segB N l xs)).length ≤ 82 := by
  have hh := segRight_iff.mp h
  have h1 := putOf_even (segB N l xs)
  have h2 := putOf_le (segB N l xs)
  have h3 : (segB N l xs).length = 19 + ((l.flatMap optB).length + xs.length) := segB_len
  have h4 := flat13 l hh.all
  have h5 := hh.opts
  have h6 := hh.data
  omega
theorem bare_right {N : Nat → Int} {l : List (Nat → Int)} {xs : List Int} (h : segRightB N l xs = true) : segRightB N [] [] = true := by
  have hh := segRight_iff.mp h
  exact segRight_iff.mpr ⟨hh.src, hh.dst, hh.sport, hh.dport, hh.win, by simp, by simp, fun V hV => by cases hV⟩
set_option maxHeartbeats 4000000 in
set_option maxRecDepth 100000 in
theorem segSize_any (N : Nat → Int) (A B : Option Addr) (n m c d : Nat) (w : World) (hT : TabW w) (l : List (Nat → Int)) (xs : List Int) (hn : n = l.length) (hm : m = xs.length) (hN : OkN N) (hV : ∀ V ∈ l, OkV V) (h1 : RS layO w A c l) (h2 : BS w B d xs) :
    Calls Tryd.prog 3 #[.agg #[.int .i64 (N 0), .int .i64 (N 1), .int .i64 (N 2), .int .i64 (N 3), .int .u32 (N 4), .int .u32 (N 5), .bool (decide (N 6 = 1)), .bool (decide (N 7 = 1)), .bool (decide (N 8 = 1)), .bool (decide (N 9 = 1)), .int .i64 (N 10), .slice A n c, .slice B m d]] w fun r w' => r = .returned (.bool true) ∧ Fine w w' := by
  have HNL := Lib.hid hn; clear hn
  have HML := Lib.hid hm; clear hm
  have H1 := Lib.hid h1; clear h1
  have H2 := Lib.hid h2; clear h2
  have HT := Lib.hid hT; clear hT
  go_enter Tryd.func3, Tryd.ntmps3
  go_wp2_with fail
  have b1 : Blk (w.alloc (.cells #[.int .i64 (N 0), .int .i64 (N 1), .int .i64 (N 2), .int .i64 (N 3), .int .u32 (N 4), .int .u32 (N 5), .bool (decide (N 6 = 1)), .bool (decide (N 7 = 1)), .bool (decide (N 8 = 1)), .bool (decide (N 9 = 1)), .int .i64 (N 10), .slice A n c, .slice B m d] 26)) w.heap.size 26 #[.int .i64 (N 0), .int .i64 (N 1), .int .i64 (N 2), .int .i64 (N 3), .int .u32 (N 4), .int .u32 (N 5), .bool (decide (N 6 = 1)), .bool (decide (N 7 = 1)), .bool (decide (N 8 = 1)), .bool (decide (N 9 = 1)), .int .i64 (N 10), .slice A n c, .slice B m d] := Blk.new w 26 _
  have f1 : Fine w (w.alloc (.cells #[.int .i64 (N 0), .int .i64 (N 1), .int .i64 (N 2), .int .i64 (N 3), .int .u32 (N 4), .int .u32 (N 5), .bool (decide (N 6 = 1)), .bool (decide (N 7 = 1)), .bool (decide (N 8 = 1)), .bool (decide (N 9 = 1)), .int .i64 (N 10), .slice A n c, .slice B m d] 26)) := (Fine.refl w).alloc _
  generalize (w.alloc (.cells #[.int .i64 (N 0), .int .i64 (N 1), .int .i64 (N 2), .int .i64 (N 3), .int .u32 (N 4), .int .u32 (N 5), .bool (decide (N 6 = 1)), .bool (decide (N 7 = 1)), .bool (decide (N 8 = 1)), .bool (decide (N 9 = 1)), .int .i64 (N 10), .slice A n c, .slice B m d] 26)) = w1 at b1 f1 ⊢
  generalize w.heap.size = x1 at b1 ⊢
  refine (wakes_any w1 (HT.out.fine f1)).mono ?_
  rintro x w2 ⟨rfl, f⟩
  have B1 := Lib.hid (b1.fine f); have f2 := f1.trans f
  clear b1 f1 f
  have a0 : w2.cell? ⟨x1, 0, none⟩ = some (.int .i64 (N 0)) := B1.out.cell 0
  have a1 : w2.cell? ⟨x1, 1, none⟩ = some (.int .i64 (N 1)) := B1.out.cell 1
  have a2 : w2.cell? ⟨x1, 2, none⟩ = some (.int .i64 (N 2)) := B1.out.cell 2
  have a3 : w2.cell? ⟨x1, 3, none⟩ = some (.int .i64 (N 3)) := B1.out.cell 3
  have a4 : w2.cell? ⟨x1, 4, none⟩ = some (.int .u32 (N 4)) := B1.out.cell 4
  have a5 : w2.cell? ⟨x1, 5, none⟩ = some (.int .u32 (N 5)) := B1.out.cell 5
  have a6 : w2.cell? ⟨x1, 6, none⟩ = some (.bool (decide (N 6 = 1))) := B1.out.cell 6
  have a7 : w2.cell? ⟨x1, 7, none⟩ = some (.bool (decide (N 7 = 1))) := B1.out.cell 7
  have a8 : w2.cell? ⟨x1, 8, none⟩ = some (.bool (decide (N 8 = 1))) := B1.out.cell 8
  have a9 : w2.cell? ⟨x1, 9, none⟩ = some (.bool (decide (N 9 = 1))) := B1.out.cell 9
  have a10 : w2.cell? ⟨x1, 10, none⟩ = some (.int .i64 (N 10)) := B1.out.cell 10
  have a11 : w2.cell? ⟨x1, 11, none⟩ = some (.slice A n c) := B1.out.cell 11
  have a12 : w2.cell? ⟨x1, 12, none⟩ = some (.slice B m d) := B1.out.cell 12
  go_wp2_with fail
  refine (long_any N A B n c m d w2).mono ?_
  rintro x w3 ⟨rfl, f⟩
  clear a0 a1 a2 a3 a4 a5 a6 a7 a8 a9 a10 a11 a12
  have B1 := Lib.hid (B1.out.fine f); have f3 := f2.trans f
  clear f2 f
  obtain ⟨p, hp⟩ : ∃ p, (decide (50 < n) || decide (200 < m)) = p := ⟨_, rfl⟩
  rw [hp]
  have HP := Lib.hid hp; clear hp
  cases p
  · have hs1 : n ≤ 50 ∧ m ≤ 200 := by have := HP.out; simp at this; omega
    have HS1 := Lib.hid hs1; clear hs1
    have a0 : w3.cell? ⟨x1, 0, none⟩ = some (.int .i64 (N 0)) := B1.out.cell 0
    have a1 : w3.cell? ⟨x1, 1, none⟩ = some (.int .i64 (N 1)) := B1.out.cell 1
    have a2 : w3.cell? ⟨x1, 2, none⟩ = some (.int .i64 (N 2)) := B1.out.cell 2
    have a3 : w3.cell? ⟨x1, 3, none⟩ = some (.int .i64 (N 3)) := B1.out.cell 3
    have a4 : w3.cell? ⟨x1, 4, none⟩ = some (.int .u32 (N 4)) := B1.out.cell 4
    have a5 : w3.cell? ⟨x1, 5, none⟩ = some (.int .u32 (N 5)) := B1.out.cell 5
    have a6 : w3.cell? ⟨x1, 6, none⟩ = some (.bool (decide (N 6 = 1))) := B1.out.cell 6
    have a7 : w3.cell? ⟨x1, 7, none⟩ = some (.bool (decide (N 7 = 1))) := B1.out.cell 7
    have a8 : w3.cell? ⟨x1, 8, none⟩ = some (.bool (decide (N 8 = 1))) := B1.out.cell 8
    have a9 : w3.cell? ⟨x1, 9, none⟩ = some (.bool (decide (N 9 = 1))) := B1.out.cell 9
    have a10 : w3.cell? ⟨x1, 10, none⟩ = some (.int .i64 (N 10)) := B1.out.cell 10
    have a11 : w3.cell? ⟨x1, 11, none⟩ = some (.slice A n c) := B1.out.cell 11
    have a12 : w3.cell? ⟨x1, 12, none⟩ = some (.slice B m d) := B1.out.cell 12
    go_wp2_with fail
    refine (segPut_any N A B n c m d l xs HNL.out HML.out (by have := HNL.out; have := HS1.out; omega) hN hV w3 (HT.out.fine f3) (H1.out.fine f3) (H2.out.fine f3)).mono ?_
    clear a0 a1 a2 a3 a4 a5 a6 a7 a8 a9 a10 a11 a12
    rintro x w4 ⟨f, ⟨hr, v, rfl, o⟩ | ⟨hr, rfl⟩⟩
    · have B1 := Lib.hid (B1.out.fine f); have f4 := f3.trans f
      clear f3 f
      have hbd := size_bd hr
      obtain ⟨A3, c3, rfl, _, _⟩ := o.form
      obtain ⟨L, hL⟩ : ∃ L, (putOf (segB N l xs)).length = L := ⟨_, rfl⟩
      rw [hL] at hbd ⊢
      have HBD := Lib.hid hbd
      have HR := Lib.hid hr
      clear hbd hL o hr
      have a0 : w4.cell? ⟨x1, 0, none⟩ = some (.int .i64 (N 0)) := B1.out.cell 0
      have a1 : w4.cell? ⟨x1, 1, none⟩ = some (.int .i64 (N 1)) := B1.out.cell 1
      have a2 : w4.cell? ⟨x1, 2, none⟩ = some (.int .i64 (N 2)) := B1.out.cell 2
      have a3 : w4.cell? ⟨x1, 3, none⟩ = some (.int .i64 (N 3)) := B1.out.cell 3
      have a4 : w4.cell? ⟨x1, 4, none⟩ = some (.int .u32 (N 4)) := B1.out.cell 4
      have a5 : w4.cell? ⟨x1, 5, none⟩ = some (.int .u32 (N 5)) := B1.out.cell 5
      have a6 : w4.cell? ⟨x1, 6, none⟩ = some (.bool (decide (N 6 = 1))) := B1.out.cell 6
      have a7 : w4.cell? ⟨x1, 7, none⟩ = some (.bool (decide (N 7 = 1))) := B1.out.cell 7
      have a8 : w4.cell? ⟨x1, 8, none⟩ = some (.bool (decide (N 8 = 1))) := B1.out.cell 8
      have a9 : w4.cell? ⟨x1, 9, none⟩ = some (.bool (decide (N 9 = 1))) := B1.out.cell 9
      have a10 : w4.cell? ⟨x1, 10, none⟩ = some (.int .i64 (N 10)) := B1.out.cell 10
      have a11 : w4.cell? ⟨x1, 11, none⟩ = some (.slice A n c) := B1.out.cell 11
      have a12 : w4.cell? ⟨x1, 12, none⟩ = some (.slice B m d) := B1.out.cell 12
      go_wp2_with fail
      clear a0 a1 a2 a3 a4 a5 a6 a7 a8 a9 a10 a11 a12
      have fa : Fine w4 (w4.alloc (.cells #[.int .i64 (N 0), .int .i64 (N 1), .int .i64 (N 2), .int .i64 (N 3), .int .u32 (N 4), .int .u32 (N 5), .bool (decide (N 6 = 1)), .bool (decide (N 7 = 1)), .bool (decide (N 8 = 1)), .bool (decide (N 9 = 1)), .int .i64 (N 10), .slice none 0 0, .slice none 0 0] 26)) := (Fine.refl w4).alloc _
      have B1 := Lib.hid (B1.out.fine fa); have f5 := f4.trans fa
      refine (segPut_any N none none 0 0 0 0 [] [] rfl rfl (by simp) hN (fun V hV => by cases hV) _ (HT.out.fine f5) (RS.nil_ _ _) (BS.nil_ _)).mono ?_
      rintro x w6 ⟨f, ⟨_, v, rfl, o⟩ | ⟨hr0, _⟩⟩
      · have f6 := f5.trans f
        have c12 : w6.cell? ⟨x1, 12, none⟩ = some (.slice B m d) := (B1.out.fine f).cell 12
        obtain ⟨A4, c4, rfl, _, _⟩ := o.form
        rw [bare_len]
        have e1 : ((L : Int) % 2 == 0) = true := by have := HBD.out; simp; omega
        have e2 : (L : Int) ≥ 22 := by have := HBD.out; omega
        have e3 : (L : Int) ≥ 21 + (m : Int) := by have := HBD.out; have := HML.out; omega
        have e4 : (L : Int) ≤ 82 := by have := HBD.out; omega
        have e5 : (m : Int) ≤ 200 := by have := HS1.out; omega
        clear o fa f f5
        go_wp2_with fail
        all_goals go_ret
        all_goals exact ⟨rfl, f6⟩
      · exfalso
        rw [bare_right HR.out] at hr0
        cases hr0
    · have B1 := Lib.hid (B1.out.fine f); have f4 := f3.trans f
      clear f3 f
      have HR := Lib.hid hr; clear hr
      have a0 : w4.cell? ⟨x1, 0, none⟩ = some (.int .i64 (N 0)) := B1.out.cell 0
      have a1 : w4.cell? ⟨x1, 1, none⟩ = some (.int .i64 (N 1)) := B1.out.cell 1
      have a2 : w4.cell? ⟨x1, 2, none⟩ = some (.int .i64 (N 2)) := B1.out.cell 2
      have a3 : w4.cell? ⟨x1, 3, none⟩ = some (.int .i64 (N 3)) := B1.out.cell 3
      have a4 : w4.cell? ⟨x1, 4, none⟩ = some (.int .u32 (N 4)) := B1.out.cell 4
      have a5 : w4.cell? ⟨x1, 5, none⟩ = some (.int .u32 (N 5)) := B1.out.cell 5
      have a6 : w4.cell? ⟨x1, 6, none⟩ = some (.bool (decide (N 6 = 1))) := B1.out.cell 6
      have a7 : w4.cell? ⟨x1, 7, none⟩ = some (.bool (decide (N 7 = 1))) := B1.out.cell 7
      have a8 : w4.cell? ⟨x1, 8, none⟩ = some (.bool (decide (N 8 = 1))) := B1.out.cell 8
      have a9 : w4.cell? ⟨x1, 9, none⟩ = some (.bool (decide (N 9 = 1))) := B1.out.cell 9
      have a10 : w4.cell? ⟨x1, 10, none⟩ = some (.int .i64 (N 10)) := B1.out.cell 10
      have a11 : w4.cell? ⟨x1, 11, none⟩ = some (.slice A n c) := B1.out.cell 11
      have a12 : w4.cell? ⟨x1, 12, none⟩ = some (.slice B m d) := B1.out.cell 12
      go_wp2_with fail
      refine (rright_any N A B n m c d w4 l xs HNL.out HML.out hV (H1.out.fine f4)).mono ?_
      rintro x w5 ⟨rfl, f⟩
      rw [HR.out]
      have f5 := f4.trans f
      clear a0 a1 a2 a3 a4 a5 a6 a7 a8 a9 a10 a11 a12
      go_wp2_with fail
      go_ret
      exact ⟨rfl, f5⟩
  · go_wp2_with fail
    go_ret
    exact ⟨rfl, f3⟩
end Go.Proofs.YthnennleblgjeaaDoor
