/- segment.Get of what is not good; the law SegmentChanged. -/
import Derived.Test.YthnennleblgjeaaDoorXSeg8
import Derived.Test.YthnennleblgjeaaDoorMe
import Derived.Test.YthnennleblgjeaaDoorXSegOpen
namespace Go.Proofs.YthnennleblgjeaaDoor
set_option linter.unusedVariables false
set_option linter.unusedSimpArgs false
open Go.ChangeShapes Go.WideShapes Go.ChangeAt Go.RowKit
set_option linter.unusedVariables false
set_option linter.unusedSimpArgs false
set_option maxHeartbeats 4000000 in
set_option maxRecDepth 100000 in
theorem getBad_any (A : Option Addr) (k c : Nat) (xs : List Int) (w : World) (h : BS w A c xs) (hk : k = xs.length) (hl : xs.length ≤ 1000000) (hg : goodB xs = false) :
    Calls Tryd.prog 19 #[.slice A k c] w fun r w' => r = .returned (.tuple #[.agg #[.int .i64 0, .int .i64 0, .int .i64 0, .int .i64 0, .int .u32 0, .int .u32 0, .bool false, .bool false, .bool false, .bool false, .int .i64 0, .slice none 0 0, .slice none 0 0], .int .i64 5]) ∧ Fine w w' := by
  have H := Lib.hid h; clear h
  have HK := Lib.hid hk; clear hk
  have HG := Lib.hid hg; clear hg
  go_enter Tryd.func19, Tryd.ntmps19
  go_wp2_with fail
  have b1 : Blk (w.alloc (.cells #[.int .i64 0, .int .i64 0, .int .i64 0, .int .i64 0, .int .u32 0, .int .u32 0, .bool false, .bool false, .bool false, .bool false, .int .i64 0, .slice none 0 0, .slice none 0 0] 26)) w.heap.size 26 #[.int .i64 0, .int .i64 0, .int .i64 0, .int .i64 0, .int .u32 0, .int .u32 0, .bool false, .bool false, .bool false, .bool false, .int .i64 0, .slice none 0 0, .slice none 0 0] := Blk.new w 26 _
  have f1 : Fine w (w.alloc (.cells #[.int .i64 0, .int .i64 0, .int .i64 0, .int .i64 0, .int .u32 0, .int .u32 0, .bool false, .bool false, .bool false, .bool false, .int .i64 0, .slice none 0 0, .slice none 0 0] 26)) := (Fine.refl w).alloc _
  have hx : w.heap.size ≤ w.heap.size := Nat.le_refl _
  generalize (w.alloc (.cells #[.int .i64 0, .int .i64 0, .int .i64 0, .int .i64 0, .int .u32 0, .int .u32 0, .bool false, .bool false, .bool false, .bool false, .int .i64 0, .slice none 0 0, .slice none 0 0] 26)) = w1 at b1 f1 ⊢
  obtain ⟨x1, hx1⟩ : ∃ x1, w.heap.size = x1 := ⟨_, rfl⟩
  have hxx : w.heap.size ≤ x1 := by omega
  rw [hx1] at b1 ⊢
  clear hx1 hx
  refine (good_any A k c xs w1 (H.out.fine f1) HK.out hl).mono ?_
  rintro x w2 ⟨rfl, f⟩
  rw [HG.out]
  have b2 := b1.fine f; have f2 := f1.trans f
  clear b1 f1 f
  have c0 : w2.cell? ⟨x1, 0, none⟩ = some (.int .i64 0) := b2.cell 0
  have z0 : w2.frozen? ⟨x1, 0, none⟩ = false := b2.frozen 0
  have c1 : w2.cell? ⟨x1, 1, none⟩ = some (.int .i64 0) := b2.cell 1
  have z1 : w2.frozen? ⟨x1, 1, none⟩ = false := b2.frozen 1
  have c2 : w2.cell? ⟨x1, 2, none⟩ = some (.int .i64 0) := b2.cell 2
  have z2 : w2.frozen? ⟨x1, 2, none⟩ = false := b2.frozen 2
  have c3 : w2.cell? ⟨x1, 3, none⟩ = some (.int .i64 0) := b2.cell 3
  have z3 : w2.frozen? ⟨x1, 3, none⟩ = false := b2.frozen 3
  have c4 : w2.cell? ⟨x1, 4, none⟩ = some (.int .u32 0) := b2.cell 4
  have z4 : w2.frozen? ⟨x1, 4, none⟩ = false := b2.frozen 4
  have c5 : w2.cell? ⟨x1, 5, none⟩ = some (.int .u32 0) := b2.cell 5
  have z5 : w2.frozen? ⟨x1, 5, none⟩ = false := b2.frozen 5
  have c6 : w2.cell? ⟨x1, 6, none⟩ = some (.bool false) := b2.cell 6
  have z6 : w2.frozen? ⟨x1, 6, none⟩ = false := b2.frozen 6
  have c7 : w2.cell? ⟨x1, 7, none⟩ = some (.bool false) := b2.cell 7
  have z7 : w2.frozen? ⟨x1, 7, none⟩ = false := b2.frozen 7
  have c8 : w2.cell? ⟨x1, 8, none⟩ = some (.bool false) := b2.cell 8
  have z8 : w2.frozen? ⟨x1, 8, none⟩ = false := b2.frozen 8
  have c9 : w2.cell? ⟨x1, 9, none⟩ = some (.bool false) := b2.cell 9
  have z9 : w2.frozen? ⟨x1, 9, none⟩ = false := b2.frozen 9
  have c10 : w2.cell? ⟨x1, 10, none⟩ = some (.int .i64 0) := b2.cell 10
  have z10 : w2.frozen? ⟨x1, 10, none⟩ = false := b2.frozen 10
  have c11 : w2.cell? ⟨x1, 11, none⟩ = some (.slice none 0 0) := b2.cell 11
  have z11 : w2.frozen? ⟨x1, 11, none⟩ = false := b2.frozen 11
  have c12 : w2.cell? ⟨x1, 12, none⟩ = some (.slice none 0 0) := b2.cell 12
  have z12 : w2.frozen? ⟨x1, 12, none⟩ = false := b2.frozen 12
  clear b2
  go_wp2_with fail
  exact bodyPost_ret (v := .tuple #[.agg #[.int .i64 0, .int .i64 0, .int .i64 0, .int .i64 0, .int .u32 0, .int .u32 0, .bool false, .bool false, .bool false, .bool false, .int .i64 0, .slice none 0 0, .slice none 0 0], .int .i64 5]) (by simp [results, Tryd.results19, go_sem, c0, c1, c2, c3, c4, c5, c6, c7, c8, c9, c10, c11, c12]) rfl ⟨rfl, by repeat (first | with_reducible exact f2 | with_reducible refine Fine.setCell ?_ hxx _)⟩
set_option maxHeartbeats 2000000 in
set_option maxRecDepth 50000 in
theorem segPutNot (N : Nat → Int) (A B : Option Addr) (n c m d : Nat) (l : List (Nat → Int)) (xs : List Int) (hn : n = l.length) (hm : m = xs.length) (hV : ∀ V ∈ l, OkV V) (w : World) (h1 : RS layO w A c l) (hr : segRightB N l xs = false) :
    Calls Tryd.prog 14 #[.agg (segL N (.slice A n c) (.slice B m d)).toArray] w (SegPut N l xs w) := by
  have H1 := Lib.hid h1; clear h1
  have HNL := Lib.hid hn; clear hn
  have HML := Lib.hid hm; clear hm
  have HQ := Lib.hid hr; clear hr
  go_enter Tryd.func14, Tryd.ntmps14
  go_wp2_with fail
  have f1 : Fine w (w.alloc (.cells (segL N (.slice A n c) (.slice B m d)).toArray 26)) := (Fine.refl w).alloc _
  generalize (w.alloc (.cells (segL N (.slice A n c) (.slice B m d)).toArray 26)) = w1 at f1 ⊢
  refine (segRight_any N A B n c m d l xs HNL.out HML.out hV w1 (H1.out.fine f1)).mono ?_
  rintro x w2 ⟨rfl, f⟩
  have f2 := f1.trans f
  clear f1 f
  rw [HQ.out]
  go_wp2_with fail
  go_ret2
  exact ⟨f2, .inr ⟨HQ.out, rfl⟩⟩
theorem segPut_all (N : Nat → Int) (A B : Option Addr) (n c m d : Nat) (l : List (Nat → Int)) (xs : List Int) (hn : n = l.length) (hm : m = xs.length) (hN : OkN N) (hV : ∀ V ∈ l, OkV V) (w : World) (hT : TabW w) (h1 : RS layO w A c l) (h2 : BS w B d xs) :
    Calls Tryd.prog 14 #[.agg (segL N (.slice A n c) (.slice B m d)).toArray] w (SegPut N l xs w) := by
  by_cases hr : segRightB N l xs = true
  · exact segPut_any N A B n c m d l xs hn hm (by have := (segRight_iff.mp hr).opts; omega) hN hV w hT h1 h2
  · exact segPutNot N A B n c m d l xs hn hm hV w h1 (by simpa using hr)

theorem rsame_zero (w : World) : Calls Tryd.prog 17 #[.agg #[.int .i64 0, .int .i64 0, .int .i64 0, .int .i64 0, .int .u32 0, .int .u32 0, .bool false, .bool false, .bool false, .bool false, .int .i64 0, .slice none 0 0, .slice none 0 0], .agg #[.int .i64 0, .int .i64 0, .int .i64 0, .int .i64 0, .int .u32 0, .int .u32 0, .bool false, .bool false, .bool false, .bool false, .int .i64 0, .slice none 0 0, .slice none 0 0]] w fun r w' => r = .returned (.bool true) ∧ Fine w w' := by
  have h := rsame_seg zeroN zeroN none none none none 0 0 0 0 0 0 0 0 w [] [] [] [] rfl rfl rfl rfl (by simp) (by simp) (RS.nil_ _ _) (RS.nil_ _ _) (BS.nil_ _) (BS.nil_ _)
  rw [sameS_self] at h
  exact h
theorem put_bytes (N : Nat → Int) (l : List (Nat → Int)) {xs : List Int} (h : Bytes xs) : Bytes (putOf (segB N l xs)) := putOf_bytes (segB_bytes N l h)
theorem put_len {N : Nat → Int} {l : List (Nat → Int)} {xs : List Int} (h : segRightB N l xs = true) : 21 ≤ (putOf (segB N l xs)).length ∧ (putOf (segB N l xs)).length ≤ 300 := by
  have hh := segRight_iff.mp h
  have h2 := putOf_le (segB N l xs)
  have h3 : (segB N l xs).length = 19 + ((l.flatMap optB).length + xs.length) := segB_len
  have h4 := flatOpt_len l hh.all hh.opts
  have h6 := hh.data
  omega
set_option maxHeartbeats 4000000 in
set_option maxRecDepth 100000 in
theorem segChanged_any (N : Nat → Int) (A B : Option Addr) (n m c d : Nat) (w : World) (hT : TabW w) (l : List (Nat → Int)) (xs : List Int) (hn : n = l.length) (hm : m = xs.length) (hN : OkN N) (hV : ∀ V ∈ l, OkV V) (h1 : RS layO w A c l) (h2 : BS w B d xs) (at_ y : Int) (hat : 0 ≤ at_ ∧ at_ ≤ 65535) (hy : 0 ≤ y ∧ y ≤ 255) :
    Calls Tryd.prog 5 #[.agg #[.int .i64 (N 0), .int .i64 (N 1), .int .i64 (N 2), .int .i64 (N 3), .int .u32 (N 4), .int .u32 (N 5), .bool (decide (N 6 = 1)), .bool (decide (N 7 = 1)), .bool (decide (N 8 = 1)), .bool (decide (N 9 = 1)), .int .i64 (N 10), .slice A n c, .slice B m d], .int .u16 at_, .int .u8 y] w fun r w' => r = .returned (.bool true) ∧ Fine w w' := by
  have HNL := Lib.hid hn; clear hn
  have HML := Lib.hid hm; clear hm
  have H1 := Lib.hid h1; clear h1
  have H2 := Lib.hid h2; clear h2
  have HT := Lib.hid hT; clear hT
  go_enter Tryd.func5, Tryd.ntmps5
  go_wp2_with fail
  have b1 : Blk (w.alloc (.cells #[.int .i64 (N 0), .int .i64 (N 1), .int .i64 (N 2), .int .i64 (N 3), .int .u32 (N 4), .int .u32 (N 5), .bool (decide (N 6 = 1)), .bool (decide (N 7 = 1)), .bool (decide (N 8 = 1)), .bool (decide (N 9 = 1)), .int .i64 (N 10), .slice A n c, .slice B m d] 26)) w.heap.size 26 #[.int .i64 (N 0), .int .i64 (N 1), .int .i64 (N 2), .int .i64 (N 3), .int .u32 (N 4), .int .u32 (N 5), .bool (decide (N 6 = 1)), .bool (decide (N 7 = 1)), .bool (decide (N 8 = 1)), .bool (decide (N 9 = 1)), .int .i64 (N 10), .slice A n c, .slice B m d] := Blk.new w 26 _
  have f1 : Fine w (w.alloc (.cells #[.int .i64 (N 0), .int .i64 (N 1), .int .i64 (N 2), .int .i64 (N 3), .int .u32 (N 4), .int .u32 (N 5), .bool (decide (N 6 = 1)), .bool (decide (N 7 = 1)), .bool (decide (N 8 = 1)), .bool (decide (N 9 = 1)), .int .i64 (N 10), .slice A n c, .slice B m d] 26)) := (Fine.refl w).alloc _
  generalize (w.alloc (.cells #[.int .i64 (N 0), .int .i64 (N 1), .int .i64 (N 2), .int .i64 (N 3), .int .u32 (N 4), .int .u32 (N 5), .bool (decide (N 6 = 1)), .bool (decide (N 7 = 1)), .bool (decide (N 8 = 1)), .bool (decide (N 9 = 1)), .int .i64 (N 10), .slice A n c, .slice B m d] 26)) = w1 at b1 f1 ⊢
  generalize hx1 : w.heap.size = x1 at b1 ⊢
  refine (wakes_any w1 (HT.out.fine f1)).mono ?_
  rintro x w2 ⟨rfl, f⟩
  have B1 := Lib.hid (b1.fine f); have f2 := f1.trans f
  clear b1 f1 f
  have a0 : w2.cell? ⟨x1, 0, none⟩ = some (.int .i64 (N 0)) := B1.out.cell 0
  have a1 : w2.cell? ⟨x1, 1, none⟩ = some (.int .i64 (N 1)) := B1.out.cell 1
  have a2 : w2.cell? ⟨x1, 2, none⟩ = some (.int .i64 (N 2)) := B1.out.cell 2
  have a3 : w2.cell? ⟨x1, 3, none⟩ = some (.int .i64 (N 3)) := B1.out.cell 3
  have a4 : w2.cell? ⟨x1, 4, none⟩ = some (.int .u32 (N 4)) := B1.out.cell 4
  have a5 : w2.cell? ⟨x1, 5, none⟩ = some (.int .u32 (N 5)) := B1.out.cell 5
  have a6 : w2.cell? ⟨x1, 6, none⟩ = some (.bool (decide (N 6 = 1))) := B1.out.cell 6
  have a7 : w2.cell? ⟨x1, 7, none⟩ = some (.bool (decide (N 7 = 1))) := B1.out.cell 7
  have a8 : w2.cell? ⟨x1, 8, none⟩ = some (.bool (decide (N 8 = 1))) := B1.out.cell 8
  have a9 : w2.cell? ⟨x1, 9, none⟩ = some (.bool (decide (N 9 = 1))) := B1.out.cell 9
  have a10 : w2.cell? ⟨x1, 10, none⟩ = some (.int .i64 (N 10)) := B1.out.cell 10
  have a11 : w2.cell? ⟨x1, 11, none⟩ = some (.slice A n c) := B1.out.cell 11
  have a12 : w2.cell? ⟨x1, 12, none⟩ = some (.slice B m d) := B1.out.cell 12
  go_wp2_with fail
  refine (segPut_all N A B n c m d l xs HNL.out HML.out hN hV w2 (HT.out.fine f2) (H1.out.fine f2) (H2.out.fine f2)).mono ?_
  clear a0 a1 a2 a3 a4 a5 a6 a7 a8 a9 a10 a11 a12
  rintro x w4 ⟨f, ⟨hr, v, rfl, o⟩ | ⟨hr, rfl⟩⟩
  · have f4 := f2.trans f
    have hlen := put_len hr
    have hgood := good_put (segB_bytes N l H2.out.1)
    have hby := put_bytes N l H2.out.1
    have hsz := f2.size
    obtain ⟨Q, hQ⟩ : ∃ Q, putOf (segB N l xs) = Q := ⟨_, rfl⟩
    rw [hQ] at o hlen hgood hby
    clear hQ
    have HG := Lib.hid hgood; clear hgood
    have HPB := Lib.hid hby; clear hby
    obtain ⟨A2, c2, rfl, b2, _⟩ := o.form
    obtain ⟨g, rfl, hg1, hg2⟩ := o.head (by omega)
    by_cases hy0 : y = 0
    · subst hy0
      clear hx1
      go_wp2_with fail
      go_ret
      exact ⟨rfl, f4⟩
    · have hyb : (y == 0) = false := by simp [hy0]
      obtain ⟨i, hi⟩ : ∃ i : Nat, (at_.toNat % Q.length) = i := ⟨_, rfl⟩
      have hil : i < Q.length := by rw [← hi]; exact Nat.mod_lt _ (by omega)
      have hq : at_ % (Q.length : Int) = (i : Int) := by
        rw [← hi, Int.natCast_emod, Int.toNat_of_nonneg hat.1]
      clear hi
      obtain ⟨b', off', e7, _, hc⟩ := b2.at_ (k := i) hil
      injection e7 with e7
      injection e7 with e71 e72 _
      subst e71 e72
      rw [Nat.zero_add] at hc
      have hfro := o.frozen i
      have hzb := HPB.out.getD i
      obtain ⟨x, hx⟩ : ∃ x, Q.getD i 0 = x := ⟨_, rfl⟩
      rw [hx] at hc hzb
      have HS := Lib.hid (o.stored i (z := (x + y) % 256) (by omega))
      have HC := Lib.hid (good_changed HPB.out HG.out i hil ((x + y) % 256) (by omega) (by rw [hx]; omega))
      have F4 := Lib.hid f4
      have HGS : Hid (w.heap.size ≤ g) := Lib.hid (by omega)
      clear o b2 hx f f4 hx1
      obtain ⟨L, hL⟩ : ∃ L, Q.length = L := ⟨_, rfl⟩
      rw [hL] at hlen hil hq ⊢
      have HL := Lib.hid hL; clear hL
      go_wp2_with fail
      have F5 : Fine w (w4.setCell ⟨g, i, none⟩ (.int .u8 ((x + y) % 256))) := F4.out.setCell HGS.out _
      refine (getBad_any _ L c2 (Q.set i ((x + y) % 256)) _ HS.out.bs.1 (by rw [List.length_set]; exact HL.out.symm) (by rw [List.length_set, HL.out]; omega) HC.out).mono ?_
      rintro e w5 ⟨rfl, f5⟩
      have f05 := F5.trans f5
      go_wp2_with fail
      have f6 : Fine w (w5.alloc (.cells #[.int .i64 0, .int .i64 0, .int .i64 0, .int .i64 0, .int .u32 0, .int .u32 0, .bool false, .bool false, .bool false, .bool false, .int .i64 0, .slice none 0 0, .slice none 0 0] 26)) := f05.alloc _
      generalize (w5.alloc (.cells #[.int .i64 0, .int .i64 0, .int .i64 0, .int .i64 0, .int .u32 0, .int .u32 0, .bool false, .bool false, .bool false, .bool false, .int .i64 0, .slice none 0 0, .slice none 0 0] 26)) = w6 at f6 ⊢
      refine (rsame_zero w6).mono ?_
      rintro e w7 ⟨rfl, f7⟩
      have f07 := f6.trans f7
      go_wp2_with fail
      go_ret
      exact ⟨rfl, f07⟩
  · have f4 := f2.trans f
    go_wp2_with fail
    go_ret
    exact ⟨rfl, f4⟩
end Go.Proofs.YthnennleblgjeaaDoor
