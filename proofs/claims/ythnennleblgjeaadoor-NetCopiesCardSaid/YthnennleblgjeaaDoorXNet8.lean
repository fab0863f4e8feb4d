/- The law NetSpoils. -/
import Derived.Test.YthnennleblgjeaaDoorXNet7
namespace Go.Proofs.YthnennleblgjeaaDoor
set_option linter.unusedVariables false
set_option linter.unusedSimpArgs false
open Go.ChangeShapes Go.WideShapes Go.ChangeAt Go.RowKit
set_option linter.unusedVariables false
set_option linter.unusedSimpArgs false
/-- One segment is sent into an empty net. -/
theorem sendS_any (w0 : World) (hT : TabW w0) (g b : Nat) (sd : Int) (hsd : 0 ≤ sd ∧ sd ≤ 1) (N : Nat → Int) (A B : Option Addr) (n m c d : Nat) (l : List (Nat → Int)) (xs : List Int) (hn : n = l.length) (hm : m = xs.length) (hN : OkN N) (hV : ∀ V ∈ l, OkV V) (h1 : RS layO w0 A c l) (h2 : BS w0 B d xs) (w : World) (hf : Fine w0 w) (hO : NetO w w0.heap.size g []) (hB : Blk w b 26 #[.int .i64 (N 0), .int .i64 (N 1), .int .i64 (N 2), .int .i64 (N 3), .int .u32 (N 4), .int .u32 (N 5), .bool (decide (N 6 = 1)), .bool (decide (N 7 = 1)), .bool (decide (N 8 = 1)), .bool (decide (N 9 = 1)), .int .i64 (N 10), .slice A n c, .slice B m d]) :
    Calls Tryd.prog 26 #[.pointer (some ⟨g, 0, none⟩), .int .i64 sd, .slice (some ⟨b, 0, none⟩) 1 1] w fun r w' => Fine w0 w' ∧ ((segRightB N l xs = false ∧ r = .returned (.int .i64 0) ∧ NetO w' w0.heap.size g []) ∨ (segRightB N l xs = true ∧ r = .returned (.int .i64 1) ∧ ∃ p : Pk, p.side = sd ∧ p.xs = putOf (segB N l xs) ∧ NetO w' w0.heap.size g [p])) := by
  subst hn hm
  refine (send_any w0 hT g b 0 1 [] sd hsd 1 [⟨N, A, c, l, B, d, xs⟩] rfl (by decide) (by decide) (fun s hs => by obtain rfl : s = ⟨N, A, c, l, B, d, xs⟩ := (by simpa using hs); exact ⟨hN, h1, hV, h2⟩) w hf hO ⟨_, hB⟩ (RS.ofBlk hB (by rw [layS.flat_one]; rfl) rfl (by unfold maxLen; omega))).mono ?_
  rintro r w' ⟨ps', k, rfl, g1, g2, g3, g4, g5⟩
  refine ⟨g2, ?_⟩
  have h6 : pv ps' = send1 [] sd ⟨N, A, c, l, B, d, xs⟩ := g5
  unfold send1 at h6
  have e : sgR ⟨N, A, c, l, B, d, xs⟩ = segRightB N l xs := rfl
  rw [e] at h6
  cases hr : segRightB N l xs
  · left
    rw [hr] at h6
    have h7 : pv ps' = [] := h6
    have hl : ps'.length = 0 := pv_len h7
    obtain rfl : ps' = [] := List.eq_nil_of_length_eq_zero hl
    obtain rfl : k = 0 := by simp at g3; omega
    exact ⟨rfl, rfl, g1⟩
  · right
    rw [hr] at h6
    have h7 : pv ps' = [(sd, putOf (segB N l xs))] := h6
    have hl : ps'.length = 1 := pv_len h7
    obtain ⟨p, hp, hs, hx⟩ := pv_at h7 (i := 0) rfl
    obtain rfl : ps' = [p] := by
      match ps', hl, hp with
      | [q], _, hp => simp at hp; rw [hp]
    obtain rfl : k = 1 := by simp at g3; omega
    exact ⟨rfl, rfl, p, hs, hx, g1⟩
set_option maxHeartbeats 8000000 in
set_option maxRecDepth 100000 in
theorem netSpoils_any (N : Nat → Int) (A B : Option Addr) (n m c d : Nat) (w : World) (hT : TabW w) (l : List (Nat → Int)) (xs : List Int) (hn : n = l.length) (hm : m = xs.length) (hN : OkN N) (hV : ∀ V ∈ l, OkV V) (h1 : RS layO w A c l) (h2 : BS w B d xs) (at_ y : Int) (hat : 0 ≤ at_ ∧ at_ ≤ 65535) (hy : 0 ≤ y ∧ y ≤ 255) :
    Calls Tryd.prog 9 #[.agg #[.int .i64 (N 0), .int .i64 (N 1), .int .i64 (N 2), .int .i64 (N 3), .int .u32 (N 4), .int .u32 (N 5), .bool (decide (N 6 = 1)), .bool (decide (N 7 = 1)), .bool (decide (N 8 = 1)), .bool (decide (N 9 = 1)), .int .i64 (N 10), .slice A n c, .slice B m d], .int .u16 at_, .int .u8 y] w fun r w' => r = .returned (.bool true) ∧ Fine w w' := by
  have HNL := Lib.hid hn; clear hn
  have HML := Lib.hid hm; clear hm
  have H1 := Lib.hid h1; clear h1
  have H2 := Lib.hid h2; clear h2
  have HT := Lib.hid hT; clear hT
  go_enter Tryd.func9, Tryd.ntmps9
  go_wp2_with fail
  have b1 : Blk (w.alloc (.cells #[.int .i64 (N 0), .int .i64 (N 1), .int .i64 (N 2), .int .i64 (N 3), .int .u32 (N 4), .int .u32 (N 5), .bool (decide (N 6 = 1)), .bool (decide (N 7 = 1)), .bool (decide (N 8 = 1)), .bool (decide (N 9 = 1)), .int .i64 (N 10), .slice A n c, .slice B m d] 26)) w.heap.size 26 #[.int .i64 (N 0), .int .i64 (N 1), .int .i64 (N 2), .int .i64 (N 3), .int .u32 (N 4), .int .u32 (N 5), .bool (decide (N 6 = 1)), .bool (decide (N 7 = 1)), .bool (decide (N 8 = 1)), .bool (decide (N 9 = 1)), .int .i64 (N 10), .slice A n c, .slice B m d] := Blk.new w 26 _
  have f1 : Fine w (w.alloc (.cells #[.int .i64 (N 0), .int .i64 (N 1), .int .i64 (N 2), .int .i64 (N 3), .int .u32 (N 4), .int .u32 (N 5), .bool (decide (N 6 = 1)), .bool (decide (N 7 = 1)), .bool (decide (N 8 = 1)), .bool (decide (N 9 = 1)), .int .i64 (N 10), .slice A n c, .slice B m d] 26)) := (Fine.refl w).alloc _
  generalize (w.alloc (.cells #[.int .i64 (N 0), .int .i64 (N 1), .int .i64 (N 2), .int .i64 (N 3), .int .u32 (N 4), .int .u32 (N 5), .bool (decide (N 6 = 1)), .bool (decide (N 7 = 1)), .bool (decide (N 8 = 1)), .bool (decide (N 9 = 1)), .int .i64 (N 10), .slice A n c, .slice B m d] 26)) = w1 at b1 f1 ⊢
  generalize w.heap.size = x1 at b1 ⊢
  refine (nwakes_any w1 (HT.out.fine f1)).mono ?_
  rintro x w2 ⟨rfl, f⟩
  have B1 := Lib.hid (b1.fine f); have f2 := f1.trans f
  clear b1 f1 f
  have a0 : w2.cell? ⟨x1, 0, none⟩ = some (.int .i64 (N 0)) := B1.out.cell 0
  have a1 : w2.cell? ⟨x1, 1, none⟩ = some (.int .i64 (N 1)) := B1.out.cell 1
  have a2 : w2.cell? ⟨x1, 2, none⟩ = some (.int .i64 (N 2)) := B1.out.cell 2
  have a3 : w2.cell? ⟨x1, 3, none⟩ = some (.int .i64 (N 3)) := B1.out.cell 3
  have a4 : w2.cell? ⟨x1, 4, none⟩ = some (.int .u32 (N 4)) := B1.out.cell 4
  have a5 : w2.cell? ⟨x1, 5, none⟩ = some (.int .u32 (N 5)) := B1.out.cell 5
  have a6 : w2.cell? ⟨x1, 6, none⟩ = some (.bool (decide (N 6 = 1))) := B1.out.cell 6
  have a7 : w2.cell? ⟨x1, 7, none⟩ = some (.bool (decide (N 7 = 1))) := B1.out.cell 7
  have a8 : w2.cell? ⟨x1, 8, none⟩ = some (.bool (decide (N 8 = 1))) := B1.out.cell 8
  have a9 : w2.cell? ⟨x1, 9, none⟩ = some (.bool (decide (N 9 = 1))) := B1.out.cell 9
  have a10 : w2.cell? ⟨x1, 10, none⟩ = some (.int .i64 (N 10)) := B1.out.cell 10
  have a11 : w2.cell? ⟨x1, 11, none⟩ = some (.slice A n c) := B1.out.cell 11
  have a12 : w2.cell? ⟨x1, 12, none⟩ = some (.slice B m d) := B1.out.cell 12
  by_cases h20 : n > 20
  · have h20' : (n : Int) > 20 := by omega
    clear h20
    go_wp2_with fail
    go_ret
    exact ⟨rfl, f2⟩
  have h20' : ¬ (n : Int) > 20 := by omega
  by_cases h50 : m > 50
  · have h50' : (m : Int) > 50 := by omega
    clear h50 h20
    go_wp2_with fail
    go_ret
    exact ⟨rfl, f2⟩
  have h50' : ¬ (m : Int) > 50 := by omega
  by_cases hy0 : y = 0
  · subst hy0
    clear h50 h20
    go_wp2_with fail
    go_ret
    exact ⟨rfl, f2⟩
  have hyb : (y == 0) = false := by simp [hy0]
  have hy1 : 1 ≤ y ∧ y ≤ 255 := by omega
  have HY := Lib.hid hy1
  clear h50 h20 hy0 hy1
  have HF2 := Lib.hid f2; clear f2
  have HT2 := Lib.hid (HT.out.fine HF2.out); have H12 := Lib.hid (H1.out.fine HF2.out); have H22 := Lib.hid (H2.out.fine HF2.out)
  go_wp2_with fail
  refine (new_any w2).mono ?_
  rintro x w3 ⟨g, rfl, hO, f3⟩
  clear a0 a1 a2 a3 a4 a5 a6 a7 a8 a9 a10 a11 a12
  have B13 := Lib.hid (B1.out.fine f3)
  have HO := Lib.hid hO; clear hO
  have a0 : w3.cell? ⟨x1, 0, none⟩ = some (.int .i64 (N 0)) := B13.out.cell 0
  have a1 : w3.cell? ⟨x1, 1, none⟩ = some (.int .i64 (N 1)) := B13.out.cell 1
  have a2 : w3.cell? ⟨x1, 2, none⟩ = some (.int .i64 (N 2)) := B13.out.cell 2
  have a3 : w3.cell? ⟨x1, 3, none⟩ = some (.int .i64 (N 3)) := B13.out.cell 3
  have a4 : w3.cell? ⟨x1, 4, none⟩ = some (.int .u32 (N 4)) := B13.out.cell 4
  have a5 : w3.cell? ⟨x1, 5, none⟩ = some (.int .u32 (N 5)) := B13.out.cell 5
  have a6 : w3.cell? ⟨x1, 6, none⟩ = some (.bool (decide (N 6 = 1))) := B13.out.cell 6
  have a7 : w3.cell? ⟨x1, 7, none⟩ = some (.bool (decide (N 7 = 1))) := B13.out.cell 7
  have a8 : w3.cell? ⟨x1, 8, none⟩ = some (.bool (decide (N 8 = 1))) := B13.out.cell 8
  have a9 : w3.cell? ⟨x1, 9, none⟩ = some (.bool (decide (N 9 = 1))) := B13.out.cell 9
  have a10 : w3.cell? ⟨x1, 10, none⟩ = some (.int .i64 (N 10)) := B13.out.cell 10
  have a11 : w3.cell? ⟨x1, 11, none⟩ = some (.slice A n c) := B13.out.cell 11
  have a12 : w3.cell? ⟨x1, 12, none⟩ = some (.slice B m d) := B13.out.cell 12
  go_wp2_with fail
  have f : Fine w3 (w3.alloc (.cells #[.int .i64 (N 0), .int .i64 (N 1), .int .i64 (N 2), .int .i64 (N 3), .int .u32 (N 4), .int .u32 (N 5), .bool (decide (N 6 = 1)), .bool (decide (N 7 = 1)), .bool (decide (N 8 = 1)), .bool (decide (N 9 = 1)), .int .i64 (N 10), .slice A n c, .slice B m d] 26)) := (Fine.refl w3).alloc _
  have hb : Blk (w3.alloc (.cells #[.int .i64 (N 0), .int .i64 (N 1), .int .i64 (N 2), .int .i64 (N 3), .int .u32 (N 4), .int .u32 (N 5), .bool (decide (N 6 = 1)), .bool (decide (N 7 = 1)), .bool (decide (N 8 = 1)), .bool (decide (N 9 = 1)), .int .i64 (N 10), .slice A n c, .slice B m d] 26)) w3.heap.size 26 #[.int .i64 (N 0), .int .i64 (N 1), .int .i64 (N 2), .int .i64 (N 3), .int .u32 (N 4), .int .u32 (N 5), .bool (decide (N 6 = 1)), .bool (decide (N 7 = 1)), .bool (decide (N 8 = 1)), .bool (decide (N 9 = 1)), .int .i64 (N 10), .slice A n c, .slice B m d] := Blk.new w3 26 _
  refine (sendS_any w2 HT2.out g _ 0 (by decide) N A B n m c d l xs HNL.out HML.out hN hV H12.out H22.out _ (f3.trans f) (HO.out.fine f) hb).mono ?_
  clear a0 a1 a2 a3 a4 a5 a6 a7 a8 a9 a10 a11 a12
  rintro x w4 ⟨f4, ⟨hr, rfl, hO⟩ | ⟨hr, rfl, p, hside, hxs, hO⟩⟩
  · have B14 := Lib.hid (B1.out.fine f4)
    have HR := Lib.hid hr
    clear hr hO f hb f3
    have a0 : w4.cell? ⟨x1, 0, none⟩ = some (.int .i64 (N 0)) := B14.out.cell 0
    have a1 : w4.cell? ⟨x1, 1, none⟩ = some (.int .i64 (N 1)) := B14.out.cell 1
    have a2 : w4.cell? ⟨x1, 2, none⟩ = some (.int .i64 (N 2)) := B14.out.cell 2
    have a3 : w4.cell? ⟨x1, 3, none⟩ = some (.int .i64 (N 3)) := B14.out.cell 3
    have a4 : w4.cell? ⟨x1, 4, none⟩ = some (.int .u32 (N 4)) := B14.out.cell 4
    have a5 : w4.cell? ⟨x1, 5, none⟩ = some (.int .u32 (N 5)) := B14.out.cell 5
    have a6 : w4.cell? ⟨x1, 6, none⟩ = some (.bool (decide (N 6 = 1))) := B14.out.cell 6
    have a7 : w4.cell? ⟨x1, 7, none⟩ = some (.bool (decide (N 7 = 1))) := B14.out.cell 7
    have a8 : w4.cell? ⟨x1, 8, none⟩ = some (.bool (decide (N 8 = 1))) := B14.out.cell 8
    have a9 : w4.cell? ⟨x1, 9, none⟩ = some (.bool (decide (N 9 = 1))) := B14.out.cell 9
    have a10 : w4.cell? ⟨x1, 10, none⟩ = some (.int .i64 (N 10)) := B14.out.cell 10
    have a11 : w4.cell? ⟨x1, 11, none⟩ = some (.slice A n c) := B14.out.cell 11
    have a12 : w4.cell? ⟨x1, 12, none⟩ = some (.slice B m d) := B14.out.cell 12
    go_wp2_with fail
    refine (segRight_any N A B n c m d l xs HNL.out HML.out hV w4 (H12.out.fine f4)).mono ?_
    rintro x w5 ⟨rfl, f5⟩
    rw [HR.out]
    have f6 := HF2.out.trans (f4.trans f5)
    clear a0 a1 a2 a3 a4 a5 a6 a7 a8 a9 a10 a11 a12
    go_wp2_with fail
    go_ret
    exact ⟨rfl, f6⟩
  · have HR := Lib.hid hr; have HX := Lib.hid hxs; have HS := Lib.hid hside; have HO4 := Lib.hid hO; have HF4 := Lib.hid f4
    obtain ⟨pl, hpl⟩ : ∃ k, p.xs.length = k := ⟨_, rfl⟩
    have HPL := Lib.hid hpl
    have hpl3 : 21 ≤ pl ∧ pl ≤ 300 := by have h := put_len hr; rw [← hxs, hpl] at h; exact h
    clear hr hxs hside hO f4 f hb f3 hpl
    go_wp2_with fail
    refine (copy_any w2.heap.size g [p] p 0 rfl (by simp) (by rw [HPL.out]; omega) pl 0 HPL.out HS.out w4 HO4.out.r).mono ?_
    rintro x w5 ⟨A5, c5, rfl, o5, f5⟩
    have HO5 := Lib.hid (HO4.out.fine f5)
    have HC5 := Lib.hid o5
    have HF5 := Lib.hid (HF4.out.trans f5)
    have H45 := Lib.hid f5.size
    clear o5 f5
    go_upto_region 9 with (fail)
    have hpA : ∃ gb, p.A = some ⟨gb, 0, none⟩ ∧ w2.heap.size ≤ gb ∧ gb < w4.heap.size := by
      obtain ⟨_, _, _, _, hps⟩ := HO4.out
      exact (hps p (by simp)).head (by rw [HPL.out]; omega)
    obtain ⟨gb, hpA, hgb1, hgb2⟩ := hpA
    have HPA := Lib.hid hpA; have HGB := Lib.hid (And.intro hgb1 hgb2)
    clear hpA hgb1 hgb2 HO4
    have b8 : Blk (w5.alloc (.cells #[.int .i64 0, .slice A5 pl c5] 48)) w5.heap.size 48 #[.int .i64 0, .slice A5 pl c5] := Blk.new w5 48 _
    have f : Fine w5 (w5.alloc (.cells #[.int .i64 0, .slice A5 pl c5] 48)) := (Fine.refl w5).alloc _
    generalize (w5.alloc (.cells #[.int .i64 0, .slice A5 pl c5] 48)) = w6 at b8 f ⊢
    obtain ⟨x8, hx8⟩ : ∃ x, w5.heap.size = x := ⟨_, rfl⟩
    rw [hx8] at b8 ⊢
    have HX8 : Hid (¬ x8 = gb) := Lib.hid (by have := HGB.out.2; have := H45.out; omega)
    have HO6 := Lib.hid (HO5.out.fine f); have HC6 := Lib.hid (HC5.out.fine f); have HF6 := Lib.hid (HF5.out.trans f)
    have B8 := Lib.hid b8
    have a1 : w6.cell? ⟨x8, 1, none⟩ = some (.slice A5 pl c5) := b8.cell 1
    clear HO5 HC5 HF5 f b8 hx8
    obtain ⟨i, hi⟩ : ∃ i : Nat, (at_.toNat % pl) = i := ⟨_, rfl⟩
    have hil : i < pl := by rw [← hi]; exact Nat.mod_lt _ (by omega)
    have hq : at_ % (pl : Int) = (i : Int) := by rw [← hi, Int.natCast_emod, Int.toNat_of_nonneg hat.1]
    have HIL := Lib.hid hil
    clear hi
    obtain ⟨z, hz⟩ : ∃ z, (p.xs.getD i 0 + y) % 256 = z := ⟨_, rfl⟩
    have HZ := Lib.hid hz; clear hz
    have HGood : Hid (goodB (p.xs.set i z) = false) := Lib.hid (by
      have hb : Bytes p.xs := by rw [HX.out]; exact put_bytes N l H2.out.1
      have hg := good_put (segB_bytes N l H2.out.1)
      rw [← HX.out] at hg
      have hxr := hb.getD i
      have := HZ.out
      have := HY.out
      exact good_changed hb hg i (by rw [HPL.out]; exact hil) z (by omega) (by omega))
    go_wp2_with fail
    refine (spoil_any w2.heap.size g gb p pl 0 rfl HPA.out HPL.out N n m l xs HNL.out HML.out hN hV H2.out.1 HR.out HX.out i HIL.out y _ z HY.out rfl HZ.out w6 (HT2.out.fine HF6.out) HO6.out).mono ?_
    rintro x w7 ⟨rfl, hO7, k7⟩
    have hge7 : w2.heap.size ≤ gb := HGB.out.1
    have HO7 := Lib.hid hO7
    have HC7 := Lib.hid (HC6.out.keptS k7 (fun k hk => by have h1 := HC6.out.lt k hk; have := HGB.out.2; omega))
    have HF7 := Lib.hid (HF6.out.kept k7 (fun x hx e => by omega))
    have B8 := Lib.hid (B8.out.kept k7 HX8.out)
    clear hO7 k7 HO6 HC6 HF6 a1 hq hil hge7
    have hl7 : (p.xs.set i z).length = pl := by rw [List.length_set]; exact HPL.out
    have HL7 := Lib.hid hl7; clear hl7
    go_wp2_with fail
    refine (ntake_any w2.heap.size g [{ p with xs := p.xs.set i z }] { p with xs := p.xs.set i z } 0 rfl (by simp) (by show (p.xs.set i z).length ≤ 100000; rw [HL7.out]; omega) pl 0 HL7.out HS.out w7 HO7.out.r).mono ?_
    rintro x w8 ⟨A9, c9, rfl, o9, _, k8⟩
    have HB9 : Hid (OwnB w8 w7.heap.size (.slice A9 pl c9) (p.xs.set i z)) := Lib.hid o9
    have hge8 : w2.heap.size ≤ g ∧ (∃ cs, Blk w7 g 81 cs) := by obtain ⟨_, h1, h2, _⟩ := HO7.out; exact ⟨h1, _, h2⟩
    obtain ⟨hge8, cs8, hg8⟩ := hge8
    have HC8 := Lib.hid (HC7.out.keptS k8 (HC7.out.ne81 hg8 (by decide)))
    have HF8 := Lib.hid (HF7.out.kept k8 (fun x hx e => by omega))
    have B8 := Lib.hid (B8.out.kept k8 (B8.out.ne_ hg8 (by decide)))
    clear o9 k8 hge8 hg8 HO7 HC7 HF7
    go_upto_region 12 with (fail)
    have b10 : Blk (w8.alloc (.cells #[.int .i64 0, .slice A9 pl c9] 48)) w8.heap.size 48 #[.int .i64 0, .slice A9 pl c9] := Blk.new w8 48 _
    have f : Fine w8 (w8.alloc (.cells #[.int .i64 0, .slice A9 pl c9] 48)) := (Fine.refl w8).alloc _
    generalize (w8.alloc (.cells #[.int .i64 0, .slice A9 pl c9] 48)) = w9 at b10 f ⊢
    generalize w8.heap.size = x10 at b10 ⊢
    have a1 : w9.cell? ⟨x10, 1, none⟩ = some (.slice A9 pl c9) := b10.cell 1
    have HB9 := Lib.hid (HB9.out.fine f); have HC8 := Lib.hid (HC8.out.fine f); have HF8 := Lib.hid (HF8.out.trans f); have B8 := Lib.hid (B8.out.fine f)
    clear b10 f
    go_wp2_with fail
    refine (getBad_any A9 pl c9 _ w9 HB9.out.bs.1 HL7.out.symm (by rw [HL7.out]; omega) HGood.out).mono ?_
    rintro x w10 ⟨rfl, f⟩
    have HC8 := Lib.hid (HC8.out.fine f); have HF8 := Lib.hid (HF8.out.trans f); have B8 := Lib.hid (B8.out.fine f)
    clear a1 f
    go_upto_region 13 with (fail)
    have f : Fine w10 (w10.alloc (.cells #[.int .i64 0, .int .i64 0, .int .i64 0, .int .i64 0, .int .u32 0, .int .u32 0, .bool false, .bool false, .bool false, .bool false, .int .i64 0, .slice none 0 0, .slice none 0 0] 26)) := (Fine.refl w10).alloc _
    generalize (w10.alloc (.cells #[.int .i64 0, .int .i64 0, .int .i64 0, .int .i64 0, .int .u32 0, .int .u32 0, .bool false, .bool false, .bool false, .bool false, .int .i64 0, .slice none 0 0, .slice none 0 0] 26)) = w11 at f ⊢
    have HC8 := Lib.hid (HC8.out.fine f); have HF8 := Lib.hid (HF8.out.trans f); have B8 := Lib.hid (B8.out.fine f)
    have a1 : w11.cell? ⟨x8, 1, none⟩ = some (.slice A5 pl c5) := B8.out.cell 1
    clear f
    go_wp2_with fail
    refine (getGood_any N A5 pl c5 n m l xs HNL.out HML.out hN hV H2.out.1 HR.out w11 (HT2.out.fine HF8.out) (by rw [← HX.out]; exact HC8.out.bs.1) (by rw [← HX.out]; exact HPL.out.symm)).mono ?_
    rintro x w12 ⟨A1, c1, B1', d1, rfl, _, _, f⟩
    have ff := HF2.out.trans (HF8.out.trans f)
    have fa := ff.alloc (.cells #[.int .i64 (N 0), .int .i64 (N 1), .int .i64 (N 2), .int .i64 (N 3), .int .u32 (N 4), .int .u32 (N 5), .bool (decide (N 6 = 1)), .bool (decide (N 7 = 1)), .bool (decide (N 8 = 1)), .bool (decide (N 9 = 1)), .int .i64 (N 10), .slice A1 n c1, .slice B1' m d1] 26)
    clear a1 f ff
    go_wp2_with fail
    go_ret
    exact ⟨rfl, fa⟩
end Go.Proofs.YthnennleblgjeaaDoor
