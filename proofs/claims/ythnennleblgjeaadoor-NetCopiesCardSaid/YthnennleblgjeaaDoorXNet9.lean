/- The law NetCopies. -/
import Derived.Test.YthnennleblgjeaaDoorXNet8
import Derived.Test.YthnennleblgjeaaDoorXSeg5
namespace Go.Proofs.YthnennleblgjeaaDoor
set_option linter.unusedVariables false
set_option linter.unusedSimpArgs false
open Go.ChangeShapes Go.WideShapes Go.ChangeAt Go.RowKit
set_option linter.unusedVariables false
set_option linter.unusedSimpArgs false
set_option maxHeartbeats 8000000 in
set_option maxRecDepth 100000 in
theorem netCopies_any (N : Nat → Int) (A B : Option Addr) (n m c d : Nat) (w : World) (hT : TabW w) (l : List (Nat → Int)) (xs : List Int) (hn : n = l.length) (hm : m = xs.length) (hN : OkN N) (hV : ∀ V ∈ l, OkV V) (h1 : RS layO w A c l) (h2 : BS w B d xs) (M : Nat) (hM : M ≤ 255) :
    Calls Tryd.prog 10 #[.agg #[.int .i64 (N 0), .int .i64 (N 1), .int .i64 (N 2), .int .i64 (N 3), .int .u32 (N 4), .int .u32 (N 5), .bool (decide (N 6 = 1)), .bool (decide (N 7 = 1)), .bool (decide (N 8 = 1)), .bool (decide (N 9 = 1)), .int .i64 (N 10), .slice A n c, .slice B m d], .int .u8 (M : Int)] w fun r w' => r = .returned (.bool true) ∧ Fine w w' := by
  have HNL := Lib.hid hn; clear hn
  have HML := Lib.hid hm; clear hm
  have H1 := Lib.hid h1; clear h1
  have H2 := Lib.hid h2; clear h2
  have HT := Lib.hid hT; clear hT
  go_enter Tryd.func10, Tryd.ntmps10
  go_wp2_with fail
  have b1 : Blk (w.alloc (.cells #[.int .i64 (N 0), .int .i64 (N 1), .int .i64 (N 2), .int .i64 (N 3), .int .u32 (N 4), .int .u32 (N 5), .bool (decide (N 6 = 1)), .bool (decide (N 7 = 1)), .bool (decide (N 8 = 1)), .bool (decide (N 9 = 1)), .int .i64 (N 10), .slice A n c, .slice B m d] 26)) w.heap.size 26 #[.int .i64 (N 0), .int .i64 (N 1), .int .i64 (N 2), .int .i64 (N 3), .int .u32 (N 4), .int .u32 (N 5), .bool (decide (N 6 = 1)), .bool (decide (N 7 = 1)), .bool (decide (N 8 = 1)), .bool (decide (N 9 = 1)), .int .i64 (N 10), .slice A n c, .slice B m d] := Blk.new w 26 _
  have f1 : Fine w (w.alloc (.cells #[.int .i64 (N 0), .int .i64 (N 1), .int .i64 (N 2), .int .i64 (N 3), .int .u32 (N 4), .int .u32 (N 5), .bool (decide (N 6 = 1)), .bool (decide (N 7 = 1)), .bool (decide (N 8 = 1)), .bool (decide (N 9 = 1)), .int .i64 (N 10), .slice A n c, .slice B m d] 26)) := (Fine.refl w).alloc _
  generalize (w.alloc (.cells #[.int .i64 (N 0), .int .i64 (N 1), .int .i64 (N 2), .int .i64 (N 3), .int .u32 (N 4), .int .u32 (N 5), .bool (decide (N 6 = 1)), .bool (decide (N 7 = 1)), .bool (decide (N 8 = 1)), .bool (decide (N 9 = 1)), .int .i64 (N 10), .slice A n c, .slice B m d] 26)) = w1 at b1 f1 ⊢
  generalize w.heap.size = x1 at b1 ⊢
  refine (nwakes_any w1 (HT.out.fine f1)).mono ?_
  rintro x w2 ⟨rfl, f⟩
  have B1 := Lib.hid (b1.fine f); have f2 := f1.trans f
  clear b1 f1 f
  have a0 : w2.cell? ⟨x1, 0, none⟩ = some (.int .i64 (N 0)) := B1.out.cell 0
  have a1 : w2.cell? ⟨x1, 1, none⟩ = some (.int .i64 (N 1)) := B1.out.cell 1
  have a2 : w2.cell? ⟨x1, 2, none⟩ = some (.int .i64 (N 2)) := B1.out.cell 2
  have a3 : w2.cell? ⟨x1, 3, none⟩ = some (.int .i64 (N 3)) := B1.out.cell 3
  have a4 : w2.cell? ⟨x1, 4, none⟩ = some (.int .u32 (N 4)) := B1.out.cell 4
  have a5 : w2.cell? ⟨x1, 5, none⟩ = some (.int .u32 (N 5)) := B1.out.cell 5
  have a6 : w2.cell? ⟨x1, 6, none⟩ = some (.bool (decide (N 6 = 1))) := B1.out.cell 6
  have a7 : w2.cell? ⟨x1, 7, none⟩ = some (.bool (decide (N 7 = 1))) := B1.out.cell 7
  have a8 : w2.cell? ⟨x1, 8, none⟩ = some (.bool (decide (N 8 = 1))) := B1.out.cell 8
  have a9 : w2.cell? ⟨x1, 9, none⟩ = some (.bool (decide (N 9 = 1))) := B1.out.cell 9
  have a10 : w2.cell? ⟨x1, 10, none⟩ = some (.int .i64 (N 10)) := B1.out.cell 10
  have a11 : w2.cell? ⟨x1, 11, none⟩ = some (.slice A n c) := B1.out.cell 11
  have a12 : w2.cell? ⟨x1, 12, none⟩ = some (.slice B m d) := B1.out.cell 12
  by_cases h20 : n > 20
  · have h20' : (n : Int) > 20 := by omega
    clear h20
    go_wp2_with fail
    go_ret
    exact ⟨rfl, f2⟩
  have h20' : ¬ (n : Int) > 20 := by omega
  by_cases h50 : m > 50
  · have h50' : (m : Int) > 50 := by omega
    clear h50 h20
    go_wp2_with fail
    go_ret
    exact ⟨rfl, f2⟩
  have h50' : ¬ (m : Int) > 50 := by omega
  have HNM : Hid (n ≤ 20 ∧ m ≤ 50) := Lib.hid (by omega)
  clear h50 h20
  have HF2 := Lib.hid f2; clear f2
  have HT2 := Lib.hid (HT.out.fine HF2.out); have H12 := Lib.hid (H1.out.fine HF2.out); have H22 := Lib.hid (H2.out.fine HF2.out)
  go_wp2_with fail
  refine (new_any w2).mono ?_
  rintro x w3 ⟨g, rfl, hO, f3⟩
  clear a0 a1 a2 a3 a4 a5 a6 a7 a8 a9 a10 a11 a12
  have B13 := Lib.hid (B1.out.fine f3)
  have HO := Lib.hid hO; clear hO
  have a0 : w3.cell? ⟨x1, 0, none⟩ = some (.int .i64 (N 0)) := B13.out.cell 0
  have a1 : w3.cell? ⟨x1, 1, none⟩ = some (.int .i64 (N 1)) := B13.out.cell 1
  have a2 : w3.cell? ⟨x1, 2, none⟩ = some (.int .i64 (N 2)) := B13.out.cell 2
  have a3 : w3.cell? ⟨x1, 3, none⟩ = some (.int .i64 (N 3)) := B13.out.cell 3
  have a4 : w3.cell? ⟨x1, 4, none⟩ = some (.int .u32 (N 4)) := B13.out.cell 4
  have a5 : w3.cell? ⟨x1, 5, none⟩ = some (.int .u32 (N 5)) := B13.out.cell 5
  have a6 : w3.cell? ⟨x1, 6, none⟩ = some (.bool (decide (N 6 = 1))) := B13.out.cell 6
  have a7 : w3.cell? ⟨x1, 7, none⟩ = some (.bool (decide (N 7 = 1))) := B13.out.cell 7
  have a8 : w3.cell? ⟨x1, 8, none⟩ = some (.bool (decide (N 8 = 1))) := B13.out.cell 8
  have a9 : w3.cell? ⟨x1, 9, none⟩ = some (.bool (decide (N 9 = 1))) := B13.out.cell 9
  have a10 : w3.cell? ⟨x1, 10, none⟩ = some (.int .i64 (N 10)) := B13.out.cell 10
  have a11 : w3.cell? ⟨x1, 11, none⟩ = some (.slice A n c) := B13.out.cell 11
  have a12 : w3.cell? ⟨x1, 12, none⟩ = some (.slice B m d) := B13.out.cell 12
  go_wp2_with fail
  have f : Fine w3 (w3.alloc (.cells #[.int .i64 (N 0), .int .i64 (N 1), .int .i64 (N 2), .int .i64 (N 3), .int .u32 (N 4), .int .u32 (N 5), .bool (decide (N 6 = 1)), .bool (decide (N 7 = 1)), .bool (decide (N 8 = 1)), .bool (decide (N 9 = 1)), .int .i64 (N 10), .slice A n c, .slice B m d] 26)) := (Fine.refl w3).alloc _
  have hb : Blk (w3.alloc (.cells #[.int .i64 (N 0), .int .i64 (N 1), .int .i64 (N 2), .int .i64 (N 3), .int .u32 (N 4), .int .u32 (N 5), .bool (decide (N 6 = 1)), .bool (decide (N 7 = 1)), .bool (decide (N 8 = 1)), .bool (decide (N 9 = 1)), .int .i64 (N 10), .slice A n c, .slice B m d] 26)) w3.heap.size 26 #[.int .i64 (N 0), .int .i64 (N 1), .int .i64 (N 2), .int .i64 (N 3), .int .u32 (N 4), .int .u32 (N 5), .bool (decide (N 6 = 1)), .bool (decide (N 7 = 1)), .bool (decide (N 8 = 1)), .bool (decide (N 9 = 1)), .int .i64 (N 10), .slice A n c, .slice B m d] := Blk.new w3 26 _
  refine (sendS_any w2 HT2.out g _ 1 (by decide) N A B n m c d l xs HNL.out HML.out hN hV H12.out H22.out _ (f3.trans f) (HO.out.fine f) hb).mono ?_
  clear a0 a1 a2 a3 a4 a5 a6 a7 a8 a9 a10 a11 a12
  rintro x w4 ⟨f4, ⟨hr, rfl, hO⟩ | ⟨hr, rfl, p, hside, hxs, hO⟩⟩
  · have HLEN := Lib.hid (len_any w2.heap.size g [] w4 hO.r)
    clear hr hO f hb f3
    go_wp2_with fail
    refine HLEN.out.mono ?_
    rintro x w5 ⟨rfl, f5⟩
    have f6 := HF2.out.trans (f4.trans f5)
    go_wp2_with fail
    go_ret
    exact ⟨rfl, f6⟩
  · have HR := Lib.hid hr; have HX := Lib.hid hxs; have HS := Lib.hid hside
    obtain ⟨pl, hpl⟩ : ∃ k, p.xs.length = k := ⟨_, rfl⟩
    have HPL := Lib.hid hpl
    have hpl3 : 21 ≤ pl ∧ pl ≤ 300 := by have h := put_len hr; rw [← hxs, hpl] at h; exact h
    have HI : Hid (NetR w4 w2.heap.size g [p] ∧ Fine w2 w4) := Lib.hid ⟨hO.r, f4⟩
    clear hr hxs hside hO f4 f hb f3 hpl
    obtain ⟨r, hr⟩ : ∃ r : Nat, M % 9 = r := ⟨_, rfl⟩
    have hq : (M : Int) % 9 = (r : Int) := by omega
    have hr9 : r < 9 := by omega
    clear hr
    go_wp2_with fail
    go_loopw [37] (fun s37 wr => ∃ i : Nat, i ≤ r ∧ s37 = .int .i64 i ∧ Hid (NetR wr w2.heap.size g [p] ∧ Fine w2 wr)) (fun s37 _ => r - (intOf s37).toNat)
    case atStart => exact ⟨0, Nat.zero_le _, rfl, HI⟩
    case round =>
      obtain ⟨i, hi, rfl, HR2⟩ := hrel
      by_cases hlt : i < r
      · have hlt2 : (i : Int) < (M : Int) % 9 := by omega
        clear hq
        obtain ⟨wq, rfl⟩ : ∃ wq, wq = wr := ⟨wr, rfl⟩
        go_wp2_with fail
        refine (copy_any w2.heap.size g [p] p 0 rfl (by simp) (by rw [HPL.out]; omega) pl 1 HPL.out HS.out wq HR2.out.1).mono ?_
        rintro x w5 ⟨A5, c5, rfl, o5, f5⟩
        clear hlt2
        go_upto_region 11 with (fail)
        have b6 : Blk (w5.alloc (.cells #[.int .i64 1, .slice A5 pl c5] 48)) w5.heap.size 48 #[.int .i64 1, .slice A5 pl c5] := Blk.new w5 48 _
        have f : Fine w5 (w5.alloc (.cells #[.int .i64 1, .slice A5 pl c5] 48)) := (Fine.refl w5).alloc _
        generalize (w5.alloc (.cells #[.int .i64 1, .slice A5 pl c5] 48)) = w6 at b6 f ⊢
        generalize w5.heap.size = x6 at b6 ⊢
        have f6 := f5.trans f
        have HO6 := Lib.hid (o5.fine f)
        clear o5 f5 f
        go_wp2_with fail
        refine (len_any w2.heap.size g [p] w6 (HR2.out.1.fine f6)).mono ?_
        rintro x w7 ⟨rfl, f⟩
        rw [show (([p].length : Nat) : Int) = 1 from rfl]
        have b7 := b6.fine f
        have HI7 : Hid (Fine wq w7 ∧ Blk w7 x6 48 #[.int .i64 1, .slice A5 pl c5] ∧ ∃ ys : List Int, ys.length = pl ∧ OwnB w7 wq.heap.size (.slice A5 pl c5) ys) := Lib.hid ⟨f6.trans f, b7, p.xs, HPL.out, HO6.out.fine f⟩
        have a1 : w7.cell? ⟨x6, 1, none⟩ = some (.slice A5 pl c5) := b7.cell 1
        clear b6 b7 f f6 HO6
        go_wp2_with fail
        clear a1
        go_loopw [54] (fun s54 wx => ∃ j : Nat, j ≤ pl ∧ s54 = .int .i64 j ∧ Hid (Fine wq wx ∧ Blk wx x6 48 #[.int .i64 1, .slice A5 pl c5] ∧ ∃ ys : List Int, ys.length = pl ∧ OwnB wx wq.heap.size (.slice A5 pl c5) ys)) (fun s54 _ => pl - (intOf s54).toNat)
        case atStart => exact ⟨0, Nat.zero_le _, rfl, HI7⟩
        case round =>
          obtain ⟨j, hj, rfl, HL⟩ := hrel
          by_cases hjl : j < pl
          · obtain ⟨hf, hb, ys, hyl, ho⟩ := HL.out
            obtain ⟨gb, rfl, hgb1, hgb2⟩ := ho.head (by omega)
            obtain ⟨b', o', e, _, hc⟩ := ho.bs.1.at_ (k := j) (by omega)
            injection e with e
            injection e with e1 e2 _
            subst e1 e2
            obtain ⟨v, hv⟩ : ∃ v, ys.getD j 0 = v := ⟨_, rfl⟩
            have hvb := ho.1.getD j
            rw [hv] at hc hvb
            obtain ⟨z, hz⟩ : ∃ z, (v + 1) % 256 = z := ⟨_, rfl⟩
            have wz : IntKind.u8.wrap (v + 1) = z := by rw [IntKind.wrap_u8, hz]
            have z0 := ho.frozen j
            have a1 : wr.cell? ⟨x6, 1, none⟩ = some (.slice (some ⟨gb, 0, none⟩) pl c5) := hb.cell 1
            have hne : x6 ≠ gb := fun e => ho.ne81 hb (by decide) gb rfl e.symm
            have HN : Hid (Fine wq (wr.setCell ⟨gb, j, none⟩ (.int .u8 z)) ∧ Blk (wr.setCell ⟨gb, j, none⟩ (.int .u8 z)) x6 48 #[.int .i64 1, .slice (some ⟨gb, 0, none⟩) pl c5] ∧ ∃ ys : List Int, ys.length = pl ∧ OwnB (wr.setCell ⟨gb, j, none⟩ (.int .u8 z)) wq.heap.size (.slice (some ⟨gb, 0, none⟩) pl c5) ys) := Lib.hid ⟨hf.setCell hgb1 _, hb.far (p := ⟨gb, j, none⟩) hne _, ys.set j z, by rw [List.length_set]; exact hyl, ho.stored j (by omega)⟩
            rw [Nat.zero_add] at hc
            clear hf hb ho hyl hgb1 hgb2 hvb hv hz hne HL
            go_wp2_with fail
            exact ⟨⟨j + 1, hjl, by simp, HN⟩, by simp only [intOf]; omega⟩
          · have hje : j = pl := by omega
            subst hje
            have HN : Hid (NetR wr w2.heap.size g [p] ∧ Fine w2 wr) := Lib.hid ⟨HR2.out.1.fine HL.out.1, HR2.out.2.trans HL.out.1⟩
            clear HL
            go_wp2_with fail
            exact ⟨⟨i + 1, hlt, by simp, HN⟩, by simp only [intOf]; omega⟩
      · have hie : i = r := by omega
        subst hie
        have hlt2 : ¬ (i : Int) < (M : Int) % 9 := by omega
        clear hq
        go_wp2_with fail
        refine (ntake_any w2.heap.size g [p] p 0 rfl (by simp) (by rw [HPL.out]; omega) pl 1 HPL.out HS.out wr HR2.out.1).mono ?_
        rintro x w5 ⟨A5, c5, rfl, o5, n5, k5⟩
        clear hlt2
        have hge : w2.heap.size ≤ g := by obtain ⟨_, _, h1, _⟩ := HR2.out.1; exact h1
        have f5 : Fine w2 w5 := HR2.out.2.kept k5 (fun x hx e => by omega)
        have HN5 : Hid (NetR w5 w2.heap.size g []) := Lib.hid n5
        have HO5 := Lib.hid o5
        clear o5 n5 k5 hge
        go_upto_region 20 with (fail)
        have b6 : Blk (w5.alloc (.cells #[.int .i64 1, .slice A5 pl c5] 48)) w5.heap.size 48 #[.int .i64 1, .slice A5 pl c5] := Blk.new w5 48 _
        have f : Fine w5 (w5.alloc (.cells #[.int .i64 1, .slice A5 pl c5] 48)) := (Fine.refl w5).alloc _
        generalize (w5.alloc (.cells #[.int .i64 1, .slice A5 pl c5] 48)) = w6 at b6 f ⊢
        generalize w5.heap.size = x6 at b6 ⊢
        have f6 := f5.trans f
        have a1 : w6.cell? ⟨x6, 1, none⟩ = some (.slice A5 pl c5) := b6.cell 1
        have HO6 := Lib.hid (HO5.out.fine f); have HN6 := Lib.hid (HN5.out.fine f)
        clear b6 f f5 HO5 HN5
        go_wp2_with fail
        refine (getGood_any N A5 pl c5 n m l xs HNL.out HML.out hN hV H2.out.1 HR.out w6 (HT2.out.fine f6) (by rw [← HX.out]; exact HO6.out.bs.1) (by rw [← HX.out]; exact HPL.out.symm)).mono ?_
        rintro x w7 ⟨A7, c7, B7, d7, rfl, r7, d7', f⟩
        have f7 := f6.trans f
        have HR7 := Lib.hid r7; have HD7 := Lib.hid d7'; have HN7 := Lib.hid (HN6.out.fine f)
        clear r7 d7' f6 f a1 HO6 HN6
        go_upto_region 21 with (fail)
        have b8 : Blk (w7.alloc (.cells #[.int .i64 (N 0), .int .i64 (N 1), .int .i64 (N 2), .int .i64 (N 3), .int .u32 (N 4), .int .u32 (N 5), .bool (decide (N 6 = 1)), .bool (decide (N 7 = 1)), .bool (decide (N 8 = 1)), .bool (decide (N 9 = 1)), .int .i64 (N 10), .slice A7 n c7, .slice B7 m d7] 26)) w7.heap.size 26 #[.int .i64 (N 0), .int .i64 (N 1), .int .i64 (N 2), .int .i64 (N 3), .int .u32 (N 4), .int .u32 (N 5), .bool (decide (N 6 = 1)), .bool (decide (N 7 = 1)), .bool (decide (N 8 = 1)), .bool (decide (N 9 = 1)), .int .i64 (N 10), .slice A7 n c7, .slice B7 m d7] := Blk.new w7 26 _
        have f : Fine w7 (w7.alloc (.cells #[.int .i64 (N 0), .int .i64 (N 1), .int .i64 (N 2), .int .i64 (N 3), .int .u32 (N 4), .int .u32 (N 5), .bool (decide (N 6 = 1)), .bool (decide (N 7 = 1)), .bool (decide (N 8 = 1)), .bool (decide (N 9 = 1)), .int .i64 (N 10), .slice A7 n c7, .slice B7 m d7] 26)) := (Fine.refl w7).alloc _
        generalize (w7.alloc (.cells #[.int .i64 (N 0), .int .i64 (N 1), .int .i64 (N 2), .int .i64 (N 3), .int .u32 (N 4), .int .u32 (N 5), .bool (decide (N 6 = 1)), .bool (decide (N 7 = 1)), .bool (decide (N 8 = 1)), .bool (decide (N 9 = 1)), .int .i64 (N 10), .slice A7 n c7, .slice B7 m d7] 26)) = w8 at b8 f ⊢
        generalize w7.heap.size = x8 at b8 ⊢
        have f8 := f7.trans f
        have HR8 := Lib.hid (HR7.out.fine f); have HD8 := Lib.hid (HD7.out.fine f); have HN8 := Lib.hid (HN7.out.fine f)
        have B8 := Lib.hid (B1.out.fine f8)
        have a0 : w8.cell? ⟨x1, 0, none⟩ = some (.int .i64 (N 0)) := B8.out.cell 0
        have a1 : w8.cell? ⟨x1, 1, none⟩ = some (.int .i64 (N 1)) := B8.out.cell 1
        have a2 : w8.cell? ⟨x1, 2, none⟩ = some (.int .i64 (N 2)) := B8.out.cell 2
        have a3 : w8.cell? ⟨x1, 3, none⟩ = some (.int .i64 (N 3)) := B8.out.cell 3
        have a4 : w8.cell? ⟨x1, 4, none⟩ = some (.int .u32 (N 4)) := B8.out.cell 4
        have a5 : w8.cell? ⟨x1, 5, none⟩ = some (.int .u32 (N 5)) := B8.out.cell 5
        have a6 : w8.cell? ⟨x1, 6, none⟩ = some (.bool (decide (N 6 = 1))) := B8.out.cell 6
        have a7 : w8.cell? ⟨x1, 7, none⟩ = some (.bool (decide (N 7 = 1))) := B8.out.cell 7
        have a8 : w8.cell? ⟨x1, 8, none⟩ = some (.bool (decide (N 8 = 1))) := B8.out.cell 8
        have a9 : w8.cell? ⟨x1, 9, none⟩ = some (.bool (decide (N 9 = 1))) := B8.out.cell 9
        have a10 : w8.cell? ⟨x1, 10, none⟩ = some (.int .i64 (N 10)) := B8.out.cell 10
        have a11 : w8.cell? ⟨x1, 11, none⟩ = some (.slice A n c) := B8.out.cell 11
        have a12 : w8.cell? ⟨x1, 12, none⟩ = some (.slice B m d) := B8.out.cell 12
        have g0 : w8.cell? ⟨x8, 0, none⟩ = some (.int .i64 (N 0)) := b8.cell 0
        have g1 : w8.cell? ⟨x8, 1, none⟩ = some (.int .i64 (N 1)) := b8.cell 1
        have g2 : w8.cell? ⟨x8, 2, none⟩ = some (.int .i64 (N 2)) := b8.cell 2
        have g3 : w8.cell? ⟨x8, 3, none⟩ = some (.int .i64 (N 3)) := b8.cell 3
        have g4 : w8.cell? ⟨x8, 4, none⟩ = some (.int .u32 (N 4)) := b8.cell 4
        have g5 : w8.cell? ⟨x8, 5, none⟩ = some (.int .u32 (N 5)) := b8.cell 5
        have g6 : w8.cell? ⟨x8, 6, none⟩ = some (.bool (decide (N 6 = 1))) := b8.cell 6
        have g7 : w8.cell? ⟨x8, 7, none⟩ = some (.bool (decide (N 7 = 1))) := b8.cell 7
        have g8 : w8.cell? ⟨x8, 8, none⟩ = some (.bool (decide (N 8 = 1))) := b8.cell 8
        have g9 : w8.cell? ⟨x8, 9, none⟩ = some (.bool (decide (N 9 = 1))) := b8.cell 9
        have g10 : w8.cell? ⟨x8, 10, none⟩ = some (.int .i64 (N 10)) := b8.cell 10
        have g11 : w8.cell? ⟨x8, 11, none⟩ = some (.slice A7 n c7) := b8.cell 11
        have g12 : w8.cell? ⟨x8, 12, none⟩ = some (.slice B7 m d7) := b8.cell 12
        clear f f7 b8 HR7 HD7 HN7
        go_wp2_with fail
        refine (same_seg N N A7 B7 A B n n m m c7 d7 c d w8 l l xs xs HNL.out HNL.out HML.out HML.out (by have := HNL.out; have := HNM.out; omega) (by have := HNL.out; have := HNM.out; omega) HR8.out (H12.out.fine f8) HD8.out (H22.out.fine f8)).mono ?_
        rintro x w9 ⟨rfl, f⟩
        rw [sameS_self]
        have f9 := f8.trans f
        have HLEN := Lib.hid (len_any w2.heap.size g [] w9 (HN8.out.fine f))
        clear a0 a1 a2 a3 a4 a5 a6 a7 a8 a9 a10 a11 a12
        clear g0 g1 g2 g3 g4 g5 g6 g7 g8 g9 g10 g11 g12
        clear f8 f
        go_wp2_with fail
        refine HLEN.out.mono ?_
        rintro x w10 ⟨rfl, f⟩
        have f10 := HF2.out.trans (f9.trans f)
        clear f9 f
        go_wp2_with fail
        go_ret
        exact ⟨rfl, f10⟩
end Go.Proofs.YthnennleblgjeaaDoor
