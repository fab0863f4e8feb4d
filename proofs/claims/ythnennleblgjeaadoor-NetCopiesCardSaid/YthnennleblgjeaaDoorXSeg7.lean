/- segment.Put. -/
import Derived.Test.YthnennleblgjeaaDoorXSeg6
namespace Go.Proofs.YthnennleblgjeaaDoor
set_option linter.unusedVariables false
set_option linter.unusedSimpArgs false
open Go.ChangeShapes Go.WideShapes Go.ChangeAt Go.RowKit
set_option linter.unusedVariables false
set_option linter.unusedSimpArgs false
set_option maxHeartbeats 4000000 in
set_option maxRecDepth 100000 in
theorem segPut_any (N : Nat → Int) (A B : Option Addr) (n c m d : Nat) (l : List (Nat → Int)) (xs : List Int) (hn : n = l.length) (hm : m = xs.length) (hl : l.length ≤ 1000) (hN : OkN N) (hV : ∀ V ∈ l, OkV V) (w : World) (hT : TabW w) (h1 : RS layO w A c l) (h2 : BS w B d xs) :
    Calls Tryd.prog 14 #[.agg (segL N (.slice A n c) (.slice B m d)).toArray] w (SegPut N l xs w) := by
  have H1 := Lib.hid h1; clear h1
  have H2 := Lib.hid h2; clear h2
  have HT := Lib.hid hT; clear hT
  have HNL := Lib.hid hn; clear hn
  have HML := Lib.hid hm; clear hm
  go_enter Tryd.func14, Tryd.ntmps14
  go_wp2_with fail
  have b1 : Blk (w.alloc (.cells (segL N (.slice A n c) (.slice B m d)).toArray 26)) w.heap.size 26 (segL N (.slice A n c) (.slice B m d)).toArray := Blk.new w 26 _
  have f1 : Fine w (w.alloc (.cells (segL N (.slice A n c) (.slice B m d)).toArray 26)) := (Fine.refl w).alloc _
  obtain ⟨x1, hx1⟩ : ∃ x1, w.heap.size = x1 := ⟨_, rfl⟩
  generalize (w.alloc (.cells (segL N (.slice A n c) (.slice B m d)).toArray 26)) = w1 at b1 f1 ⊢
  rw [hx1] at b1 ⊢
  clear hx1
  refine (segRight_any N A B n c m d l xs HNL.out HML.out hV w1 (H1.out.fine f1)).mono ?_
  rintro x w2 ⟨rfl, f⟩
  have b2 := b1.fine f
  have f2 := f1.trans f
  clear b1 f1 f
  obtain ⟨q, hq⟩ : ∃ q, segRightB N l xs = q := ⟨_, rfl⟩
  rw [hq]
  have HQ := Lib.hid hq; clear hq
  cases q
  · go_wp2_with fail
    go_ret2
    exact ⟨f2, .inr ⟨HQ.out, rfl⟩⟩
  · obtain ⟨r0, r1, r2, r3, r10, ro, rd, ra⟩ := segRight_iff.mp HQ.out
    have HRA := Lib.hid ra; clear ra
    have hnb : 0 ≤ (n : Int) ∧ (n : Int) ≤ 4 := by have := HNL.out; omega
    have hmb : 0 ≤ (m : Int) ∧ (m : Int) ≤ 8 := by have := HML.out; omega
    have h4 := hN.u32 (j := 4) (by decide) rfl
    have h5 := hN.u32 (j := 5) (by decide) rfl
    have HAT := Lib.hid (head_at N n m hN r0 r1 r2 r3 r10 hnb hmb)
    have m0 : N 0 % 18446744073709551616 = N 0 := by omega
    have m1 : N 1 % 18446744073709551616 = N 1 := by omega
    have m2 : N 2 % 18446744073709551616 = N 2 := by omega
    have m3 : N 3 % 18446744073709551616 = N 3 := by omega
    have m4 : N 4 % 18446744073709551616 = N 4 := by omega
    have m5 : N 5 % 18446744073709551616 = N 5 := by omega
    have m6 : N 10 % 18446744073709551616 = N 10 := by omega
    have m7 : (n : Int) % 18446744073709551616 = (n : Int) := by omega
    have m8 : (m : Int) % 18446744073709551616 = (m : Int) := by omega
    have k0 : IntKind.u64.wrap (N 0) = N 0 := by rw [IntKind.wrap_u64]; exact m0
    have k1 : IntKind.u64.wrap (N 1) = N 1 := by rw [IntKind.wrap_u64]; exact m1
    have k2 : IntKind.u64.wrap (N 2) = N 2 := by rw [IntKind.wrap_u64]; exact m2
    have k3 : IntKind.u64.wrap (N 3) = N 3 := by rw [IntKind.wrap_u64]; exact m3
    have k4 : IntKind.u64.wrap (N 4) = N 4 := by rw [IntKind.wrap_u64]; exact m4
    have k5 : IntKind.u64.wrap (N 5) = N 5 := by rw [IntKind.wrap_u64]; exact m5
    have k6 : IntKind.u64.wrap (N 10) = N 10 := by rw [IntKind.wrap_u64]; exact m6
    have k7 : IntKind.u64.wrap (n : Int) = (n : Int) := by rw [IntKind.wrap_u64]; exact m7
    have k8 : IntKind.u64.wrap (m : Int) = (m : Int) := by rw [IntKind.wrap_u64]; exact m8
    clear r0 r1 r2 r3 r10 hnb hmb h4 h5 m0 m1 m2 m3 m4 m5 m6 m7 m8
    have HK : Hid (∀ w', Fine w2 w' → (fun w' => w'.cell? ⟨x1, 0, none⟩ = some (.int .i64 (N 0)) ∧ w'.cell? ⟨x1, 1, none⟩ = some (.int .i64 (N 1)) ∧ w'.cell? ⟨x1, 2, none⟩ = some (.int .i64 (N 2)) ∧ w'.cell? ⟨x1, 3, none⟩ = some (.int .i64 (N 3)) ∧ w'.cell? ⟨x1, 4, none⟩ = some (.int .u32 (N 4)) ∧ w'.cell? ⟨x1, 5, none⟩ = some (.int .u32 (N 5)) ∧ w'.cell? ⟨x1, 6, none⟩ = some (.bool (decide (N 6 = 1))) ∧ w'.cell? ⟨x1, 7, none⟩ = some (.bool (decide (N 7 = 1))) ∧ w'.cell? ⟨x1, 8, none⟩ = some (.bool (decide (N 8 = 1))) ∧ w'.cell? ⟨x1, 9, none⟩ = some (.bool (decide (N 9 = 1))) ∧ w'.cell? ⟨x1, 10, none⟩ = some (.int .i64 (N 10)) ∧ w'.cell? ⟨x1, 11, none⟩ = some (.slice A n c) ∧ w'.cell? ⟨x1, 12, none⟩ = some (.slice B m d)) w') := Lib.hid (fun w' hk => by
      have b := b2.fine hk
      exact ⟨b.cell 0, b.cell 1, b.cell 2, b.cell 3, b.cell 4, b.cell 5, b.cell 6, b.cell 7, b.cell 8, b.cell 9, b.cell 10, b.cell 11, b.cell 12⟩)
    have HZ : Hid (∀ x wB, Blk wB x 61 #[.int .u64 0, .int .u64 0, .int .u64 0, .int .u64 0, .int .u64 0, .int .u64 0, .int .u64 0, .int .u64 0, .int .u64 0, .int .u64 0] → ∀ wA, Fine wB wA → wA.cell? ⟨x, 0, none⟩ = some (.int .u64 0) ∧ wA.cell? ⟨x, 1, none⟩ = some (.int .u64 0) ∧ wA.cell? ⟨x, 2, none⟩ = some (.int .u64 0) ∧ wA.cell? ⟨x, 3, none⟩ = some (.int .u64 0) ∧ wA.cell? ⟨x, 4, none⟩ = some (.int .u64 0) ∧ wA.cell? ⟨x, 5, none⟩ = some (.int .u64 0) ∧ wA.cell? ⟨x, 6, none⟩ = some (.int .u64 0) ∧ wA.cell? ⟨x, 7, none⟩ = some (.int .u64 0) ∧ wA.cell? ⟨x, 8, none⟩ = some (.int .u64 0) ∧ wA.cell? ⟨x, 9, none⟩ = some (.int .u64 0) ∧ wA.frozen? ⟨x, 0, none⟩ = false ∧ wA.frozen? ⟨x, 1, none⟩ = false ∧ wA.frozen? ⟨x, 2, none⟩ = false ∧ wA.frozen? ⟨x, 3, none⟩ = false ∧ wA.frozen? ⟨x, 4, none⟩ = false ∧ wA.frozen? ⟨x, 5, none⟩ = false ∧ wA.frozen? ⟨x, 6, none⟩ = false ∧ wA.frozen? ⟨x, 7, none⟩ = false ∧ wA.frozen? ⟨x, 8, none⟩ = false ∧ wA.frozen? ⟨x, 9, none⟩ = false ∧ Hid (Blk wA x 61 #[.int .u64 0, .int .u64 0, .int .u64 0, .int .u64 0, .int .u64 0, .int .u64 0, .int .u64 0, .int .u64 0, .int .u64 0, .int .u64 0])) := Lib.hid (fun x wB hb wA hf => by
      have b := hb.fine hf
      exact ⟨b.cell 0, b.cell 1, b.cell 2, b.cell 3, b.cell 4, b.cell 5, b.cell 6, b.cell 7, b.cell 8, b.cell 9, b.frozen 0, b.frozen 1, b.frozen 2, b.frozen 3, b.frozen 4, b.frozen 5, b.frozen 6, b.frozen 7, b.frozen 8, b.frozen 9, Lib.hid b⟩)
    have B2 := Lib.hid b2; clear b2
    go_upto_region 3 with (fail)
    go_cut [4] (fun s4 wx => ∃ x4, s4 = .pointer (some ⟨x4, 0, none⟩) ∧ Hid (Fine w2 wx ∧ Blk wx x4 61 #[.int .u64 (N 0), .int .u64 (N 1), .int .u64 (N 2), .int .u64 (N 3), .int .u64 (N 4), .int .u64 (N 5), .int .u64 (flagsN N), .int .u64 (N 10), .int .u64 n, .int .u64 m]))
    case first =>
      go_region_held3 (fun w' => w'.cell? ⟨x1, 0, none⟩ = some (.int .i64 (N 0)) ∧ w'.cell? ⟨x1, 1, none⟩ = some (.int .i64 (N 1)) ∧ w'.cell? ⟨x1, 2, none⟩ = some (.int .i64 (N 2)) ∧ w'.cell? ⟨x1, 3, none⟩ = some (.int .i64 (N 3)) ∧ w'.cell? ⟨x1, 4, none⟩ = some (.int .u32 (N 4)) ∧ w'.cell? ⟨x1, 5, none⟩ = some (.int .u32 (N 5)) ∧ w'.cell? ⟨x1, 6, none⟩ = some (.bool (decide (N 6 = 1))) ∧ w'.cell? ⟨x1, 7, none⟩ = some (.bool (decide (N 7 = 1))) ∧ w'.cell? ⟨x1, 8, none⟩ = some (.bool (decide (N 8 = 1))) ∧ w'.cell? ⟨x1, 9, none⟩ = some (.bool (decide (N 9 = 1))) ∧ w'.cell? ⟨x1, 10, none⟩ = some (.int .i64 (N 10)) ∧ w'.cell? ⟨x1, 11, none⟩ = some (.slice A n c) ∧ w'.cell? ⟨x1, 12, none⟩ = some (.slice B m d)) ((refine HK.out _ ?_; (try ((with_reducible refine Fine.ten ?_ ?_); (first | exact Nat.le_of_eq hx4 | exact Nat.le_trans (Nat.le_succ _) (Nat.le_of_eq hx4)))); repeat (first | with_reducible exact Fine.refl _ | with_reducible refine Fine.trans ?_ fA | with_reducible refine Fine.alloc ?_ _ | with_reducible refine Fine.drew ?_))) (first | (go_at_call 33; refine (segset4 N _ _ ?_).mono ?_; (repeat (first | with_reducible exact Blk.new _ _ _ | ((with_reducible refine Blk.newAt ?_); simp) | with_reducible refine Blk.drew ?_ | with_reducible refine Blk.alloc ?_ _)); rintro x wA ⟨rfl, fA⟩; (try (have zz := HZ.out w2.heap.size _ ?_ _ fA; rotate_left; (repeat (first | with_reducible exact Blk.new _ _ _ | ((with_reducible refine Blk.newAt ?_); simp) | with_reducible refine Blk.drew ?_ | with_reducible refine Blk.alloc ?_ _)); generalize hx4 : w2.heap.size = x4 at zz ⊢; obtain ⟨zz0, zz1, zz2, zz3, zz4, zz5, zz6, zz7, zz8, zz9, yy0, yy1, yy2, yy3, yy4, yy5, yy6, yy7, yy8, yy9, zb⟩ := zz)); (try (have zz := HZ.out (w2.heap.size + 1) _ ?_ _ fA; rotate_left; (repeat (first | with_reducible exact Blk.new _ _ _ | ((with_reducible refine Blk.newAt ?_); simp) | with_reducible refine Blk.drew ?_ | with_reducible refine Blk.alloc ?_ _)); generalize hx4 : w2.heap.size + 1 = x4 at zz ⊢; obtain ⟨zz0, zz1, zz2, zz3, zz4, zz5, zz6, zz7, zz8, zz9, yy0, yy1, yy2, yy3, yy4, yy5, yy6, yy7, yy8, yy9, zb⟩ := zz))))
      all_goals go_wp2_with fail
      all_goals go_meet
      all_goals refine ⟨_, rfl, Lib.hid ⟨?_, ?_⟩⟩
      all_goals first
        | with_reducible exact Blk.new _ _ _
        | with_reducible exact Blk.ten zb.out
        | ((try ((with_reducible refine Fine.ten ?_ ?_); (first | exact Nat.le_of_eq hx4 | exact Nat.le_trans (Nat.le_succ _) (Nat.le_of_eq hx4)))); (repeat (first | with_reducible exact Fine.refl _ | with_reducible refine Fine.trans ?_ fA | with_reducible refine Fine.alloc ?_ _ | with_reducible refine Fine.drew ?_)); done)
    case rest =>
      obtain ⟨x4, rfl, HX⟩ := hcut
      obtain ⟨t, fr, ht⟩ := HT.out.fine (f2.trans HX.out.1)
      have HTW := Lib.hid ht; clear ht
      clear k0 k1 k2 k3 k4 k5 k6 k7 k8 HK HZ
      go_wp2_with (refine wpList_load_row rfl 62 _ rfl 0 rfl t _ fr _ HTW.out Tryd.underlying62 rfl (by kernel_rfl) ?_)
      go_loopw [5, 55] (fun s5 s55 wr => ∃ k : Nat, k ≤ 10 ∧ s55 = .int .i64 k ∧ Hid (Fine wc wr ∧ OwnB wr w.heap.size s5 (rowB ((headNs N n m).take k)))) (fun _ s55 _ => 10 - (intOf s55).toNat)
      case atStart => exact ⟨0, by omega, rfl, Lib.hid ⟨Fine.refl _, OwnB.nil_ _ _⟩⟩
      case round =>
        obtain ⟨k, hk, rfl, HR⟩ := hrel
        by_cases hlt : k < 10
        · obtain ⟨wd, x, e1, e2, hx, hwd, hX⟩ := HAT.out k hlt
          have cx : wr.cell? ⟨x4, k, none⟩ = some (.int .u64 x) := ((HX.out.2.fine HR.out.1).cell k).trans e2
          obtain ⟨ls, hls⟩ : ∃ ls, rowB ((headNs N n m).take k) = ls := ⟨_, rfl⟩
          have hnx : rowB ((headNs N n m).take (k + 1)) = ls ++ be wd x := by
            rw [List.take_add_one, e1, ← hls]
            exact rowB_snoc _ _
          have hll : ls.length ≤ 100 := by
            rw [← hls]
            have := flatMap_len (fun p : Nat × Int => be p.1 p.2) 4 ((headNs N n m).take k) (fun p hp => by
              have hp := List.mem_of_mem_take hp
              rw [be_length]
              simp [headNs] at hp
              rcases hp with rfl | rfl | rfl | rfl | rfl | rfl | rfl | rfl | rfl | rfl <;> simp)
            have h2 : ((headNs N n m).take k).length ≤ 10 := by rw [List.length_take]; omega
            unfold rowB
            omega
          have hR := HR.out
          rw [hls] at hR
          have HNX := Lib.hid hnx
          have HLL := Lib.hid hll
          have HX0 := Lib.hid hx
          have HWD := Lib.hid hwd
          obtain ⟨A1, d1, rfl, hb, _⟩ := hR.2.form
          have HB := Lib.hid hb
          have HF := Lib.hid hR.1
          clear hls hnx hll e1 e2 hb hR hx hwd
          go_wp2_with fail
          refine (put_n A1 ls.length d1 ls x HX0.out wd wr HB.out rfl (by have := HLL.out; omega)).mono ?_
          rintro y wn ⟨v, rfl, o, f⟩
          rw [HWD.out] at o
          have HN2 : Hid (Fine wc wn ∧ OwnB wn w.heap.size v (rowB ((headNs N n m).take (k + 1)))) := Lib.hid ⟨HF.out.trans f, by rw [HNX.out]; exact o.lower ((f2.trans HX.out.1).trans HF.out).size⟩
          clear o cx
          go_wp2_with fail
          exact ⟨⟨k + 1, hlt, by simp, HN2⟩, by simp only [intOf]; omega⟩
        · have hke : k = 10 := by omega
          subst hke
          have hh : OwnB wr w.heap.size u5 (headB N n m) := HR.out.2
          have f3 : Fine w2 wr := HX.out.1.trans HR.out.1
          have hhl := headB_len N n m
          have hHB : headB N n m = headB N l.length xs.length := by rw [HNL.out, HML.out]
          obtain ⟨hd, hhd⟩ : ∃ hd, headB N n m = hd := ⟨_, rfl⟩
          rw [hhd] at hh hhl hHB
          have c11 : wr.cell? ⟨x1, 11, none⟩ = some (.slice A n c) := (B2.out.fine f3).cell 11
          obtain ⟨A5, d5, rfl, hb5, _⟩ := hh.form
          have HB5 := Lib.hid hb5
          have HHL := Lib.hid hhl
          have HHB := Lib.hid hHB
          have f03 := f2.trans f3
          clear hh hhl hHB hb5 hhd HR HAT
          go_wp2_with fail
          refine (optPut_n A n c l HNL.out (by omega) hV wr (H1.out.fine f03)).mono ?_
          rintro y w4 ⟨f4, ⟨v, h1, rfl, o4⟩ | ⟨⟨V, h1, h3⟩, rfl⟩⟩
          · obtain ⟨A8, d8, rfl, hb8, _⟩ := o4.form
            obtain ⟨os, hos⟩ : ∃ os, l.flatMap optB = os := ⟨_, rfl⟩
            have hosl := flatOpt_len l h1 ro
            rw [hos] at hb8 hosl ⊢
            have HB8 := Lib.hid hb8
            have HOS := Lib.hid hos
            have HOL := Lib.hid hosl
            have f04 := f03.trans f4
            have c12 : w4.cell? ⟨x1, 12, none⟩ = some (.slice B m d) := ((B2.out.fine f3).fine f4).cell 12
            have HB5' := Lib.hid (HB5.out.fine f4)
            clear hb8 hos hosl o4 c11 h1 HB5
            go_wp2_with fail
            have hfl : [hd, os, xs].flatten = segB N l xs := by
              unfold segB
              rw [← HHB.out, HOS.out]
              simp
            have hsl : (segB N l xs).length ≤ 1000 := by
              rw [← hfl]
              have := HHL.out
              have := HOL.out
              simp
              omega
            obtain ⟨sg, hsg⟩ : ∃ sg, segB N l xs = sg := ⟨_, rfl⟩
            rw [hsg] at hfl hsl
            have HSG := Lib.hid hsg
            have HSL := Lib.hid hsl
            have HFL := Lib.hid hfl
            clear hsg hsl hfl
            have bb : Blk (w4.alloc (.cells #[.slice A5 hd.length d5, .slice A8 os.length d8, .slice B m d] 24)) w4.heap.size 24 #[.slice A5 hd.length d5, .slice A8 os.length d8, .slice B m d] := Blk.new w4 24 _
            have fb : Fine w4 (w4.alloc (.cells #[.slice A5 hd.length d5, .slice A8 os.length d8, .slice B m d] 24)) := (Fine.refl w4).alloc _
            have hj := BSS.three bb rfl rfl HML.out (HB5'.out.fine fb) (HB8.out.fine fb) (H2.out.fine (f04.trans fb))
            refine (join_any _ 3 3 [hd, os, xs] _ hj rfl (by rw [HFL.out]; have := HSL.out; omega) (by simp)).mono ?_
            rintro y w5 ⟨v5, rfl, o5, f5⟩
            rw [HFL.out] at o5
            have f05 := (f04.trans fb).trans f5
            obtain ⟨A6, d6, rfl, hb6, _⟩ := o5.form
            have HB6 := Lib.hid hb6
            clear o5 hb6 hj bb fb f5
            go_wp2_with fail
            refine (sumput_n A6 sg.length d6 sg rfl w5 HB6.out (by have := HSL.out; omega)).mono ?_
            rintro y w6 ⟨v6, rfl, o6, f6⟩
            go_wp2_with fail
            go_ret2
            exact ⟨f05.trans f6, .inl ⟨HQ.out, _, rfl, by rw [HSG.out]; exact o6.lower f05.size⟩⟩
          · exfalso
            rw [HRA.out V h1] at h3
            cases h3
end Go.Proofs.YthnennleblgjeaaDoor
