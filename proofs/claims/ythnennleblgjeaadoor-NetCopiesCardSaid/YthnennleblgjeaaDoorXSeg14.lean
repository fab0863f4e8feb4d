/- segment.heads, of a right segment's bytes. -/
import Derived.Test.YthnennleblgjeaaDoorXSeg8
namespace Go.Proofs.YthnennleblgjeaaDoor
set_option linter.unusedVariables false
set_option linter.unusedSimpArgs false
open Go.ChangeShapes Go.WideShapes Go.ChangeAt Go.RowKit
set_option linter.unusedVariables false
set_option linter.unusedSimpArgs false
theorem OwnB.farT {w w' : World} {base x : Nat} {v : Value} {xs : List Int} {t : TypeId} {cs : Array Value} (h : OwnB w base v xs) (ht : t ≠ 5) (hx : Blk w x t cs) (hk : Kept (fun k => k = x) w w') : OwnB w' base v xs := by
  refine ⟨h.1, h.2.1, ?_⟩
  rcases h.2.2 with hn | ⟨g, cap, cur, hv, hb, hg, rest⟩
  · exact .inl hn
  · refine .inr ⟨g, cap, cur, hv, hb, ?_, rest⟩
    have hb' : Blk w g 5 cur := hg
    exact hb'.kept hk (hb'.ne_ hx (fun e => ht e.symm))
theorem Kept.setC {a w' : World} {b i : Nat} {u : Value} (h : Kept (fun x => x = b) a w') : Kept (fun x => x = b) a (w'.setCell ⟨b, i, none⟩ u) := h.setIn (p := ⟨b, i, none⟩) rfl u
def hd (N : Nat → Int) (n m : Int) : Nat → Int
  | 0 => N 0 | 1 => N 1 | 2 => N 2 | 3 => N 3 | 4 => N 4 | 5 => N 5 | 6 => flagsN N | 7 => N 10 | 8 => n | _ => m
def wdt : Nat → Nat
  | 0 => 1 | 1 => 1 | 2 => 2 | 3 => 2 | 4 => 4 | 5 => 4 | 6 => 1 | 7 => 2 | 8 => 1 | _ => 1
theorem num_be2 (n : Int) : num (be 2 n) = n % 65536 := by
  have h : be 2 n = [n / 256 % 256, n % 256] := by simp [be]
  rw [h]
  simp [num]
  omega
def PH (N : Nat → Int) (n m : Int) (k : Nat) : Array Value := #[.int .u64 (if 0 < k then hd N n m 0 else 0), .int .u64 (if 1 < k then hd N n m 1 else 0), .int .u64 (if 2 < k then hd N n m 2 else 0), .int .u64 (if 3 < k then hd N n m 3 else 0), .int .u64 (if 4 < k then hd N n m 4 else 0), .int .u64 (if 5 < k then hd N n m 5 else 0), .int .u64 (if 6 < k then hd N n m 6 else 0), .int .u64 (if 7 < k then hd N n m 7 else 0), .int .u64 (if 8 < k then hd N n m 8 else 0), .int .u64 (if 9 < k then hd N n m 9 else 0)]
theorem PH_set (N : Nat → Int) (n m : Int) (k : Nat) (hk : k < 10) : (PH N n m k).setIfInBounds k (.int .u64 (hd N n m k)) = PH N n m (k + 1) := by
  match k, hk with
  | 0, _ => rfl | 1, _ => rfl | 2, _ => rfl | 3, _ => rfl | 4, _ => rfl | 5, _ => rfl | 6, _ => rfl | 7, _ => rfl | 8, _ => rfl | 9, _ => rfl
theorem PH_at (N : Nat → Int) (n m : Int) (k : Nat) (hk : k < 10) : (PH N n m k)[k]? = some (.int .u64 0) := by
  match k, hk with
  | 0, _ => rfl | 1, _ => rfl | 2, _ => rfl | 3, _ => rfl | 4, _ => rfl | 5, _ => rfl | 6, _ => rfl | 7, _ => rfl | 8, _ => rfl | 9, _ => rfl
theorem head_get (N : Nat → Int) (n m : Int) (hN : OkN N) (h0 : 0 ≤ N 0 ∧ N 0 ≤ 3) (h1 : 0 ≤ N 1 ∧ N 1 ≤ 3) (h2 : 0 ≤ N 2 ∧ N 2 ≤ 65535) (h3 : 0 ≤ N 3 ∧ N 3 ≤ 65535) (h10 : 0 ≤ N 10 ∧ N 10 ≤ 65535) (hn : 0 ≤ n ∧ n ≤ 4) (hm : 0 ≤ m ∧ m ≤ 8) (k : Nat) (hk : k < 10) :
    (headNs N n m).drop k = (wdt k, hd N n m k) :: (headNs N n m).drop (k + 1) ∧ num (be (wdt k) (hd N n m k)) = hd N n m k ∧ width (wdt k) = wdt k ∧ wdt k ≤ 8 ∧
      ∀ w : World, (Instr.index 62 (.agg #[.int .i64 1, .int .i64 1, .int .i64 2, .int .i64 2, .int .i64 4, .int .i64 4, .int .i64 1, .int .i64 2, .int .i64 1, .int .i64 1]) (.int .i64 k)).run Tryd.prog w = .ok (.int .i64 (wdt k)) w := by
  have h4 := hN.u32 (j := 4) (by decide) rfl
  have h5 := hN.u32 (j := 5) (by decide) rfl
  have h6 := flagsN_bd N
  match k, hk with
  | 0, _ => exact ⟨rfl, (num_be1 (N 0)).trans (show N 0 % 256 = N 0 by omega), rfl, by decide, fun w => by kernel_rfl⟩
  | 1, _ => exact ⟨rfl, (num_be1 (N 1)).trans (show N 1 % 256 = N 1 by omega), rfl, by decide, fun w => by kernel_rfl⟩
  | 2, _ => exact ⟨rfl, (num_be2 (N 2)).trans (show N 2 % 65536 = N 2 by omega), rfl, by decide, fun w => by kernel_rfl⟩
  | 3, _ => exact ⟨rfl, (num_be2 (N 3)).trans (show N 3 % 65536 = N 3 by omega), rfl, by decide, fun w => by kernel_rfl⟩
  | 4, _ => exact ⟨rfl, (num_be4 (N 4)).trans (show N 4 % 4294967296 = N 4 by omega), rfl, by decide, fun w => by kernel_rfl⟩
  | 5, _ => exact ⟨rfl, (num_be4 (N 5)).trans (show N 5 % 4294967296 = N 5 by omega), rfl, by decide, fun w => by kernel_rfl⟩
  | 6, _ => exact ⟨rfl, (num_be1 (flagsN N)).trans (show flagsN N % 256 = flagsN N by omega), rfl, by decide, fun w => by kernel_rfl⟩
  | 7, _ => exact ⟨rfl, (num_be2 (N 10)).trans (show N 10 % 65536 = N 10 by omega), rfl, by decide, fun w => by kernel_rfl⟩
  | 8, _ => exact ⟨rfl, (num_be1 n).trans (show n % 256 = n by omega), rfl, by decide, fun w => by kernel_rfl⟩
  | 9, _ => exact ⟨rfl, (num_be1 m).trans (show m % 256 = m by omega), rfl, by decide, fun w => by kernel_rfl⟩
set_option maxHeartbeats 4000000 in
set_option maxRecDepth 100000 in
theorem heads_any (N : Nat → Int) (n m : Nat) (rest : List Int) (A : Option Addr) (k c : Nat) (w : World) (hT : TabW w) (hN : OkN N) (h0 : 0 ≤ N 0 ∧ N 0 ≤ 3) (h1 : 0 ≤ N 1 ∧ N 1 ≤ 3) (h2 : 0 ≤ N 2 ∧ N 2 ≤ 65535) (h3 : 0 ≤ N 3 ∧ N 3 ≤ 65535) (h10 : 0 ≤ N 10 ∧ N 10 ≤ 65535) (hn : n ≤ 4) (hm : m ≤ 8)
    (h : BS w A c (headB N n m ++ rest)) (hk : k = (headB N n m ++ rest).length) (hl : rest.length ≤ 1000000) :
    Calls Tryd.prog 42 #[.slice A k c] w fun r w' => ∃ v, r = .returned (.tuple #[.agg #[.int .u64 (hd N n m 0), .int .u64 (hd N n m 1), .int .u64 (hd N n m 2), .int .u64 (hd N n m 3), .int .u64 (hd N n m 4), .int .u64 (hd N n m 5), .int .u64 (hd N n m 6), .int .u64 (hd N n m 7), .int .u64 (hd N n m 8), .int .u64 (hd N n m 9)], v, .int .i64 0]) ∧ OwnB w' w.heap.size v rest ∧ Fine w w' := by
  have HAT := Lib.hid (head_get N n m hN h0 h1 h2 h3 h10 (by omega) (by omega))
  have H := Lib.hid h; clear h
  have HK := Lib.hid hk; clear hk
  have HL := Lib.hid hl
  clear h0 h1 h2 h3 h10 hn hm hl
  go_enter Tryd.func42, Tryd.ntmps42
  obtain ⟨t, fr, ht⟩ := hT.fine (((Fine.refl w).alloc (.cells #[.int .u64 0, .int .u64 0, .int .u64 0, .int .u64 0, .int .u64 0, .int .u64 0, .int .u64 0, .int .u64 0, .int .u64 0, .int .u64 0] 61)).alloc (.cells #[.int .u64 0, .int .u64 0, .int .u64 0, .int .u64 0, .int .u64 0, .int .u64 0, .int .u64 0, .int .u64 0, .int .u64 0, .int .u64 0] 61))
  have HTW := Lib.hid ht; clear ht hT
  go_wp2_with (refine wpList_load_row rfl 62 _ rfl 0 rfl t _ fr _ HTW.out Tryd.underlying62 rfl (by kernel_rfl) ?_)
  have b2 : Blk ((w.alloc (.cells #[.int .u64 0, .int .u64 0, .int .u64 0, .int .u64 0, .int .u64 0, .int .u64 0, .int .u64 0, .int .u64 0, .int .u64 0, .int .u64 0] 61)).alloc (.cells #[.int .u64 0, .int .u64 0, .int .u64 0, .int .u64 0, .int .u64 0, .int .u64 0, .int .u64 0, .int .u64 0, .int .u64 0, .int .u64 0] 61)) w.heap.size 61 #[.int .u64 0, .int .u64 0, .int .u64 0, .int .u64 0, .int .u64 0, .int .u64 0, .int .u64 0, .int .u64 0, .int .u64 0, .int .u64 0] := (Blk.new w 61 _).alloc _
  have b5 : Blk ((w.alloc (.cells #[.int .u64 0, .int .u64 0, .int .u64 0, .int .u64 0, .int .u64 0, .int .u64 0, .int .u64 0, .int .u64 0, .int .u64 0, .int .u64 0] 61)).alloc (.cells #[.int .u64 0, .int .u64 0, .int .u64 0, .int .u64 0, .int .u64 0, .int .u64 0, .int .u64 0, .int .u64 0, .int .u64 0, .int .u64 0] 61)) (w.heap.size + 1) 61 (PH N n m 0) := Blk.newAt (by simp)
  have f1 : Fine w ((w.alloc (.cells #[.int .u64 0, .int .u64 0, .int .u64 0, .int .u64 0, .int .u64 0, .int .u64 0, .int .u64 0, .int .u64 0, .int .u64 0, .int .u64 0] 61)).alloc (.cells #[.int .u64 0, .int .u64 0, .int .u64 0, .int .u64 0, .int .u64 0, .int .u64 0, .int .u64 0, .int .u64 0, .int .u64 0, .int .u64 0] 61)) := ((Fine.refl w).alloc _).alloc _
  clear HTW
  generalize ((w.alloc (.cells #[.int .u64 0, .int .u64 0, .int .u64 0, .int .u64 0, .int .u64 0, .int .u64 0, .int .u64 0, .int .u64 0, .int .u64 0, .int .u64 0] 61)).alloc (.cells #[.int .u64 0, .int .u64 0, .int .u64 0, .int .u64 0, .int .u64 0, .int .u64 0, .int .u64 0, .int .u64 0, .int .u64 0, .int .u64 0] 61)) = w1 at b2 b5 f1 ⊢
  obtain ⟨x2, hx2⟩ : ∃ x, w.heap.size = x := ⟨_, rfl⟩
  obtain ⟨x5, hx5⟩ : ∃ x, w.heap.size + 1 = x := ⟨_, rfl⟩
  rw [hx5] at b5 ⊢
  rw [hx2] at b2 ⊢
  have HX2 := Lib.hid hx2; clear hx2
  have HX5 := Lib.hid hx5; clear hx5
  have hss : w.heap.size ≤ w1.heap.size := f1.size
  go_loopw [0, 12] (fun s0 s12 wr => ∃ i : Nat, i ≤ 10 ∧ s12 = .int .i64 i ∧ Hid (Fine w wr ∧ Blk wr x2 61 #[.int .u64 0, .int .u64 0, .int .u64 0, .int .u64 0, .int .u64 0, .int .u64 0, .int .u64 0, .int .u64 0, .int .u64 0, .int .u64 0] ∧ Blk wr x5 61 (PH N n m i) ∧ ∃ A' c', s0 = .slice A' (rowB ((headNs N n m).drop i) ++ rest).length c' ∧ BS wr A' c' (rowB ((headNs N n m).drop i) ++ rest) ∧ (i = 10 → OwnB wr w.heap.size s0 rest))) (fun _ s12 _ => 10 - (intOf s12).toNat)
  case atStart => exact ⟨0, by omega, rfl, Lib.hid ⟨f1, b2, b5, A, c, by rw [HK.out]; rfl, H.out.fine f1, fun e => by cases e⟩⟩
  case round =>
    obtain ⟨i, hi, rfl, HR⟩ := hrel
    obtain ⟨fr, br2, br5, A', c', rfl, hb, hown⟩ := HR.out
    by_cases hlt : i < 10
    · obtain ⟨e1, e2, e3, e4, hX⟩ := HAT.out i hlt
      have hz : (rowB ((headNs N n m).drop i) ++ rest) = be (wdt i) (hd N n m i) ++ (rowB ((headNs N n m).drop (i + 1)) ++ rest) := by
        rw [e1, ← List.append_assoc]; rfl
      obtain ⟨ys, hys⟩ : ∃ ys, rowB ((headNs N n m).drop (i + 1)) ++ rest = ys := ⟨_, rfl⟩
      rw [hz, hys] at hb ⊢
      have HYS := Lib.hid hys
      have HYL : Hid (ys.length ≤ 2000000) := Lib.hid (by
        rw [← hys]
        have h4 := flatMap_len (fun p : Nat × Int => be p.1 p.2) 4 ((headNs N n m).drop (i + 1)) (fun p hp => by
          have hp := List.mem_of_mem_drop hp
          rw [be_length]
          simp [headNs] at hp
          rcases hp with rfl | rfl | rfl | rfl | rfl | rfl | rfl | rfl | rfl | rfl <;> simp)
        have h2 : ((headNs N n m).drop (i + 1)).length ≤ 10 := by rw [List.length_drop]; simp [headNs]; omega
        have := HL.out
        unfold rowB
        rw [List.length_append]
        omega)
      obtain ⟨zs, hzs⟩ : ∃ zs, be (wdt i) (hd N n m i) ++ ys = zs := ⟨_, rfl⟩
      have hzt : zs.take (wdt i) = be (wdt i) (hd N n m i) := by rw [← hzs]; exact List.take_left' (be_length _ _)
      have hzd : zs.drop (wdt i) = ys := by rw [← hzs]; exact List.drop_left' (be_length _ _)
      have hzl : wdt i ≤ zs.length ∧ zs.length ≤ 3000000 := by rw [← hzs, List.length_append, be_length]; have := HYL.out; omega
      rw [hzs] at hb ⊢
      obtain ⟨hv, hhv⟩ : ∃ x, hd N n m i = x := ⟨_, rfl⟩
      have hps := PH_set N n m i hlt
      have hpa := PH_at N n m i hlt
      rw [hhv] at e2 hzt hps
      have b5' := br5.set_ i (.int .u64 hv)
      rw [hps] at b5'
      obtain ⟨wd, hwd⟩ : ∃ x, wdt i = x := ⟨_, rfl⟩
      rw [hwd] at e2 e3 hzt hzd hzl hX
      have E2 := Lib.hid e2
      have E3 := Lib.hid e3
      have HZT := Lib.hid hzt
      have HZD := Lib.hid hzd
      have HZL := Lib.hid hzl
      have HB := Lib.hid hb
      have HPS := Lib.hid hps
      have HPA := Lib.hid hpa
      have BR2 := Lib.hid br2
      have BR5 := Lib.hid br5
      have FR := Lib.hid fr
      clear e1 e2 e3 e4 hz hys hzs hzt hzd hzl hb hhv hps hpa hwd br2 br5 fr HR b5' hown
      go_wp2_with fail
      refine (take_n A' zs.length c' zs wd (by rw [E3.out]; exact HZL.out.1) (by have := HZL.out; omega) wr HB.out rfl).mono ?_
      rintro e w3 ⟨v, rfl, o3, f3⟩
      rw [E3.out] at o3 ⊢
      rw [HZT.out, E2.out]
      rw [HZD.out] at o3
      have c5 : w3.cell? ⟨x5, i, none⟩ = some (.int .u64 0) := ((BR5.out.fine f3).cell i).trans HPA.out
      have z5 : w3.frozen? ⟨x5, i, none⟩ = false := (BR5.out.fine f3).frozen i
      have hb5 : Blk (w3.setCell ⟨x5, i, none⟩ (.int .u64 hv)) x5 61 (PH N n m (i + 1)) := by
        have h := (BR5.out.fine f3).set_ i (.int .u64 hv)
        rw [HPS.out] at h
        exact h
      have hne : x2 ≠ x5 := by have := HX2.out; have := HX5.out; omega
      have hb2 : Blk (w3.setCell ⟨x5, i, none⟩ (.int .u64 hv)) x2 61 #[.int .u64 0, .int .u64 0, .int .u64 0, .int .u64 0, .int .u64 0, .int .u64 0, .int .u64 0, .int .u64 0, .int .u64 0, .int .u64 0] := (BR2.out.fine f3).far hne _
      have hlx := BR5.out.lt
      have f3' : Fine w3 w3 := Fine.refl w3
      have hszr := FR.out.size
      obtain ⟨A3, c3, rfl, hb3, _⟩ := o3.form
      have hfar : Fine w (w3.setCell ⟨x5, i, none⟩ (.int .u64 hv)) := (FR.out.trans f3).setCell (by show w.heap.size ≤ x5; have := HX5.out; omega) _
      have HN2 : Hid (Fine w (w3.setCell ⟨x5, i, none⟩ (.int .u64 hv)) ∧ Blk (w3.setCell ⟨x5, i, none⟩ (.int .u64 hv)) x2 61 #[.int .u64 0, .int .u64 0, .int .u64 0, .int .u64 0, .int .u64 0, .int .u64 0, .int .u64 0, .int .u64 0, .int .u64 0, .int .u64 0] ∧ Blk (w3.setCell ⟨x5, i, none⟩ (.int .u64 hv)) x5 61 (PH N n m (i + 1)) ∧ ∃ A' c', (Value.slice A3 ys.length c3) = .slice A' (rowB ((headNs N n m).drop (i + 1)) ++ rest).length c' ∧ BS (w3.setCell ⟨x5, i, none⟩ (.int .u64 hv)) A' c' (rowB ((headNs N n m).drop (i + 1)) ++ rest) ∧ (i + 1 = 10 → OwnB (w3.setCell ⟨x5, i, none⟩ (.int .u64 hv)) w.heap.size (.slice A3 ys.length c3) rest)) := by
        have hkk : Kept (fun b => b = x5) w3 (w3.setCell ⟨x5, i, none⟩ (.int .u64 hv)) := (Kept.refl (fun b => b = x5) w3).setC
        have ho : OwnB (w3.setCell ⟨x5, i, none⟩ (.int .u64 hv)) wr.heap.size (.slice A3 ys.length c3) ys := o3.farT (by decide) (BR5.out.fine f3) hkk
        refine Lib.hid ⟨hfar, hb2, hb5, A3, c3, by rw [HYS.out], by rw [HYS.out]; exact ho.bs.1, fun e => ?_⟩
        have e9 : i = 9 := by omega
        subst e9
        have : rest = ys := by rw [← HYS.out]; rfl
        rw [this]
        exact ho.lower hszr
      clear o3 hb3 hb5 hb2 hfar hszr hlx f3'
      go_wp2_with fail
      exact ⟨⟨i + 1, hlt, by simp, HN2⟩, by simp only [intOf]; omega⟩
    · have hie : i = 10 := by omega
      subst hie
      have ho := hown rfl
      have er : rowB ((headNs N n m).drop 10) ++ rest = rest := rfl
      rw [er] at ho ⊢
      have HO := Lib.hid ho
      have FR := Lib.hid fr
      have HSX : Hid (w.heap.size ≤ x2) := Lib.hid (by have := HX2.out; omega)
      have hxne : x2 ≠ x5 := by have := HX2.out; have := HX5.out; omega
      have c0 : wr.cell? ⟨x5, 0, none⟩ = some (.int .u64 (hd N n m 0)) := br5.cell 0
      have d0 : wr.cell? ⟨x2, 0, none⟩ = some (.int .u64 0) := br2.cell 0
      have z0 : wr.frozen? ⟨x2, 0, none⟩ = false := br2.frozen 0
      have c1 : wr.cell? ⟨x5, 1, none⟩ = some (.int .u64 (hd N n m 1)) := br5.cell 1
      have d1 : wr.cell? ⟨x2, 1, none⟩ = some (.int .u64 0) := br2.cell 1
      have z1 : wr.frozen? ⟨x2, 1, none⟩ = false := br2.frozen 1
      have c2 : wr.cell? ⟨x5, 2, none⟩ = some (.int .u64 (hd N n m 2)) := br5.cell 2
      have d2 : wr.cell? ⟨x2, 2, none⟩ = some (.int .u64 0) := br2.cell 2
      have z2 : wr.frozen? ⟨x2, 2, none⟩ = false := br2.frozen 2
      have c3 : wr.cell? ⟨x5, 3, none⟩ = some (.int .u64 (hd N n m 3)) := br5.cell 3
      have d3 : wr.cell? ⟨x2, 3, none⟩ = some (.int .u64 0) := br2.cell 3
      have z3 : wr.frozen? ⟨x2, 3, none⟩ = false := br2.frozen 3
      have c4 : wr.cell? ⟨x5, 4, none⟩ = some (.int .u64 (hd N n m 4)) := br5.cell 4
      have d4 : wr.cell? ⟨x2, 4, none⟩ = some (.int .u64 0) := br2.cell 4
      have z4 : wr.frozen? ⟨x2, 4, none⟩ = false := br2.frozen 4
      have c5 : wr.cell? ⟨x5, 5, none⟩ = some (.int .u64 (hd N n m 5)) := br5.cell 5
      have d5 : wr.cell? ⟨x2, 5, none⟩ = some (.int .u64 0) := br2.cell 5
      have z5 : wr.frozen? ⟨x2, 5, none⟩ = false := br2.frozen 5
      have c6 : wr.cell? ⟨x5, 6, none⟩ = some (.int .u64 (hd N n m 6)) := br5.cell 6
      have d6 : wr.cell? ⟨x2, 6, none⟩ = some (.int .u64 0) := br2.cell 6
      have z6 : wr.frozen? ⟨x2, 6, none⟩ = false := br2.frozen 6
      have c7 : wr.cell? ⟨x5, 7, none⟩ = some (.int .u64 (hd N n m 7)) := br5.cell 7
      have d7 : wr.cell? ⟨x2, 7, none⟩ = some (.int .u64 0) := br2.cell 7
      have z7 : wr.frozen? ⟨x2, 7, none⟩ = false := br2.frozen 7
      have c8 : wr.cell? ⟨x5, 8, none⟩ = some (.int .u64 (hd N n m 8)) := br5.cell 8
      have d8 : wr.cell? ⟨x2, 8, none⟩ = some (.int .u64 0) := br2.cell 8
      have z8 : wr.frozen? ⟨x2, 8, none⟩ = false := br2.frozen 8
      have c9 : wr.cell? ⟨x5, 9, none⟩ = some (.int .u64 (hd N n m 9)) := br5.cell 9
      have d9 : wr.cell? ⟨x2, 9, none⟩ = some (.int .u64 0) := br2.cell 9
      have z9 : wr.frozen? ⟨x2, 9, none⟩ = false := br2.frozen 9
      have ho2 : OwnB ((((((((((wr.setCell ⟨x2, 0, none⟩ (.int .u64 (hd N n m 0))).setCell ⟨x2, 1, none⟩ (.int .u64 (hd N n m 1))).setCell ⟨x2, 2, none⟩ (.int .u64 (hd N n m 2))).setCell ⟨x2, 3, none⟩ (.int .u64 (hd N n m 3))).setCell ⟨x2, 4, none⟩ (.int .u64 (hd N n m 4))).setCell ⟨x2, 5, none⟩ (.int .u64 (hd N n m 5))).setCell ⟨x2, 6, none⟩ (.int .u64 (hd N n m 6))).setCell ⟨x2, 7, none⟩ (.int .u64 (hd N n m 7))).setCell ⟨x2, 8, none⟩ (.int .u64 (hd N n m 8))).setCell ⟨x2, 9, none⟩ (.int .u64 (hd N n m 9))) w.heap.size (.slice A' rest.length c') rest := by
        exact HO.out.farT (by decide) br2 (by repeat (first | with_reducible exact Kept.refl _ _ | with_reducible refine Kept.setC ?_))
      have fz : Fine w ((((((((((wr.setCell ⟨x2, 0, none⟩ (.int .u64 (hd N n m 0))).setCell ⟨x2, 1, none⟩ (.int .u64 (hd N n m 1))).setCell ⟨x2, 2, none⟩ (.int .u64 (hd N n m 2))).setCell ⟨x2, 3, none⟩ (.int .u64 (hd N n m 3))).setCell ⟨x2, 4, none⟩ (.int .u64 (hd N n m 4))).setCell ⟨x2, 5, none⟩ (.int .u64 (hd N n m 5))).setCell ⟨x2, 6, none⟩ (.int .u64 (hd N n m 6))).setCell ⟨x2, 7, none⟩ (.int .u64 (hd N n m 7))).setCell ⟨x2, 8, none⟩ (.int .u64 (hd N n m 8))).setCell ⟨x2, 9, none⟩ (.int .u64 (hd N n m 9))) := Fine.ten HSX.out fr
      clear br2 br5 hb hown ho fr HR
      go_wp2_with fail
      exact bodyPost_ret (v := .tuple #[.agg #[.int .u64 (hd N n m 0), .int .u64 (hd N n m 1), .int .u64 (hd N n m 2), .int .u64 (hd N n m 3), .int .u64 (hd N n m 4), .int .u64 (hd N n m 5), .int .u64 (hd N n m 6), .int .u64 (hd N n m 7), .int .u64 (hd N n m 8), .int .u64 (hd N n m 9)], .slice A' rest.length c', .int .i64 0]) (by simp [results, Tryd.results42, go_sem, c0, c1, c2, c3, c4, c5, c6, c7, c8, c9, d0, d1, d2, d3, d4, d5, d6, d7, d8, d9]) rfl ⟨_, rfl, ho2, fz⟩
end Go.Proofs.YthnennleblgjeaaDoor
