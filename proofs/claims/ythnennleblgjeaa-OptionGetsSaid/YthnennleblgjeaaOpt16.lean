/- The law OptionGets. (Printed by gengets.py.) -/
import Derived.Test.YthnennleblgjeaaOpt15
import Derived.Test.YthnennleblgjeaaOptRef7
namespace Go.Proofs.Ythnennleblgjeaa
open Go.ChangeShapes Go.WideShapes Go.ChangeAt Go.RowKit
set_option linter.unusedVariables false
set_option linter.unusedSimpArgs false
attribute [local go_sem ↓ high] eq56b
theorem RGet.as_ {xs ys : List Int} {V : Nat → Int} {e : Int} {w w' : World} {r : Ending} (h : RGet xs w r w') (hg : refGetR xs = (V, ys, e)) : ∃ A' c', r = .returned (.agg (gotL V (.slice A' ys.length c') e).toArray) ∧ BS w' A' c' ys ∧ Fine w w' := by
  obtain ⟨A', c', rfl, hb, f⟩ := h
  rw [hg] at hb ⊢
  exact ⟨A', c', rfl, hb, f⟩
theorem get_facts {xs : List Int} (hb : Bytes xs) {V : Nat → Int} {r : List Int} {e : Int} (h : getR xs = (V, r, e)) : r.length ≤ xs.length ∧ ((e = 0 ∧ OkV V ∧ rightF V = true) ∨ e = 3 ∨ e = 4) := by
  rw [get_ref hb] at h
  unfold refGetR at h
  by_cases h1 : xs = []
  · rw [if_pos h1] at h
    obtain ⟨rfl, rfl, rfl⟩ : zeroV = V ∧ [] = r ∧ 3 = e := by simpa [Prod.mk.injEq] using h
    exact ⟨by simp, .inr (.inl rfl)⟩
  · rw [if_neg h1] at h
    by_cases h2 : sizeK (num (xs.take 1)) = 0
    · rw [if_pos h2] at h
      obtain ⟨rfl, rfl, rfl⟩ : zeroV = V ∧ [] = r ∧ 4 = e := by simpa [Prod.mk.injEq] using h
      exact ⟨by simp, .inr (.inr rfl)⟩
    · rw [if_neg h2] at h
      by_cases h3 : (xs.length : Int) < sizeK (num (xs.take 1))
      · rw [if_pos h3] at h
        obtain ⟨rfl, rfl, rfl⟩ : zeroV = V ∧ [] = r ∧ 3 = e := by simpa [Prod.mk.injEq] using h
        exact ⟨by simp, .inr (.inl rfl)⟩
      · rw [if_neg h3] at h
        have hk2 : 1 ≤ num (xs.take 1) ∧ num (xs.take 1) ≤ 11 := by
          by_cases hh : num (xs.take 1) < 1 ∨ 11 < num (xs.take 1)
          · exact absurd (sizeK_out hh) h2
          · omega
        have hw := sizeK_width hk2
        have hl : 0 < xs.length := List.length_pos_iff.2 h1
        obtain ⟨n, hn⟩ : ∃ n, (sizeK (num (xs.take 1))).toNat = n := ⟨_, rfl⟩
        rw [hn] at h
        have hne : xs.take n ≠ [] := by
          intro hh
          have := congrArg List.length hh
          rw [List.length_take, List.length_nil] at this
          omega
        have hok := parseV_ok (hb.take n) hne
        by_cases h4 : (refRightB (parseV (xs.take n)) && decide (optB (parseV (xs.take n)) = xs.take n)) = true
        · rw [if_pos h4] at h
          obtain ⟨rfl, rfl, rfl⟩ : parseV (xs.take n) = V ∧ xs.drop n = r ∧ 0 = e := by simpa only [Prod.mk.injEq] using h
          rw [Bool.and_eq_true] at h4
          exact ⟨by rw [List.length_drop]; omega, .inl ⟨rfl, hok, by rw [right_ref hok]; exact h4.1⟩⟩
        · rw [if_neg h4] at h
          obtain ⟨rfl, rfl, rfl⟩ : zeroV = V ∧ [] = r ∧ 4 = e := by simpa [Prod.mk.injEq] using h
          exact ⟨by simp, .inr (.inr rfl)⟩
set_option maxHeartbeats 4000000 in
set_option maxRecDepth 100000 in
theorem gets_0 (A : Option Addr) (c : Nat) (xs : List Int) (w : World) (h : BS w A c xs) (hlen : ¬ 200 < xs.length) (V : Nat → Int) (r : List Int) (hG : Hid (getR xs = (V, r, 0))) (hrl : r.length ≤ 200) (hV : Hid (OkV V)) (hR : Hid (rightF V = true)) : Calls Try.prog 15 #[.slice A xs.length c] w fun q w' => q = .returned (.bool true) ∧ Fine w w' := by
  have HB := Lib.hid h; clear h
  have HG2 : Hid (refGetR xs = (V, r, 0)) := Lib.hid (by rw [← get_ref HB.out.bytes]; exact hG.out)
  have E : eqB (V 0) (V 0) (V 1) (V 1) (V 2) (V 2) (V 3) (V 3) (V 4) (V 4) (V 5) (V 5) (V 6) (V 6) (decide (V 7 = 1)) (decide (V 7 = 1)) (decide (V 8 = 1)) (decide (V 8 = 1)) (V 9) (V 9) (decide (V 10 = 1)) (decide (V 10 = 1)) (V 11) (V 11) (V 12) (V 12) (decide (V 13 = 1)) (decide (V 13 = 1)) = true := by simp [eqB]
  go_enter Try.func15, Try.ntmps15
  go_wp2_with fail
  refine (optWakes_any _).mono ?_
  rintro x w1 ⟨rfl, f1⟩
  go_wp2_with (at_builtin; refine wpList_appN rfl (.tmp 13) (.tmp 14) rfl w1.heap.size _ _ rfl (OwnB.empty w1 (Nat.le_refl _)) A _ c xs rfl rfl (HB.out.fine (f1.alloc _)) (by simp; omega) (by simp) ?_; intro A1 n1 c1 w2 hn1 HB2 hk2)
  have f2 : Fine w w2 := (f1.alloc (.cells #[] 5)).kept hk2 (fun x hx e => by have := f1.size; omega)
  have hn1 : Hid (n1 = xs.length) := hn1
  have HB2 : Hid (BS w2 A1 c1 xs) := HB2
  clear hk2
  refine (get_n A1 n1 c1 xs hn1.out (by omega) w2 HB2.out).mono ?_
  rintro x w3 hgo
  obtain ⟨A3, c3, rfl, b3, f3⟩ := hgo.as_ hG.out
  have HB3 := Lib.hid b3; clear b3 hgo
  go_wp2_with fail
  have B4 : Blk (w3.alloc (.cells #[.int .i64 (V 0), .int .u64 (V 1), .int .u64 (V 2), .int .u32 (V 3), .int .u32 (V 4), .int .i64 (V 5), .int .i64 (V 6), .bool (decide (V 7 = 1)), .bool (decide (V 8 = 1)), .int .i64 (V 9), .bool (decide (V 10 = 1)), .int .i64 (V 11), .int .i64 (V 12), .bool (decide (V 13 = 1))] 56)) w3.heap.size 56 (optL V).toArray := Blk.new w3 56 _
  have F4 : Fine w (w3.alloc (.cells #[.int .i64 (V 0), .int .u64 (V 1), .int .u64 (V 2), .int .u32 (V 3), .int .u32 (V 4), .int .i64 (V 5), .int .i64 (V 6), .bool (decide (V 7 = 1)), .bool (decide (V 8 = 1)), .int .i64 (V 9), .bool (decide (V 10 = 1)), .int .i64 (V 11), .int .i64 (V 12), .bool (decide (V 13 = 1))] 56)) := (f2.trans f3).alloc _
  have HB4 := Lib.hid (HB3.out.fine ((Fine.refl w3).alloc (.cells #[.int .i64 (V 0), .int .u64 (V 1), .int .u64 (V 2), .int .u32 (V 3), .int .u32 (V 4), .int .i64 (V 5), .int .i64 (V 6), .bool (decide (V 7 = 1)), .bool (decide (V 8 = 1)), .int .i64 (V 9), .bool (decide (V 10 = 1)), .int .i64 (V 11), .int .i64 (V 12), .bool (decide (V 13 = 1))] 56)))
  obtain ⟨x3, hx3⟩ : ∃ x3, w3.heap.size = x3 := ⟨_, rfl⟩
  generalize (w3.alloc (.cells #[.int .i64 (V 0), .int .u64 (V 1), .int .u64 (V 2), .int .u32 (V 3), .int .u32 (V 4), .int .i64 (V 5), .int .i64 (V 6), .bool (decide (V 7 = 1)), .bool (decide (V 8 = 1)), .int .i64 (V 9), .bool (decide (V 10 = 1)), .int .i64 (V 11), .int .i64 (V 12), .bool (decide (V 13 = 1))] 56)) = w4 at B4 F4 HB4 ⊢
  rw [hx3] at B4 ⊢
  clear hx3 HB3
  have G4 := Lib.hid B4; clear B4
  refine (refGet_any A c xs (by omega) w4 (HB.out.fine F4)).mono ?_
  rintro x w5 hgo
  obtain ⟨A5, c5, rfl, b5, f5⟩ := hgo.as_ HG2.out
  have HB5 := Lib.hid b5; clear b5 hgo
  have d0 : ∀ o, (w5.alloc o).cell? ⟨x3, 0, none⟩ = some (.int .i64 (V 0)) := fun o => ((G4.out.fine f5).alloc o).cell 0
  have d1 : ∀ o, (w5.alloc o).cell? ⟨x3, 1, none⟩ = some (.int .u64 (V 1)) := fun o => ((G4.out.fine f5).alloc o).cell 1
  have d2 : ∀ o, (w5.alloc o).cell? ⟨x3, 2, none⟩ = some (.int .u64 (V 2)) := fun o => ((G4.out.fine f5).alloc o).cell 2
  have d3 : ∀ o, (w5.alloc o).cell? ⟨x3, 3, none⟩ = some (.int .u32 (V 3)) := fun o => ((G4.out.fine f5).alloc o).cell 3
  have d4 : ∀ o, (w5.alloc o).cell? ⟨x3, 4, none⟩ = some (.int .u32 (V 4)) := fun o => ((G4.out.fine f5).alloc o).cell 4
  have d5 : ∀ o, (w5.alloc o).cell? ⟨x3, 5, none⟩ = some (.int .i64 (V 5)) := fun o => ((G4.out.fine f5).alloc o).cell 5
  have d6 : ∀ o, (w5.alloc o).cell? ⟨x3, 6, none⟩ = some (.int .i64 (V 6)) := fun o => ((G4.out.fine f5).alloc o).cell 6
  have d7 : ∀ o, (w5.alloc o).cell? ⟨x3, 7, none⟩ = some (.bool (decide (V 7 = 1))) := fun o => ((G4.out.fine f5).alloc o).cell 7
  have d8 : ∀ o, (w5.alloc o).cell? ⟨x3, 8, none⟩ = some (.bool (decide (V 8 = 1))) := fun o => ((G4.out.fine f5).alloc o).cell 8
  have d9 : ∀ o, (w5.alloc o).cell? ⟨x3, 9, none⟩ = some (.int .i64 (V 9)) := fun o => ((G4.out.fine f5).alloc o).cell 9
  have d10 : ∀ o, (w5.alloc o).cell? ⟨x3, 10, none⟩ = some (.bool (decide (V 10 = 1))) := fun o => ((G4.out.fine f5).alloc o).cell 10
  have d11 : ∀ o, (w5.alloc o).cell? ⟨x3, 11, none⟩ = some (.int .i64 (V 11)) := fun o => ((G4.out.fine f5).alloc o).cell 11
  have d12 : ∀ o, (w5.alloc o).cell? ⟨x3, 12, none⟩ = some (.int .i64 (V 12)) := fun o => ((G4.out.fine f5).alloc o).cell 12
  have d13 : ∀ o, (w5.alloc o).cell? ⟨x3, 13, none⟩ = some (.bool (decide (V 13 = 1))) := fun o => ((G4.out.fine f5).alloc o).cell 13
  go_wp2_with fail
  refine (same_n A3 A5 r.length r.length c3 c5 r r _ ((HB4.out.fine f5).fine ((Fine.refl w5).alloc _)) (HB5.out.fine ((Fine.refl w5).alloc _)) rfl rfl (by omega)).mono ?_
  rintro x w7 ⟨rfl, f7⟩
  rw [decide_eq_true (rfl : r = r)]
  clear d0 d1 d2 d3 d4 d5 d6 d7 d8 d9 d10 d11 d12 d13
  have F7 : Fine w4 w7 := (f5.alloc _).trans f7
  obtain ⟨x6, hx6⟩ : ∃ x6, w5.heap.size = x6 := ⟨_, rfl⟩
  have e6 : w7.cell? ⟨x6, 15, none⟩ = some (.int .i64 0) := by rw [← hx6]; exact ((Blk.new w5 68 (gotL V (.slice A5 r.length c5) 0).toArray).fine f7).cell 15
  rw [hx6]
  have d0 : w7.cell? ⟨x3, 0, none⟩ = some (.int .i64 (V 0)) := (G4.out.fine F7).cell 0
  have d1 : w7.cell? ⟨x3, 1, none⟩ = some (.int .u64 (V 1)) := (G4.out.fine F7).cell 1
  have d2 : w7.cell? ⟨x3, 2, none⟩ = some (.int .u64 (V 2)) := (G4.out.fine F7).cell 2
  have d3 : w7.cell? ⟨x3, 3, none⟩ = some (.int .u32 (V 3)) := (G4.out.fine F7).cell 3
  have d4 : w7.cell? ⟨x3, 4, none⟩ = some (.int .u32 (V 4)) := (G4.out.fine F7).cell 4
  have d5 : w7.cell? ⟨x3, 5, none⟩ = some (.int .i64 (V 5)) := (G4.out.fine F7).cell 5
  have d6 : w7.cell? ⟨x3, 6, none⟩ = some (.int .i64 (V 6)) := (G4.out.fine F7).cell 6
  have d7 : w7.cell? ⟨x3, 7, none⟩ = some (.bool (decide (V 7 = 1))) := (G4.out.fine F7).cell 7
  have d8 : w7.cell? ⟨x3, 8, none⟩ = some (.bool (decide (V 8 = 1))) := (G4.out.fine F7).cell 8
  have d9 : w7.cell? ⟨x3, 9, none⟩ = some (.int .i64 (V 9)) := (G4.out.fine F7).cell 9
  have d10 : w7.cell? ⟨x3, 10, none⟩ = some (.bool (decide (V 10 = 1))) := (G4.out.fine F7).cell 10
  have d11 : w7.cell? ⟨x3, 11, none⟩ = some (.int .i64 (V 11)) := (G4.out.fine F7).cell 11
  have d12 : w7.cell? ⟨x3, 12, none⟩ = some (.int .i64 (V 12)) := (G4.out.fine F7).cell 12
  have d13 : w7.cell? ⟨x3, 13, none⟩ = some (.bool (decide (V 13 = 1))) := (G4.out.fine F7).cell 13
  go_wp2_with fail
  refine (right_any V hV.out w7).mono ?_
  rintro x w8 ⟨rfl, f8⟩
  rw [hR.out]
  go_wp2_with fail
  go_ret
  exact ⟨rfl, (F4.trans F7).trans f8⟩
set_option maxHeartbeats 4000000 in
set_option maxRecDepth 100000 in
theorem gets_3 (A : Option Addr) (c : Nat) (xs : List Int) (w : World) (h : BS w A c xs) (hlen : ¬ 200 < xs.length) (V : Nat → Int) (r : List Int) (hG : Hid (getR xs = (V, r, 3))) (hrl : r.length ≤ 200) : Calls Try.prog 15 #[.slice A xs.length c] w fun q w' => q = .returned (.bool true) ∧ Fine w w' := by
  have HB := Lib.hid h; clear h
  have HG2 : Hid (refGetR xs = (V, r, 3)) := Lib.hid (by rw [← get_ref HB.out.bytes]; exact hG.out)
  have E : eqB (V 0) (V 0) (V 1) (V 1) (V 2) (V 2) (V 3) (V 3) (V 4) (V 4) (V 5) (V 5) (V 6) (V 6) (decide (V 7 = 1)) (decide (V 7 = 1)) (decide (V 8 = 1)) (decide (V 8 = 1)) (V 9) (V 9) (decide (V 10 = 1)) (decide (V 10 = 1)) (V 11) (V 11) (V 12) (V 12) (decide (V 13 = 1)) (decide (V 13 = 1)) = true := by simp [eqB]
  go_enter Try.func15, Try.ntmps15
  go_wp2_with fail
  refine (optWakes_any _).mono ?_
  rintro x w1 ⟨rfl, f1⟩
  go_wp2_with (at_builtin; refine wpList_appN rfl (.tmp 13) (.tmp 14) rfl w1.heap.size _ _ rfl (OwnB.empty w1 (Nat.le_refl _)) A _ c xs rfl rfl (HB.out.fine (f1.alloc _)) (by simp; omega) (by simp) ?_; intro A1 n1 c1 w2 hn1 HB2 hk2)
  have f2 : Fine w w2 := (f1.alloc (.cells #[] 5)).kept hk2 (fun x hx e => by have := f1.size; omega)
  have hn1 : Hid (n1 = xs.length) := hn1
  have HB2 : Hid (BS w2 A1 c1 xs) := HB2
  clear hk2
  refine (get_n A1 n1 c1 xs hn1.out (by omega) w2 HB2.out).mono ?_
  rintro x w3 hgo
  obtain ⟨A3, c3, rfl, b3, f3⟩ := hgo.as_ hG.out
  have HB3 := Lib.hid b3; clear b3 hgo
  go_wp2_with fail
  have B4 : Blk (w3.alloc (.cells #[.int .i64 (V 0), .int .u64 (V 1), .int .u64 (V 2), .int .u32 (V 3), .int .u32 (V 4), .int .i64 (V 5), .int .i64 (V 6), .bool (decide (V 7 = 1)), .bool (decide (V 8 = 1)), .int .i64 (V 9), .bool (decide (V 10 = 1)), .int .i64 (V 11), .int .i64 (V 12), .bool (decide (V 13 = 1))] 56)) w3.heap.size 56 (optL V).toArray := Blk.new w3 56 _
  have F4 : Fine w (w3.alloc (.cells #[.int .i64 (V 0), .int .u64 (V 1), .int .u64 (V 2), .int .u32 (V 3), .int .u32 (V 4), .int .i64 (V 5), .int .i64 (V 6), .bool (decide (V 7 = 1)), .bool (decide (V 8 = 1)), .int .i64 (V 9), .bool (decide (V 10 = 1)), .int .i64 (V 11), .int .i64 (V 12), .bool (decide (V 13 = 1))] 56)) := (f2.trans f3).alloc _
  have HB4 := Lib.hid (HB3.out.fine ((Fine.refl w3).alloc (.cells #[.int .i64 (V 0), .int .u64 (V 1), .int .u64 (V 2), .int .u32 (V 3), .int .u32 (V 4), .int .i64 (V 5), .int .i64 (V 6), .bool (decide (V 7 = 1)), .bool (decide (V 8 = 1)), .int .i64 (V 9), .bool (decide (V 10 = 1)), .int .i64 (V 11), .int .i64 (V 12), .bool (decide (V 13 = 1))] 56)))
  obtain ⟨x3, hx3⟩ : ∃ x3, w3.heap.size = x3 := ⟨_, rfl⟩
  generalize (w3.alloc (.cells #[.int .i64 (V 0), .int .u64 (V 1), .int .u64 (V 2), .int .u32 (V 3), .int .u32 (V 4), .int .i64 (V 5), .int .i64 (V 6), .bool (decide (V 7 = 1)), .bool (decide (V 8 = 1)), .int .i64 (V 9), .bool (decide (V 10 = 1)), .int .i64 (V 11), .int .i64 (V 12), .bool (decide (V 13 = 1))] 56)) = w4 at B4 F4 HB4 ⊢
  rw [hx3] at B4 ⊢
  clear hx3 HB3
  have G4 := Lib.hid B4; clear B4
  refine (refGet_any A c xs (by omega) w4 (HB.out.fine F4)).mono ?_
  rintro x w5 hgo
  obtain ⟨A5, c5, rfl, b5, f5⟩ := hgo.as_ HG2.out
  have HB5 := Lib.hid b5; clear b5 hgo
  have d0 : ∀ o, (w5.alloc o).cell? ⟨x3, 0, none⟩ = some (.int .i64 (V 0)) := fun o => ((G4.out.fine f5).alloc o).cell 0
  have d1 : ∀ o, (w5.alloc o).cell? ⟨x3, 1, none⟩ = some (.int .u64 (V 1)) := fun o => ((G4.out.fine f5).alloc o).cell 1
  have d2 : ∀ o, (w5.alloc o).cell? ⟨x3, 2, none⟩ = some (.int .u64 (V 2)) := fun o => ((G4.out.fine f5).alloc o).cell 2
  have d3 : ∀ o, (w5.alloc o).cell? ⟨x3, 3, none⟩ = some (.int .u32 (V 3)) := fun o => ((G4.out.fine f5).alloc o).cell 3
  have d4 : ∀ o, (w5.alloc o).cell? ⟨x3, 4, none⟩ = some (.int .u32 (V 4)) := fun o => ((G4.out.fine f5).alloc o).cell 4
  have d5 : ∀ o, (w5.alloc o).cell? ⟨x3, 5, none⟩ = some (.int .i64 (V 5)) := fun o => ((G4.out.fine f5).alloc o).cell 5
  have d6 : ∀ o, (w5.alloc o).cell? ⟨x3, 6, none⟩ = some (.int .i64 (V 6)) := fun o => ((G4.out.fine f5).alloc o).cell 6
  have d7 : ∀ o, (w5.alloc o).cell? ⟨x3, 7, none⟩ = some (.bool (decide (V 7 = 1))) := fun o => ((G4.out.fine f5).alloc o).cell 7
  have d8 : ∀ o, (w5.alloc o).cell? ⟨x3, 8, none⟩ = some (.bool (decide (V 8 = 1))) := fun o => ((G4.out.fine f5).alloc o).cell 8
  have d9 : ∀ o, (w5.alloc o).cell? ⟨x3, 9, none⟩ = some (.int .i64 (V 9)) := fun o => ((G4.out.fine f5).alloc o).cell 9
  have d10 : ∀ o, (w5.alloc o).cell? ⟨x3, 10, none⟩ = some (.bool (decide (V 10 = 1))) := fun o => ((G4.out.fine f5).alloc o).cell 10
  have d11 : ∀ o, (w5.alloc o).cell? ⟨x3, 11, none⟩ = some (.int .i64 (V 11)) := fun o => ((G4.out.fine f5).alloc o).cell 11
  have d12 : ∀ o, (w5.alloc o).cell? ⟨x3, 12, none⟩ = some (.int .i64 (V 12)) := fun o => ((G4.out.fine f5).alloc o).cell 12
  have d13 : ∀ o, (w5.alloc o).cell? ⟨x3, 13, none⟩ = some (.bool (decide (V 13 = 1))) := fun o => ((G4.out.fine f5).alloc o).cell 13
  go_wp2_with fail
  refine (same_n A3 A5 r.length r.length c3 c5 r r _ ((HB4.out.fine f5).fine ((Fine.refl w5).alloc _)) (HB5.out.fine ((Fine.refl w5).alloc _)) rfl rfl (by omega)).mono ?_
  rintro x w7 ⟨rfl, f7⟩
  rw [decide_eq_true (rfl : r = r)]
  clear d0 d1 d2 d3 d4 d5 d6 d7 d8 d9 d10 d11 d12 d13
  have F7 : Fine w4 w7 := (f5.alloc _).trans f7
  obtain ⟨x6, hx6⟩ : ∃ x6, w5.heap.size = x6 := ⟨_, rfl⟩
  have e6 : w7.cell? ⟨x6, 15, none⟩ = some (.int .i64 3) := by rw [← hx6]; exact ((Blk.new w5 68 (gotL V (.slice A5 r.length c5) 3).toArray).fine f7).cell 15
  rw [hx6]
  go_wp2_with fail
  go_ret
  exact ⟨rfl, F4.trans F7⟩
set_option maxHeartbeats 4000000 in
set_option maxRecDepth 100000 in
theorem gets_4 (A : Option Addr) (c : Nat) (xs : List Int) (w : World) (h : BS w A c xs) (hlen : ¬ 200 < xs.length) (V : Nat → Int) (r : List Int) (hG : Hid (getR xs = (V, r, 4))) (hrl : r.length ≤ 200) : Calls Try.prog 15 #[.slice A xs.length c] w fun q w' => q = .returned (.bool true) ∧ Fine w w' := by
  have HB := Lib.hid h; clear h
  have HG2 : Hid (refGetR xs = (V, r, 4)) := Lib.hid (by rw [← get_ref HB.out.bytes]; exact hG.out)
  have E : eqB (V 0) (V 0) (V 1) (V 1) (V 2) (V 2) (V 3) (V 3) (V 4) (V 4) (V 5) (V 5) (V 6) (V 6) (decide (V 7 = 1)) (decide (V 7 = 1)) (decide (V 8 = 1)) (decide (V 8 = 1)) (V 9) (V 9) (decide (V 10 = 1)) (decide (V 10 = 1)) (V 11) (V 11) (V 12) (V 12) (decide (V 13 = 1)) (decide (V 13 = 1)) = true := by simp [eqB]
  go_enter Try.func15, Try.ntmps15
  go_wp2_with fail
  refine (optWakes_any _).mono ?_
  rintro x w1 ⟨rfl, f1⟩
  go_wp2_with (at_builtin; refine wpList_appN rfl (.tmp 13) (.tmp 14) rfl w1.heap.size _ _ rfl (OwnB.empty w1 (Nat.le_refl _)) A _ c xs rfl rfl (HB.out.fine (f1.alloc _)) (by simp; omega) (by simp) ?_; intro A1 n1 c1 w2 hn1 HB2 hk2)
  have f2 : Fine w w2 := (f1.alloc (.cells #[] 5)).kept hk2 (fun x hx e => by have := f1.size; omega)
  have hn1 : Hid (n1 = xs.length) := hn1
  have HB2 : Hid (BS w2 A1 c1 xs) := HB2
  clear hk2
  refine (get_n A1 n1 c1 xs hn1.out (by omega) w2 HB2.out).mono ?_
  rintro x w3 hgo
  obtain ⟨A3, c3, rfl, b3, f3⟩ := hgo.as_ hG.out
  have HB3 := Lib.hid b3; clear b3 hgo
  go_wp2_with fail
  have B4 : Blk (w3.alloc (.cells #[.int .i64 (V 0), .int .u64 (V 1), .int .u64 (V 2), .int .u32 (V 3), .int .u32 (V 4), .int .i64 (V 5), .int .i64 (V 6), .bool (decide (V 7 = 1)), .bool (decide (V 8 = 1)), .int .i64 (V 9), .bool (decide (V 10 = 1)), .int .i64 (V 11), .int .i64 (V 12), .bool (decide (V 13 = 1))] 56)) w3.heap.size 56 (optL V).toArray := Blk.new w3 56 _
  have F4 : Fine w (w3.alloc (.cells #[.int .i64 (V 0), .int .u64 (V 1), .int .u64 (V 2), .int .u32 (V 3), .int .u32 (V 4), .int .i64 (V 5), .int .i64 (V 6), .bool (decide (V 7 = 1)), .bool (decide (V 8 = 1)), .int .i64 (V 9), .bool (decide (V 10 = 1)), .int .i64 (V 11), .int .i64 (V 12), .bool (decide (V 13 = 1))] 56)) := (f2.trans f3).alloc _
  have HB4 := Lib.hid (HB3.out.fine ((Fine.refl w3).alloc (.cells #[.int .i64 (V 0), .int .u64 (V 1), .int .u64 (V 2), .int .u32 (V 3), .int .u32 (V 4), .int .i64 (V 5), .int .i64 (V 6), .bool (decide (V 7 = 1)), .bool (decide (V 8 = 1)), .int .i64 (V 9), .bool (decide (V 10 = 1)), .int .i64 (V 11), .int .i64 (V 12), .bool (decide (V 13 = 1))] 56)))
  obtain ⟨x3, hx3⟩ : ∃ x3, w3.heap.size = x3 := ⟨_, rfl⟩
  generalize (w3.alloc (.cells #[.int .i64 (V 0), .int .u64 (V 1), .int .u64 (V 2), .int .u32 (V 3), .int .u32 (V 4), .int .i64 (V 5), .int .i64 (V 6), .bool (decide (V 7 = 1)), .bool (decide (V 8 = 1)), .int .i64 (V 9), .bool (decide (V 10 = 1)), .int .i64 (V 11), .int .i64 (V 12), .bool (decide (V 13 = 1))] 56)) = w4 at B4 F4 HB4 ⊢
  rw [hx3] at B4 ⊢
  clear hx3 HB3
  have G4 := Lib.hid B4; clear B4
  refine (refGet_any A c xs (by omega) w4 (HB.out.fine F4)).mono ?_
  rintro x w5 hgo
  obtain ⟨A5, c5, rfl, b5, f5⟩ := hgo.as_ HG2.out
  have HB5 := Lib.hid b5; clear b5 hgo
  have d0 : ∀ o, (w5.alloc o).cell? ⟨x3, 0, none⟩ = some (.int .i64 (V 0)) := fun o => ((G4.out.fine f5).alloc o).cell 0
  have d1 : ∀ o, (w5.alloc o).cell? ⟨x3, 1, none⟩ = some (.int .u64 (V 1)) := fun o => ((G4.out.fine f5).alloc o).cell 1
  have d2 : ∀ o, (w5.alloc o).cell? ⟨x3, 2, none⟩ = some (.int .u64 (V 2)) := fun o => ((G4.out.fine f5).alloc o).cell 2
  have d3 : ∀ o, (w5.alloc o).cell? ⟨x3, 3, none⟩ = some (.int .u32 (V 3)) := fun o => ((G4.out.fine f5).alloc o).cell 3
  have d4 : ∀ o, (w5.alloc o).cell? ⟨x3, 4, none⟩ = some (.int .u32 (V 4)) := fun o => ((G4.out.fine f5).alloc o).cell 4
  have d5 : ∀ o, (w5.alloc o).cell? ⟨x3, 5, none⟩ = some (.int .i64 (V 5)) := fun o => ((G4.out.fine f5).alloc o).cell 5
  have d6 : ∀ o, (w5.alloc o).cell? ⟨x3, 6, none⟩ = some (.int .i64 (V 6)) := fun o => ((G4.out.fine f5).alloc o).cell 6
  have d7 : ∀ o, (w5.alloc o).cell? ⟨x3, 7, none⟩ = some (.bool (decide (V 7 = 1))) := fun o => ((G4.out.fine f5).alloc o).cell 7
  have d8 : ∀ o, (w5.alloc o).cell? ⟨x3, 8, none⟩ = some (.bool (decide (V 8 = 1))) := fun o => ((G4.out.fine f5).alloc o).cell 8
  have d9 : ∀ o, (w5.alloc o).cell? ⟨x3, 9, none⟩ = some (.int .i64 (V 9)) := fun o => ((G4.out.fine f5).alloc o).cell 9
  have d10 : ∀ o, (w5.alloc o).cell? ⟨x3, 10, none⟩ = some (.bool (decide (V 10 = 1))) := fun o => ((G4.out.fine f5).alloc o).cell 10
  have d11 : ∀ o, (w5.alloc o).cell? ⟨x3, 11, none⟩ = some (.int .i64 (V 11)) := fun o => ((G4.out.fine f5).alloc o).cell 11
  have d12 : ∀ o, (w5.alloc o).cell? ⟨x3, 12, none⟩ = some (.int .i64 (V 12)) := fun o => ((G4.out.fine f5).alloc o).cell 12
  have d13 : ∀ o, (w5.alloc o).cell? ⟨x3, 13, none⟩ = some (.bool (decide (V 13 = 1))) := fun o => ((G4.out.fine f5).alloc o).cell 13
  go_wp2_with fail
  refine (same_n A3 A5 r.length r.length c3 c5 r r _ ((HB4.out.fine f5).fine ((Fine.refl w5).alloc _)) (HB5.out.fine ((Fine.refl w5).alloc _)) rfl rfl (by omega)).mono ?_
  rintro x w7 ⟨rfl, f7⟩
  rw [decide_eq_true (rfl : r = r)]
  clear d0 d1 d2 d3 d4 d5 d6 d7 d8 d9 d10 d11 d12 d13
  have F7 : Fine w4 w7 := (f5.alloc _).trans f7
  obtain ⟨x6, hx6⟩ : ∃ x6, w5.heap.size = x6 := ⟨_, rfl⟩
  have e6 : w7.cell? ⟨x6, 15, none⟩ = some (.int .i64 4) := by rw [← hx6]; exact ((Blk.new w5 68 (gotL V (.slice A5 r.length c5) 4).toArray).fine f7).cell 15
  rw [hx6]
  go_wp2_with fail
  go_ret
  exact ⟨rfl, F4.trans F7⟩
set_option maxHeartbeats 4000000 in
set_option maxRecDepth 100000 in
theorem optionGets_any (A : Option Addr) (c : Nat) (xs : List Int) (w : World) (h : BS w A c xs) : Calls Try.prog 15 #[.slice A xs.length c] w fun q w' => q = .returned (.bool true) ∧ Fine w w' := by
  by_cases hlen : 200 < xs.length
  · clear h
    go_enter Try.func15, Try.ntmps15
    go_wp2_with fail
    refine (optWakes_any _).mono ?_
    rintro x w1 ⟨rfl, f1⟩
    go_wp2_with fail
    go_ret
    exact ⟨rfl, f1⟩
  · obtain ⟨V, r, e, hG⟩ : ∃ V r e, getR xs = (V, r, e) := ⟨_, _, _, rfl⟩
    obtain ⟨hr, ⟨rfl, hV, hR⟩ | rfl | rfl⟩ := get_facts h.bytes hG
    · exact gets_0 A c xs w h hlen V r (Lib.hid hG) (by omega) (Lib.hid hV) (Lib.hid hR)
    · exact gets_3 A c xs w h hlen V r (Lib.hid hG) (by omega)
    · exact gets_4 A c xs w h hlen V r (Lib.hid hG) (by omega)
theorem lawOptionGets (w : World) (a : Option Addr) (len cap : Nat) (zs : List Int) (hz : IntsIn .u8 w a len cap zs) :
    Calls Try.prog 15 #[.slice a len cap] w fun r w' => r = .returned (.bool true) ∧ Fine w w' := by
  have hl : zs.length = len := hz.2.2.1
  subst hl
  exact optionGets_any a cap zs w (BS.of_ints hz)
end Go.Proofs.Ythnennleblgjeaa
