/- The laws of option: the document's Get. (Printed by genrefget.py.) -/
import Derived.Test.YthnennleblgjeaaOptRef5
import Derived.Deep.RegionWith
import Derived.Deep.DeepCutAuto
import Derived.Deep.RegionHeld3
namespace Go.Proofs.Ythnennleblgjeaa
open Go.ChangeShapes Go.WideShapes Go.ChangeAt Go.RowKit
set_option linter.unusedVariables false
set_option linter.unusedSimpArgs false
attribute [local go_sem ↓ high] eq56b
abbrev gotL (V : Nat → Int) (v : Value) (e : Int) : List Value := [.int .i64 (V 0), .int .u64 (V 1), .int .u64 (V 2), .int .u32 (V 3), .int .u32 (V 4), .int .i64 (V 5), .int .i64 (V 6), .bool (decide (V 7 = 1)), .bool (decide (V 8 = 1)), .int .i64 (V 9), .bool (decide (V 10 = 1)), .int .i64 (V 11), .int .i64 (V 12), .bool (decide (V 13 = 1)), v, .int .i64 e]
def RGet (xs : List Int) (w : World) (r : Ending) (w' : World) : Prop :=
  ∃ (A' : Option Addr) (c' : Nat), r = .returned (.agg (gotL (refGetR xs).1 (.slice A' (refGetR xs).2.1.length c') (refGetR xs).2.2).toArray) ∧ BS w' A' c' (refGetR xs).2.1 ∧ Fine w w'
theorem RGet.mk {xs ys : List Int} {V : Nat → Int} {e : Int} {w w' : World} (A' : Option Addr) (c' : Nat) {m : Nat} (h : refGetR xs = (V, ys, e)) (hm : m = ys.length) (hb : BS w' A' c' ys) (f : Fine w w') : RGet xs w (.returned (.agg (gotL V (.slice A' m c') e).toArray)) w' := by
  subst hm
  unfold RGet
  rw [h]
  exact ⟨A', c', rfl, hb, f⟩
theorem Fine.setX {a w' : World} {x i : Nat} {u : Value} (h : Fine a w') (hx : a.heap.size ≤ x) : Fine a (w'.setCell ⟨x, i, none⟩ u) := h.setCell (p := ⟨x, i, none⟩) hx u
theorem RGet.mk2 {xs ys : List Int} {V : Nat → Int} {e : Int} {w w' : World} (A' : Option Addr) (c' : Nat) {m : Nat} (h : refGetR xs = (V, ys, e)) (hm : m = ys.length) (hb : Hid (∀ w', Fine w w' → BS w' A' c' ys)) (f : Fine w w') : RGet xs w (.returned (.agg (gotL V (.slice A' m c') e).toArray)) w' := RGet.mk A' c' h hm (hb.out _ f) f
set_option maxHeartbeats 4000000 in
set_option maxRecDepth 100000 in
theorem refGet_nil (A : Option Addr) (c : Nat) (xs : List Int) (hl : xs.length ≤ 10000000) (w : World) (h : BS w A c xs) (hne : xs = []) : Calls Try.prog 41 #[.slice A xs.length c] w (RGet xs w) := by
  have b2 : Blk (w.alloc (.cells #[.int .i64 0, .int .u64 0, .int .u64 0, .int .u32 0, .int .u32 0, .int .i64 0, .int .i64 0, .bool false, .bool false, .int .i64 0, .bool false, .int .i64 0, .int .i64 0, .bool false, .slice none 0 0, .int .i64 0] 68)) w.heap.size 68 #[.int .i64 0, .int .u64 0, .int .u64 0, .int .u32 0, .int .u32 0, .int .i64 0, .int .i64 0, .bool false, .bool false, .int .i64 0, .bool false, .int .i64 0, .int .i64 0, .bool false, .slice none 0 0, .int .i64 0] := Blk.new w 68 _
  have f1 : Fine w (w.alloc (.cells #[.int .i64 0, .int .u64 0, .int .u64 0, .int .u32 0, .int .u32 0, .int .i64 0, .int .i64 0, .bool false, .bool false, .int .i64 0, .bool false, .int .i64 0, .int .i64 0, .bool false, .slice none 0 0, .int .i64 0] 68)) := (Fine.refl w).alloc _
  have HB := Lib.hid h; clear h
  have HG : Hid (refGetR xs = (zeroV, [], 3)) := Lib.hid (by unfold refGetR; rw [if_pos hne])
  have h0 : xs.length = 0 := by rw [hne]; rfl
  have h00 : ((xs.length : Int) == 0) = true := by simp [h0]
  rw [h0]
  clear hne h00
  go_enter Try.func41, Try.ntmps41
  go_wp2_with fail
  exact bodyPost_ret (v := .agg #[.int .i64 0, .int .u64 0, .int .u64 0, .int .u32 0, .int .u32 0, .int .i64 0, .int .i64 0, .bool false, .bool false, .int .i64 0, .bool false, .int .i64 0, .int .i64 0, .bool false, .slice none 0 0, .int .i64 3]) (by simp [results, Try.results41, go_sem]) rfl (RGet.mk none 0 HG.out rfl (BS.nil_ _) (by repeat (first | exact Fine.refl _ | assumption | refine Fine.alloc ?_ _ | refine Fine.drew ?_ | refine Fine.drewN ?_ _ | refine Fine.trans ?_ (by assumption) | (refine Fine.kept ?_ (by assumption) (by intro x hx; first | omega | (simp; omega))) | (refine Fine.setCell ?_ (by first | assumption | (simp; done) | (simp; omega)) _))))
set_option maxHeartbeats 4000000 in
set_option maxRecDepth 100000 in
theorem refGet_none (A : Option Addr) (c : Nat) (xs : List Int) (hl : xs.length ≤ 10000000) (w : World) (h : BS w A c xs) (hne : xs ≠ []) (H0 : sizeK (num (xs.take 1)) = 0) : Calls Try.prog 41 #[.slice A xs.length c] w (RGet xs w) := by
  have b2 : Blk (w.alloc (.cells #[.int .i64 0, .int .u64 0, .int .u64 0, .int .u32 0, .int .u32 0, .int .i64 0, .int .i64 0, .bool false, .bool false, .int .i64 0, .bool false, .int .i64 0, .int .i64 0, .bool false, .slice none 0 0, .int .i64 0] 68)) w.heap.size 68 #[.int .i64 0, .int .u64 0, .int .u64 0, .int .u32 0, .int .u32 0, .int .i64 0, .int .i64 0, .bool false, .bool false, .int .i64 0, .bool false, .int .i64 0, .int .i64 0, .bool false, .slice none 0 0, .int .i64 0] := Blk.new w 68 _
  have f1 : Fine w (w.alloc (.cells #[.int .i64 0, .int .u64 0, .int .u64 0, .int .u32 0, .int .u32 0, .int .i64 0, .int .i64 0, .bool false, .bool false, .int .i64 0, .bool false, .int .i64 0, .int .i64 0, .bool false, .slice none 0 0, .int .i64 0] 68)) := (Fine.refl w).alloc _
  have HB := Lib.hid h; clear h
  have hl0 : 0 < xs.length := List.length_pos_iff.2 hne
  obtain ⟨b, off, rfl, hb, _⟩ := HB.out.at_ (k := 0) hl0
  have hz0 : xs.getD 0 0 = num (xs.take 1) := by have := num_one (xs := xs) (i := 0) hl0; rw [List.drop_zero] at this; exact this.symm
  have ca : ∀ o, (w.alloc o).cell? ⟨b, off, none⟩ = some (.int .u8 (num (xs.take 1))) := fun o => by rw [← hz0]; exact (HB.out.fine ((Fine.refl w).alloc o)).cellAt 0 hl0
  have bk := HB.out.bytes.getD 0
  rw [hz0] at bk
  have hG : refGetR xs = refGetR xs := rfl
  conv at hG => rhs; unfold refGetR
  rw [if_neg hne] at hG
  have hpv := parseV_kind
  have hN : ¬ sizeK (num (xs.take 1)) = 0 → 1 ≤ num (xs.take 1) ∧ num (xs.take 1) ≤ 11 := fun hh => by
    by_cases h2 : num (xs.take 1) < 1 ∨ 11 < num (xs.take 1)
    · exact absurd (sizeK_out h2) hh
    · omega
  have hsz := fun hh => sizeK_width (hN hh)
  have HS := Lib.hid (fun w => size_any (num (xs.take 1)) w)
  obtain ⟨k, hk⟩ : ∃ k, num (xs.take 1) = k := ⟨_, rfl⟩
  have HKK := Lib.hid hk
  rw [hk] at ca bk hG hN hsz HS H0
  clear hk hz0
  have rk : IntKind.i64.wrap k = k := by rw [IntKind.wrap_i64]; omega
  obtain ⟨s, hs⟩ : ∃ s, sizeK k = s := ⟨_, rfl⟩
  rw [hs] at hG hN hsz HS H0
  have HSK := Lib.hid hs
  clear hs hpv
  have hl00 : ((xs.length : Int) == 0) = false := by simp; omega
  have hlc := HB.out.le
  go_enter Try.func41, Try.ntmps41
  go_wp2_with fail
  obtain ⟨x2, hx2⟩ : ∃ x2, w.heap.size = x2 := ⟨_, rfl⟩
  generalize (w.alloc (.cells #[.int .i64 0, .int .u64 0, .int .u64 0, .int .u32 0, .int .u32 0, .int .i64 0, .int .i64 0, .bool false, .bool false, .int .i64 0, .bool false, .int .i64 0, .int .i64 0, .bool false, .slice none 0 0, .int .i64 0] 68)) = w1 at b2 f1 ⊢
  rw [hx2] at b2 ⊢
  have hwx : w.heap.size ≤ x2 := Nat.le_of_eq hx2
  clear hx2 ca
  have B2 := Lib.hid b2; clear b2
  refine (HS.out w1).mono ?_
  rintro x w2 ⟨rfl, f2⟩
  have f02 := f1.trans f2
  have D2 := Lib.hid (B2.out.fine f2)
  clear f1 f2 B2 HS
  have h0 : s = 0 := H0
  clear H0
  have HG : Hid (refGetR xs = (zeroV, [], 4)) := Lib.hid (by rw [hG, if_pos h0])
  subst h0
  clear hG hN hsz
  have z0 : w2.cell? ⟨x2, 0, none⟩ = some (.int .i64 0) := D2.out.cell 0
  have z1 : w2.cell? ⟨x2, 1, none⟩ = some (.int .u64 0) := D2.out.cell 1
  have z2 : w2.cell? ⟨x2, 2, none⟩ = some (.int .u64 0) := D2.out.cell 2
  have z3 : w2.cell? ⟨x2, 3, none⟩ = some (.int .u32 0) := D2.out.cell 3
  have z4 : w2.cell? ⟨x2, 4, none⟩ = some (.int .u32 0) := D2.out.cell 4
  have z5 : w2.cell? ⟨x2, 5, none⟩ = some (.int .i64 0) := D2.out.cell 5
  have z6 : w2.cell? ⟨x2, 6, none⟩ = some (.int .i64 0) := D2.out.cell 6
  have z7 : w2.cell? ⟨x2, 7, none⟩ = some (.bool false) := D2.out.cell 7
  have z8 : w2.cell? ⟨x2, 8, none⟩ = some (.bool false) := D2.out.cell 8
  have z9 : w2.cell? ⟨x2, 9, none⟩ = some (.int .i64 0) := D2.out.cell 9
  have z10 : w2.cell? ⟨x2, 10, none⟩ = some (.bool false) := D2.out.cell 10
  have z11 : w2.cell? ⟨x2, 11, none⟩ = some (.int .i64 0) := D2.out.cell 11
  have z12 : w2.cell? ⟨x2, 12, none⟩ = some (.int .i64 0) := D2.out.cell 12
  have z13 : w2.cell? ⟨x2, 13, none⟩ = some (.bool false) := D2.out.cell 13
  have z14 : w2.cell? ⟨x2, 14, none⟩ = some (.slice none 0 0) := D2.out.cell 14
  have z15 : w2.cell? ⟨x2, 15, none⟩ = some (.int .i64 0) := D2.out.cell 15
  have y0 : w2.frozen? ⟨x2, 0, none⟩ = false := D2.out.frozen 0
  have y1 : w2.frozen? ⟨x2, 1, none⟩ = false := D2.out.frozen 1
  have y2 : w2.frozen? ⟨x2, 2, none⟩ = false := D2.out.frozen 2
  have y3 : w2.frozen? ⟨x2, 3, none⟩ = false := D2.out.frozen 3
  have y4 : w2.frozen? ⟨x2, 4, none⟩ = false := D2.out.frozen 4
  have y5 : w2.frozen? ⟨x2, 5, none⟩ = false := D2.out.frozen 5
  have y6 : w2.frozen? ⟨x2, 6, none⟩ = false := D2.out.frozen 6
  have y7 : w2.frozen? ⟨x2, 7, none⟩ = false := D2.out.frozen 7
  have y8 : w2.frozen? ⟨x2, 8, none⟩ = false := D2.out.frozen 8
  have y9 : w2.frozen? ⟨x2, 9, none⟩ = false := D2.out.frozen 9
  have y10 : w2.frozen? ⟨x2, 10, none⟩ = false := D2.out.frozen 10
  have y11 : w2.frozen? ⟨x2, 11, none⟩ = false := D2.out.frozen 11
  have y12 : w2.frozen? ⟨x2, 12, none⟩ = false := D2.out.frozen 12
  have y13 : w2.frozen? ⟨x2, 13, none⟩ = false := D2.out.frozen 13
  have y14 : w2.frozen? ⟨x2, 14, none⟩ = false := D2.out.frozen 14
  have y15 : w2.frozen? ⟨x2, 15, none⟩ = false := D2.out.frozen 15
  go_wp2_with fail
  exact bodyPost_ret (v := .agg #[.int .i64 0, .int .u64 0, .int .u64 0, .int .u32 0, .int .u32 0, .int .i64 0, .int .i64 0, .bool false, .bool false, .int .i64 0, .bool false, .int .i64 0, .int .i64 0, .bool false, .slice none 0 0, .int .i64 4]) (by simp [results, Try.results41, go_sem, z0, z1, z2, z3, z4, z5, z6, z7, z8, z9, z10, z11, z12, z13, z14, z15]) rfl (RGet.mk none 0 HG.out rfl (BS.nil_ _) ((((((((((((((((f02.setCell hwx _).setCell hwx _).setCell hwx _).setCell hwx _).setCell hwx _).setCell hwx _).setCell hwx _).setCell hwx _).setCell hwx _).setCell hwx _).setCell hwx _).setCell hwx _).setCell hwx _).setCell hwx _).setCell hwx _).setCell hwx _))
set_option maxHeartbeats 4000000 in
set_option maxRecDepth 100000 in
theorem refGet_short (A : Option Addr) (c : Nat) (xs : List Int) (hl : xs.length ≤ 10000000) (w : World) (h : BS w A c xs) (hne : xs ≠ []) (H0 : ¬ sizeK (num (xs.take 1)) = 0) (HSH : (xs.length : Int) < sizeK (num (xs.take 1))) : Calls Try.prog 41 #[.slice A xs.length c] w (RGet xs w) := by
  have b2 : Blk (w.alloc (.cells #[.int .i64 0, .int .u64 0, .int .u64 0, .int .u32 0, .int .u32 0, .int .i64 0, .int .i64 0, .bool false, .bool false, .int .i64 0, .bool false, .int .i64 0, .int .i64 0, .bool false, .slice none 0 0, .int .i64 0] 68)) w.heap.size 68 #[.int .i64 0, .int .u64 0, .int .u64 0, .int .u32 0, .int .u32 0, .int .i64 0, .int .i64 0, .bool false, .bool false, .int .i64 0, .bool false, .int .i64 0, .int .i64 0, .bool false, .slice none 0 0, .int .i64 0] := Blk.new w 68 _
  have f1 : Fine w (w.alloc (.cells #[.int .i64 0, .int .u64 0, .int .u64 0, .int .u32 0, .int .u32 0, .int .i64 0, .int .i64 0, .bool false, .bool false, .int .i64 0, .bool false, .int .i64 0, .int .i64 0, .bool false, .slice none 0 0, .int .i64 0] 68)) := (Fine.refl w).alloc _
  have HB := Lib.hid h; clear h
  have hl0 : 0 < xs.length := List.length_pos_iff.2 hne
  obtain ⟨b, off, rfl, hb, _⟩ := HB.out.at_ (k := 0) hl0
  have hz0 : xs.getD 0 0 = num (xs.take 1) := by have := num_one (xs := xs) (i := 0) hl0; rw [List.drop_zero] at this; exact this.symm
  have ca : ∀ o, (w.alloc o).cell? ⟨b, off, none⟩ = some (.int .u8 (num (xs.take 1))) := fun o => by rw [← hz0]; exact (HB.out.fine ((Fine.refl w).alloc o)).cellAt 0 hl0
  have bk := HB.out.bytes.getD 0
  rw [hz0] at bk
  have hG : refGetR xs = refGetR xs := rfl
  conv at hG => rhs; unfold refGetR
  rw [if_neg hne] at hG
  have hpv := parseV_kind
  have hN : ¬ sizeK (num (xs.take 1)) = 0 → 1 ≤ num (xs.take 1) ∧ num (xs.take 1) ≤ 11 := fun hh => by
    by_cases h2 : num (xs.take 1) < 1 ∨ 11 < num (xs.take 1)
    · exact absurd (sizeK_out h2) hh
    · omega
  have hsz := fun hh => sizeK_width (hN hh)
  have HS := Lib.hid (fun w => size_any (num (xs.take 1)) w)
  obtain ⟨k, hk⟩ : ∃ k, num (xs.take 1) = k := ⟨_, rfl⟩
  have HKK := Lib.hid hk
  rw [hk] at ca bk hG hN hsz HS H0 HSH
  clear hk hz0
  have rk : IntKind.i64.wrap k = k := by rw [IntKind.wrap_i64]; omega
  obtain ⟨s, hs⟩ : ∃ s, sizeK k = s := ⟨_, rfl⟩
  rw [hs] at hG hN hsz HS H0 HSH
  have HSK := Lib.hid hs
  clear hs hpv
  have hl00 : ((xs.length : Int) == 0) = false := by simp; omega
  have hlc := HB.out.le
  go_enter Try.func41, Try.ntmps41
  go_wp2_with fail
  obtain ⟨x2, hx2⟩ : ∃ x2, w.heap.size = x2 := ⟨_, rfl⟩
  generalize (w.alloc (.cells #[.int .i64 0, .int .u64 0, .int .u64 0, .int .u32 0, .int .u32 0, .int .i64 0, .int .i64 0, .bool false, .bool false, .int .i64 0, .bool false, .int .i64 0, .int .i64 0, .bool false, .slice none 0 0, .int .i64 0] 68)) = w1 at b2 f1 ⊢
  rw [hx2] at b2 ⊢
  have hwx : w.heap.size ≤ x2 := Nat.le_of_eq hx2
  clear hx2 ca
  have B2 := Lib.hid b2; clear b2
  refine (HS.out w1).mono ?_
  rintro x w2 ⟨rfl, f2⟩
  have f02 := f1.trans f2
  have D2 := Lib.hid (B2.out.fine f2)
  clear f1 f2 B2 HS
  have h0 : ¬ s = 0 := H0
  have hsh : (xs.length : Int) < s := HSH
  clear H0 HSH
  rw [if_neg h0] at hG
  have HG : Hid (refGetR xs = (zeroV, [], 3)) := Lib.hid (by rw [hG, if_pos hsh])
  have h0' : (s == 0) = false := by simp [h0]
  clear hG hN hsz
  have z0 : w2.cell? ⟨x2, 0, none⟩ = some (.int .i64 0) := D2.out.cell 0
  have z1 : w2.cell? ⟨x2, 1, none⟩ = some (.int .u64 0) := D2.out.cell 1
  have z2 : w2.cell? ⟨x2, 2, none⟩ = some (.int .u64 0) := D2.out.cell 2
  have z3 : w2.cell? ⟨x2, 3, none⟩ = some (.int .u32 0) := D2.out.cell 3
  have z4 : w2.cell? ⟨x2, 4, none⟩ = some (.int .u32 0) := D2.out.cell 4
  have z5 : w2.cell? ⟨x2, 5, none⟩ = some (.int .i64 0) := D2.out.cell 5
  have z6 : w2.cell? ⟨x2, 6, none⟩ = some (.int .i64 0) := D2.out.cell 6
  have z7 : w2.cell? ⟨x2, 7, none⟩ = some (.bool false) := D2.out.cell 7
  have z8 : w2.cell? ⟨x2, 8, none⟩ = some (.bool false) := D2.out.cell 8
  have z9 : w2.cell? ⟨x2, 9, none⟩ = some (.int .i64 0) := D2.out.cell 9
  have z10 : w2.cell? ⟨x2, 10, none⟩ = some (.bool false) := D2.out.cell 10
  have z11 : w2.cell? ⟨x2, 11, none⟩ = some (.int .i64 0) := D2.out.cell 11
  have z12 : w2.cell? ⟨x2, 12, none⟩ = some (.int .i64 0) := D2.out.cell 12
  have z13 : w2.cell? ⟨x2, 13, none⟩ = some (.bool false) := D2.out.cell 13
  have z14 : w2.cell? ⟨x2, 14, none⟩ = some (.slice none 0 0) := D2.out.cell 14
  have z15 : w2.cell? ⟨x2, 15, none⟩ = some (.int .i64 0) := D2.out.cell 15
  have y0 : w2.frozen? ⟨x2, 0, none⟩ = false := D2.out.frozen 0
  have y1 : w2.frozen? ⟨x2, 1, none⟩ = false := D2.out.frozen 1
  have y2 : w2.frozen? ⟨x2, 2, none⟩ = false := D2.out.frozen 2
  have y3 : w2.frozen? ⟨x2, 3, none⟩ = false := D2.out.frozen 3
  have y4 : w2.frozen? ⟨x2, 4, none⟩ = false := D2.out.frozen 4
  have y5 : w2.frozen? ⟨x2, 5, none⟩ = false := D2.out.frozen 5
  have y6 : w2.frozen? ⟨x2, 6, none⟩ = false := D2.out.frozen 6
  have y7 : w2.frozen? ⟨x2, 7, none⟩ = false := D2.out.frozen 7
  have y8 : w2.frozen? ⟨x2, 8, none⟩ = false := D2.out.frozen 8
  have y9 : w2.frozen? ⟨x2, 9, none⟩ = false := D2.out.frozen 9
  have y10 : w2.frozen? ⟨x2, 10, none⟩ = false := D2.out.frozen 10
  have y11 : w2.frozen? ⟨x2, 11, none⟩ = false := D2.out.frozen 11
  have y12 : w2.frozen? ⟨x2, 12, none⟩ = false := D2.out.frozen 12
  have y13 : w2.frozen? ⟨x2, 13, none⟩ = false := D2.out.frozen 13
  have y14 : w2.frozen? ⟨x2, 14, none⟩ = false := D2.out.frozen 14
  have y15 : w2.frozen? ⟨x2, 15, none⟩ = false := D2.out.frozen 15
  go_wp2_with fail
  exact bodyPost_ret (v := .agg #[.int .i64 0, .int .u64 0, .int .u64 0, .int .u32 0, .int .u32 0, .int .i64 0, .int .i64 0, .bool false, .bool false, .int .i64 0, .bool false, .int .i64 0, .int .i64 0, .bool false, .slice none 0 0, .int .i64 3]) (by simp [results, Try.results41, go_sem, z0, z1, z2, z3, z4, z5, z6, z7, z8, z9, z10, z11, z12, z13, z14, z15]) rfl (RGet.mk none 0 HG.out rfl (BS.nil_ _) ((((((((((((((((f02.setCell hwx _).setCell hwx _).setCell hwx _).setCell hwx _).setCell hwx _).setCell hwx _).setCell hwx _).setCell hwx _).setCell hwx _).setCell hwx _).setCell hwx _).setCell hwx _).setCell hwx _).setCell hwx _).setCell hwx _).setCell hwx _))
end Go.Proofs.Ythnennleblgjeaa
