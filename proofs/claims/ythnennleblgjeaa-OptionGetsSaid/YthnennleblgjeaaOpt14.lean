/- The law OptionKinds. (Printed by genkinds.py.) -/
import Derived.Test.YthnennleblgjeaaOpt13
import Derived.Test.YthnennleblgjeaaOptPlain3
import Derived.Test.YthnennleblgjeaaOptRef3
namespace Go.Proofs.Ythnennleblgjeaa
open Go.ChangeShapes Go.WideShapes Go.ChangeAt Go.RowKit
set_option linter.unusedVariables false
set_option linter.unusedSimpArgs false
attribute [local go_sem ↓ high] eq56b
theorem GetOf.as_ {xs ys : List Int} {V : Nat → Int} {e : Int} {w w' : World} {r : Ending} (h : GetOf xs w r w') (hg : getR xs = (V, ys, e)) : ∃ A' c', r = .returned (.tuple #[.agg (optL V).toArray, .slice A' ys.length c', .int .i64 e]) ∧ BS w' A' c' ys ∧ Fine w w' := by
  obtain ⟨v, rfl, ho, f⟩ := h
  rw [hg] at ho ⊢
  obtain ⟨A', c', rfl, hb, _⟩ := ho.form
  exact ⟨A', c', rfl, hb, f⟩
theorem get_n (A : Option Addr) (n c : Nat) (xs : List Int) (hn : n = xs.length) (hl : xs.length ≤ 10000000) (w : World) (h : BS w A c xs) : Calls Try.prog 40 #[.slice A n c] w (GetOf xs w) := by
  subst hn; exact get_any A c xs hl w h
theorem wpList_appN {w : World} {ops : Array Oper} {rest : List Oper} {o : Oper} {a : Act} {Q : Exit → Act → World → Prop} (hgd : o.guard = none) (s x : Operand)
    (ho : o.op = .call { callee := .builtin .append, args := #[s, x], argTypes := #[24, 24] })
    (base : Nat) (v : Value) (xs : List Int) (hs : a.eval s = v) (hown : OwnB w base v xs) (A : Option Addr) (m c : Nat) (ys : List Int) (hx : a.eval x = .slice A m c) (hm : m = ys.length) (hr : BS w A c ys)
    (hlen : xs.length + ys.length ≤ 140737488355328) (hbase : base ≤ w.heap.size)
    (h : ∀ A' n c' w', Hid (n = (xs ++ ys).length) → Hid (BS w' A' c' (xs ++ ys)) → Kept (fun k => base ≤ k) w w' → wpList Try.prog ops Q rest (a.put o.dst (.slice A' n c')) w') : wpList Try.prog ops Q (o :: rest) a w :=
  wpList_appB hgd s x ho base v xs hs hown A m c ys hx hm hr hlen hbase fun v' w' h2 h3 h4 h5 => by
    obtain ⟨A', c', e, hb, _⟩ := h2.form
    subst e
    exact h A' _ c' w' (Lib.hid rfl) (Lib.hid hb) h3
theorem kinds_law {k : Int} {ys : List Int} (hk : 0 ≤ k ∧ k ≤ 255) (hb : Bytes ys) :
    (sizeK k = 0 ∧ getR (k :: ys) = (zeroV, [], 4)) ∨ (sizeK k ≠ 0 ∧ (ys.length : Int) + 1 < sizeK k ∧ getR (k :: ys) = (zeroV, [], 3)) ∨
    (sizeK k ≠ 0 ∧ ¬ (ys.length : Int) + 1 < sizeK k ∧ (getR (k :: ys) = (zeroV, [], 4) ∨ ∃ V r, getR (k :: ys) = (V, r, 0) ∧ V 0 = k ∧ (r.length : Int) = ys.length + 1 - sizeK k)) := by
  have hbb : Bytes (k :: ys) := fun x hx => by
    rcases List.mem_cons.1 hx with rfl | hx
    · exact hk
    · exact hb x hx
  have h1 : num ((k :: ys).take 1) = k := by simp [num]
  have hl : ((k :: ys).length : Int) = ys.length + 1 := by simp
  rw [get_ref hbb]
  have hkk := parseV_kind ((k :: ys).take (sizeK k).toNat)
  unfold refGetR
  rw [if_neg (List.cons_ne_nil _ _), h1, hl]
  by_cases h0 : sizeK k = 0
  · exact .inl ⟨h0, if_pos h0⟩
  · rw [if_neg h0]
    by_cases hs : (ys.length : Int) + 1 < sizeK k
    · exact .inr (.inl ⟨h0, hs, if_pos hs⟩)
    · rw [if_neg hs]
      have hk2 : 1 ≤ k ∧ k ≤ 11 := by
        by_cases hh : k < 1 ∨ 11 < k
        · exact absurd (sizeK_out hh) h0
        · omega
      have hw := sizeK_width hk2
      refine .inr (.inr ⟨h0, hs, ?_⟩)
      split
      · refine .inr ⟨_, _, rfl, ?_, ?_⟩
        · rw [hkk, List.take_take, show min 1 (sizeK k).toNat = 1 by omega, h1]
        · rw [List.length_drop, List.length_cons]; omega
      · exact .inl rfl
set_option maxHeartbeats 4000000 in
set_option maxRecDepth 100000 in
theorem kinds_0 (A : Option Addr) (c : Nat) (k : Int) (ys : List Int) (hk : 0 ≤ k ∧ k ≤ 255) (w : World) (h : BS w A c ys) (hlen : ¬ 100 < ys.length) (H0 : sizeK k = 0) (hG : getR (k :: ys) = (zeroV, [], 4)) : Calls Try.prog 17 #[.int .u8 k, .slice A ys.length c] w fun r w' => r = .returned (.bool true) ∧ Fine w w' := by
  have HB := Lib.hid h; clear h
  have rk : IntKind.i64.wrap k = k := by rw [IntKind.wrap_i64]; omega
  have HS := Lib.hid (fun w => size_any k w)
  obtain ⟨s, hs⟩ : ∃ s, sizeK k = s := ⟨_, rfl⟩
  rw [hs] at HS
  have hsb : 0 ≤ s ∧ s ≤ 13 := by
    rw [← hs]
    by_cases hh : k < 1 ∨ 11 < k
    · rw [sizeK_out hh]; omega
    · have hk2 : k = 1 ∨ k = 2 ∨ k = 3 ∨ k = 4 ∨ k = 5 ∨ k = 6 ∨ k = 7 ∨ k = 8 ∨ k = 9 ∨ k = 10 ∨ k = 11 := by omega
      rcases hk2 with rfl | rfl | rfl | rfl | rfl | rfl | rfl | rfl | rfl | rfl | rfl <;> decide
  rw [hs] at H0
  have HH0 := Lib.hid H0
  clear hs
  go_enter Try.func17, Try.ntmps17
  go_wp2_with fail
  refine (optWakes_any _).mono ?_
  rintro x w1 ⟨rfl, f1⟩
  go_wp2_with (at_builtin; refine wpList_appN rfl (.tmp 15) (.tmp 16) rfl w1.heap.size _ _ rfl (OwnB.lit w1 [k] (Bytes.one hk) (by simp) (Nat.le_refl _)) A _ c ys rfl rfl (HB.out.fine (f1.alloc _)) (by simp; omega) (by simp) ?_; intro A1 n1 c1 w2 hn1 HB2 hk2)
  have f2 : Fine w w2 := (f1.alloc (.cells (cellB [k]).toArray 5)).kept hk2 (fun x hx e => by have := f1.size; omega)
  have hn1 : Hid (n1 = (k :: ys).length) := hn1
  have HB2 : Hid (BS w2 A1 c1 (k :: ys)) := HB2
  clear hk2
  have h0 := HH0.out
  subst h0
  refine (get_n A1 n1 c1 (k :: ys) hn1.out (by simp; omega) w2 HB2.out).mono ?_
  rintro x w3 hgo
  obtain ⟨A3, c3, rfl, b3, f3⟩ := hgo.as_ hG
  have HB3 := Lib.hid b3; clear b3 hgo
  go_wp2_with fail
  have B4 : Blk (w3.alloc (.cells #[.int .i64 (zeroV 0), .int .u64 (zeroV 1), .int .u64 (zeroV 2), .int .u32 (zeroV 3), .int .u32 (zeroV 4), .int .i64 (zeroV 5), .int .i64 (zeroV 6), .bool (decide (zeroV 7 = 1)), .bool (decide (zeroV 8 = 1)), .int .i64 (zeroV 9), .bool (decide (zeroV 10 = 1)), .int .i64 (zeroV 11), .int .i64 (zeroV 12), .bool (decide (zeroV 13 = 1))] 56)) w3.heap.size 56 (optL zeroV).toArray := Blk.new w3 56 _
  have F4 : Fine w (w3.alloc (.cells #[.int .i64 (zeroV 0), .int .u64 (zeroV 1), .int .u64 (zeroV 2), .int .u32 (zeroV 3), .int .u32 (zeroV 4), .int .i64 (zeroV 5), .int .i64 (zeroV 6), .bool (decide (zeroV 7 = 1)), .bool (decide (zeroV 8 = 1)), .int .i64 (zeroV 9), .bool (decide (zeroV 10 = 1)), .int .i64 (zeroV 11), .int .i64 (zeroV 12), .bool (decide (zeroV 13 = 1))] 56)) := (f2.trans f3).alloc _
  obtain ⟨x4, hx4⟩ : ∃ x4, w3.heap.size = x4 := ⟨_, rfl⟩
  generalize (w3.alloc (.cells #[.int .i64 (zeroV 0), .int .u64 (zeroV 1), .int .u64 (zeroV 2), .int .u32 (zeroV 3), .int .u32 (zeroV 4), .int .i64 (zeroV 5), .int .i64 (zeroV 6), .bool (decide (zeroV 7 = 1)), .bool (decide (zeroV 8 = 1)), .int .i64 (zeroV 9), .bool (decide (zeroV 10 = 1)), .int .i64 (zeroV 11), .int .i64 (zeroV 12), .bool (decide (zeroV 13 = 1))] 56)) = w4 at B4 F4 ⊢
  rw [hx4] at B4 ⊢
  clear hx4 hG
  refine (HS.out w4).mono ?_
  rintro x w5 ⟨rfl, f5⟩
  have b5 := B4.fine f5
  have c0 : w5.cell? ⟨x4, 0, none⟩ = some (.int .i64 0) := b5.cell 0
  have c1 : w5.cell? ⟨x4, 1, none⟩ = some (.int .u64 0) := b5.cell 1
  have c2 : w5.cell? ⟨x4, 2, none⟩ = some (.int .u64 0) := b5.cell 2
  have c3 : w5.cell? ⟨x4, 3, none⟩ = some (.int .u32 0) := b5.cell 3
  have c4 : w5.cell? ⟨x4, 4, none⟩ = some (.int .u32 0) := b5.cell 4
  have c5 : w5.cell? ⟨x4, 5, none⟩ = some (.int .i64 0) := b5.cell 5
  have c6 : w5.cell? ⟨x4, 6, none⟩ = some (.int .i64 0) := b5.cell 6
  have c7 : w5.cell? ⟨x4, 7, none⟩ = some (.bool false) := b5.cell 7
  have c8 : w5.cell? ⟨x4, 8, none⟩ = some (.bool false) := b5.cell 8
  have c9 : w5.cell? ⟨x4, 9, none⟩ = some (.int .i64 0) := b5.cell 9
  have c10 : w5.cell? ⟨x4, 10, none⟩ = some (.bool false) := b5.cell 10
  have c11 : w5.cell? ⟨x4, 11, none⟩ = some (.int .i64 0) := b5.cell 11
  have c12 : w5.cell? ⟨x4, 12, none⟩ = some (.int .i64 0) := b5.cell 12
  have c13 : w5.cell? ⟨x4, 13, none⟩ = some (.bool false) := b5.cell 13
  have E : eqB 0 0 0 0 0 0 0 0 0 0 0 0 0 0 false false false false 0 0 false false 0 0 0 0 false false = true := by simp [eqB]
  clear b5 B4
  go_wp2_with fail
  go_ret
  exact ⟨rfl, F4.trans f5⟩
set_option maxHeartbeats 4000000 in
set_option maxRecDepth 100000 in
theorem kinds_3 (A : Option Addr) (c : Nat) (k : Int) (ys : List Int) (hk : 0 ≤ k ∧ k ≤ 255) (w : World) (h : BS w A c ys) (hlen : ¬ 100 < ys.length) (H0 : sizeK k ≠ 0) (HSH : (ys.length : Int) + 1 < sizeK k) (hG : getR (k :: ys) = (zeroV, [], 3)) : Calls Try.prog 17 #[.int .u8 k, .slice A ys.length c] w fun r w' => r = .returned (.bool true) ∧ Fine w w' := by
  have HB := Lib.hid h; clear h
  have rk : IntKind.i64.wrap k = k := by rw [IntKind.wrap_i64]; omega
  have HS := Lib.hid (fun w => size_any k w)
  obtain ⟨s, hs⟩ : ∃ s, sizeK k = s := ⟨_, rfl⟩
  rw [hs] at HS
  have hsb : 0 ≤ s ∧ s ≤ 13 := by
    rw [← hs]
    by_cases hh : k < 1 ∨ 11 < k
    · rw [sizeK_out hh]; omega
    · have hk2 : k = 1 ∨ k = 2 ∨ k = 3 ∨ k = 4 ∨ k = 5 ∨ k = 6 ∨ k = 7 ∨ k = 8 ∨ k = 9 ∨ k = 10 ∨ k = 11 := by omega
      rcases hk2 with rfl | rfl | rfl | rfl | rfl | rfl | rfl | rfl | rfl | rfl | rfl <;> decide
  rw [hs] at H0 HSH
  have HH0 := Lib.hid H0
  have HHS := Lib.hid HSH
  clear hs
  go_enter Try.func17, Try.ntmps17
  go_wp2_with fail
  refine (optWakes_any _).mono ?_
  rintro x w1 ⟨rfl, f1⟩
  go_wp2_with (at_builtin; refine wpList_appN rfl (.tmp 15) (.tmp 16) rfl w1.heap.size _ _ rfl (OwnB.lit w1 [k] (Bytes.one hk) (by simp) (Nat.le_refl _)) A _ c ys rfl rfl (HB.out.fine (f1.alloc _)) (by simp; omega) (by simp) ?_; intro A1 n1 c1 w2 hn1 HB2 hk2)
  have f2 : Fine w w2 := (f1.alloc (.cells (cellB [k]).toArray 5)).kept hk2 (fun x hx e => by have := f1.size; omega)
  have hn1 : Hid (n1 = (k :: ys).length) := hn1
  have HB2 : Hid (BS w2 A1 c1 (k :: ys)) := HB2
  clear hk2
  have h0 := HH0.out
  have hsh := HHS.out
  have h0' : (s == 0) = false := by simp [h0]
  refine (get_n A1 n1 c1 (k :: ys) hn1.out (by simp; omega) w2 HB2.out).mono ?_
  rintro x w3 hgo
  obtain ⟨A3, c3, rfl, b3, f3⟩ := hgo.as_ hG
  have HB3 := Lib.hid b3; clear b3 hgo
  clear hG
  go_wp2_with fail
  refine (HS.out _).mono ?_
  rintro x w5 ⟨rfl, f5⟩
  go_wp2_with fail
  refine (HS.out _).mono ?_
  rintro x w6 ⟨rfl, f6⟩
  go_wp2_with fail
  go_ret
  exact ⟨rfl, (((f2.trans f3).alloc _).trans f5).trans f6⟩
set_option maxHeartbeats 4000000 in
set_option maxRecDepth 100000 in
theorem kinds_4 (A : Option Addr) (c : Nat) (k : Int) (ys : List Int) (hk : 0 ≤ k ∧ k ≤ 255) (w : World) (h : BS w A c ys) (hlen : ¬ 100 < ys.length) (H0 : sizeK k ≠ 0) (HSH : ¬ (ys.length : Int) + 1 < sizeK k) (hG : getR (k :: ys) = (zeroV, [], 4)) : Calls Try.prog 17 #[.int .u8 k, .slice A ys.length c] w fun r w' => r = .returned (.bool true) ∧ Fine w w' := by
  have HB := Lib.hid h; clear h
  have rk : IntKind.i64.wrap k = k := by rw [IntKind.wrap_i64]; omega
  have HS := Lib.hid (fun w => size_any k w)
  obtain ⟨s, hs⟩ : ∃ s, sizeK k = s := ⟨_, rfl⟩
  rw [hs] at HS
  have hsb : 0 ≤ s ∧ s ≤ 13 := by
    rw [← hs]
    by_cases hh : k < 1 ∨ 11 < k
    · rw [sizeK_out hh]; omega
    · have hk2 : k = 1 ∨ k = 2 ∨ k = 3 ∨ k = 4 ∨ k = 5 ∨ k = 6 ∨ k = 7 ∨ k = 8 ∨ k = 9 ∨ k = 10 ∨ k = 11 := by omega
      rcases hk2 with rfl | rfl | rfl | rfl | rfl | rfl | rfl | rfl | rfl | rfl | rfl <;> decide
  rw [hs] at H0 HSH
  have HH0 := Lib.hid H0
  have HHS := Lib.hid HSH
  clear hs
  go_enter Try.func17, Try.ntmps17
  go_wp2_with fail
  refine (optWakes_any _).mono ?_
  rintro x w1 ⟨rfl, f1⟩
  go_wp2_with (at_builtin; refine wpList_appN rfl (.tmp 15) (.tmp 16) rfl w1.heap.size _ _ rfl (OwnB.lit w1 [k] (Bytes.one hk) (by simp) (Nat.le_refl _)) A _ c ys rfl rfl (HB.out.fine (f1.alloc _)) (by simp; omega) (by simp) ?_; intro A1 n1 c1 w2 hn1 HB2 hk2)
  have f2 : Fine w w2 := (f1.alloc (.cells (cellB [k]).toArray 5)).kept hk2 (fun x hx e => by have := f1.size; omega)
  have hn1 : Hid (n1 = (k :: ys).length) := hn1
  have HB2 : Hid (BS w2 A1 c1 (k :: ys)) := HB2
  clear hk2
  have h0 := HH0.out
  have hsh := HHS.out
  have h0' : (s == 0) = false := by simp [h0]
  refine (get_n A1 n1 c1 (k :: ys) hn1.out (by simp; omega) w2 HB2.out).mono ?_
  rintro x w3 hgo
  obtain ⟨A3, c3, rfl, b3, f3⟩ := hgo.as_ hG
  have HB3 := Lib.hid b3; clear b3 hgo
  clear hG
  go_wp2_with fail
  refine (HS.out _).mono ?_
  rintro x w5 ⟨rfl, f5⟩
  go_wp2_with fail
  refine (HS.out _).mono ?_
  rintro x w6 ⟨rfl, f6⟩
  go_wp2_with fail
  go_ret
  exact ⟨rfl, (((f2.trans f3).alloc _).trans f5).trans f6⟩
set_option maxHeartbeats 4000000 in
set_option maxRecDepth 100000 in
theorem kinds_ok (A : Option Addr) (c : Nat) (k : Int) (ys : List Int) (hk : 0 ≤ k ∧ k ≤ 255) (w : World) (h : BS w A c ys) (hlen : ¬ 100 < ys.length) (V : Nat → Int) (r : List Int) (H0 : sizeK k ≠ 0) (HSH : ¬ (ys.length : Int) + 1 < sizeK k) (hG : getR (k :: ys) = (V, r, 0)) (HV0 : Hid (V 0 = k)) (HRL : Hid ((r.length : Int) = ys.length + 1 - sizeK k)) : Calls Try.prog 17 #[.int .u8 k, .slice A ys.length c] w fun r w' => r = .returned (.bool true) ∧ Fine w w' := by
  have HB := Lib.hid h; clear h
  have rk : IntKind.i64.wrap k = k := by rw [IntKind.wrap_i64]; omega
  have HS := Lib.hid (fun w => size_any k w)
  obtain ⟨s, hs⟩ : ∃ s, sizeK k = s := ⟨_, rfl⟩
  rw [hs] at HS
  have hsb : 0 ≤ s ∧ s ≤ 13 := by
    rw [← hs]
    by_cases hh : k < 1 ∨ 11 < k
    · rw [sizeK_out hh]; omega
    · have hk2 : k = 1 ∨ k = 2 ∨ k = 3 ∨ k = 4 ∨ k = 5 ∨ k = 6 ∨ k = 7 ∨ k = 8 ∨ k = 9 ∨ k = 10 ∨ k = 11 := by omega
      rcases hk2 with rfl | rfl | rfl | rfl | rfl | rfl | rfl | rfl | rfl | rfl | rfl <;> decide
  rw [hs] at H0 HSH HRL
  have HH0 := Lib.hid H0
  have HHS := Lib.hid HSH
  clear hs
  go_enter Try.func17, Try.ntmps17
  go_wp2_with fail
  refine (optWakes_any _).mono ?_
  rintro x w1 ⟨rfl, f1⟩
  go_wp2_with (at_builtin; refine wpList_appN rfl (.tmp 15) (.tmp 16) rfl w1.heap.size _ _ rfl (OwnB.lit w1 [k] (Bytes.one hk) (by simp) (Nat.le_refl _)) A _ c ys rfl rfl (HB.out.fine (f1.alloc _)) (by simp; omega) (by simp) ?_; intro A1 n1 c1 w2 hn1 HB2 hk2)
  have f2 : Fine w w2 := (f1.alloc (.cells (cellB [k]).toArray 5)).kept hk2 (fun x hx e => by have := f1.size; omega)
  have hn1 : Hid (n1 = (k :: ys).length) := hn1
  have HB2 : Hid (BS w2 A1 c1 (k :: ys)) := HB2
  clear hk2
  have h0 := HH0.out
  have hsh := HHS.out
  have hrl := HRL.out
  have h0' : (s == 0) = false := by simp [h0]
  refine (get_n A1 n1 c1 (k :: ys) hn1.out (by simp; omega) w2 HB2.out).mono ?_
  rintro x w3 hgo
  obtain ⟨A3, c3, rfl, b3, f3⟩ := hgo.as_ hG
  have HB3 := Lib.hid b3; clear b3 hgo
  clear hG
  go_wp2_with fail
  have B4 : Blk (w3.alloc (.cells #[.int .i64 (V 0), .int .u64 (V 1), .int .u64 (V 2), .int .u32 (V 3), .int .u32 (V 4), .int .i64 (V 5), .int .i64 (V 6), .bool (decide (V 7 = 1)), .bool (decide (V 8 = 1)), .int .i64 (V 9), .bool (decide (V 10 = 1)), .int .i64 (V 11), .int .i64 (V 12), .bool (decide (V 13 = 1))] 56)) w3.heap.size 56 (optL V).toArray := Blk.new w3 56 _
  have F4 : Fine w (w3.alloc (.cells #[.int .i64 (V 0), .int .u64 (V 1), .int .u64 (V 2), .int .u32 (V 3), .int .u32 (V 4), .int .i64 (V 5), .int .i64 (V 6), .bool (decide (V 7 = 1)), .bool (decide (V 8 = 1)), .int .i64 (V 9), .bool (decide (V 10 = 1)), .int .i64 (V 11), .int .i64 (V 12), .bool (decide (V 13 = 1))] 56)) := (f2.trans f3).alloc _
  obtain ⟨x4, hx4⟩ : ∃ x4, w3.heap.size = x4 := ⟨_, rfl⟩
  generalize (w3.alloc (.cells #[.int .i64 (V 0), .int .u64 (V 1), .int .u64 (V 2), .int .u32 (V 3), .int .u32 (V 4), .int .i64 (V 5), .int .i64 (V 6), .bool (decide (V 7 = 1)), .bool (decide (V 8 = 1)), .int .i64 (V 9), .bool (decide (V 10 = 1)), .int .i64 (V 11), .int .i64 (V 12), .bool (decide (V 13 = 1))] 56)) = w4 at B4 F4 ⊢
  rw [hx4] at B4 ⊢
  clear hx4
  refine (HS.out w4).mono ?_
  rintro x w5 ⟨rfl, f5⟩
  go_wp2_with fail
  refine (HS.out w5).mono ?_
  rintro x w6 ⟨rfl, f6⟩
  have c0 : w6.cell? ⟨x4, 0, none⟩ = some (.int .i64 (V 0)) := (B4.fine (f5.trans f6)).cell 0
  rw [HV0.out] at c0
  obtain ⟨m, hm⟩ : ∃ m, r.length = m := ⟨_, rfl⟩
  rw [hm] at hrl
  clear B4
  go_wp2_with fail
  refine (HS.out w6).mono ?_
  rintro x w7 ⟨rfl, f7⟩
  have hrl2 : IntKind.i64.wrap ((ys.length : Int) + 1 - s) = (m : Int) := by rw [IntKind.wrap_i64]; omega
  go_wp2_with fail
  go_ret
  exact ⟨by first | rfl | (simp; omega), ((F4.trans f5).trans f6).trans f7⟩
set_option maxHeartbeats 4000000 in
set_option maxRecDepth 100000 in
theorem optionKinds_any (A : Option Addr) (c : Nat) (k : Int) (ys : List Int) (hk : 0 ≤ k ∧ k ≤ 255) (w : World) (h : BS w A c ys) : Calls Try.prog 17 #[.int .u8 k, .slice A ys.length c] w fun r w' => r = .returned (.bool true) ∧ Fine w w' := by
  by_cases hlen : 100 < ys.length
  · clear h
    go_enter Try.func17, Try.ntmps17
    go_wp2_with fail
    refine (optWakes_any _).mono ?_
    rintro x w1 ⟨rfl, f1⟩
    go_wp2_with fail
    go_ret
    exact ⟨rfl, f1⟩
  · rcases kinds_law hk h.bytes with ⟨h0, hG⟩ | ⟨h0, hsh, hG⟩ | ⟨h0, hsh, hG | ⟨V, r, hG, hV0, hrl⟩⟩
    · exact kinds_0 A c k ys hk w h hlen h0 hG
    · exact kinds_3 A c k ys hk w h hlen h0 hsh hG
    · exact kinds_4 A c k ys hk w h hlen h0 hsh hG
    · exact kinds_ok A c k ys hk w h hlen V r h0 hsh hG (Lib.hid hV0) (Lib.hid hrl)
end Go.Proofs.Ythnennleblgjeaa
