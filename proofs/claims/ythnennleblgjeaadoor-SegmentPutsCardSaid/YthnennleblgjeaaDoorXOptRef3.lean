/- The laws of option: the document's bytes of an option. (Printed by genbytes.py.) -/
import Derived.Test.YthnennleblgjeaaDoorMd
import Derived.Deep.RegionHeld3
namespace Go.Proofs.YthnennleblgjeaaDoor
set_option linter.unusedVariables false
set_option linter.unusedSimpArgs false
open Go.ChangeShapes Go.WideShapes Go.ChangeAt Go.RowKit
set_option linter.unusedVariables false
set_option linter.unusedSimpArgs false
theorem truthV {x : Int} (hx : x = 0 ∨ x = 1) (w : World) : Calls Tryd.prog 72 #[.bool (decide (x = 1))] w fun r w' => r = .returned (.int .u8 x) ∧ Fine w w' := by
  refine (truth_any (decide (x = 1)) w).mono ?_
  rintro r w' ⟨rfl, f⟩
  exact ⟨by rcases hx with rfl | rfl <;> rfl, f⟩
theorem numV (n : Int) (w : World) : Calls Tryd.prog 73 #[.int .i64 n, .int .i64 4] w fun e w' => ∃ A c, e = .returned (.slice A (be 4 n).length c) ∧ BS w' A c (be 4 n) ∧ Fine w w' := by
  refine (refNum_any n 4 w).mono ?_
  rintro r w' ⟨v, rfl, h, f⟩
  rw [show width 4 = 4 from by decide, IntKind.wrap_u64, be_mod 4 (by omega)] at h
  obtain ⟨A, c, rfl, b, _⟩ := h.form
  exact ⟨A, c, rfl, b, f⟩
theorem bytesV {x : Int} (hx : 0 ≤ x ∧ x < 18446744073709551616) (k : Nat) (hk : k = 4 ∨ k = 8) (w : World) : Calls Tryd.prog 67 #[.int .u64 x, .int .i64 k] w fun e w' => ∃ A c, e = .returned (.slice A (be k x).length c) ∧ BS w' A c (be k x) ∧ Fine w w' := by
  refine (bytes_any x hx k w).mono ?_
  rintro r w' ⟨v, rfl, h, f⟩
  rw [show width (k : Int) = k from by rcases hk with rfl | rfl <;> decide] at h
  obtain ⟨A, c, rfl, b, _⟩ := h.form
  exact ⟨A, c, rfl, b, f⟩
/-- What the walk holds: the option's box, the bytes so far. -/
def RB (w0 : World) (base x1 : Nat) (V : Nat → Int) (L : List Int) (v : Value) (w' : World) : Prop := Fine w0 w' ∧ w0.heap.size ≤ base ∧ x1 < base ∧ base ≤ w'.heap.size ∧ Blk w' x1 69 (optL V).toArray ∧ OwnB w' base v L
theorem RB.fine {w0 : World} {base x1 : Nat} {V : Nat → Int} {L : List Int} {v : Value} {w w' : World} (h : RB w0 base x1 V L v w) (f : Fine w w') : RB w0 base x1 V L v w' := by
  obtain ⟨h1, h2, h3, h4, h5, h6⟩ := h
  exact ⟨h1.trans f, h2, h3, Nat.le_trans h4 f.size, h5.fine f, h6.fine f⟩
theorem RB.app {w0 : World} {base x1 : Nat} {V : Nat → Int} {L ys : List Int} {v v' : Value} {w w' : World} (h : RB w0 base x1 V L v w) (ho : OwnB w' base v' (L ++ ys)) (hk : Kept (fun k => base ≤ k) w w') : RB w0 base x1 V (L ++ ys) v' w' := by
  obtain ⟨h1, h2, h3, h4, h5, h6⟩ := h
  exact ⟨h1.kept hk (fun x hx e => by omega), h2, h3, Nat.le_trans h4 hk.size, h5.kept hk (by omega), ho⟩
theorem wpList_appR {w0 : World} {w : World} {ops : Array Oper} {rest : List Oper} {o : Oper} {a : Act} {Q : Exit → Act → World → Prop} (hgd : o.guard = none) (s x : Operand)
    (ho : o.op = .call { callee := .builtin .append, args := #[s, x], argTypes := #[24, 24] })
    (base x1 : Nat) (V : Nat → Int) (L : List Int) (v : Value) (hs : a.eval s = v) (hR : Hid (RB w0 base x1 V L v w)) (A : Option Addr) (m c : Nat) (ys : List Int) (hx : a.eval x = .slice A m c) (hm : m = ys.length) (hr : BS w A c ys)
    (hlen : Hid (L.length + ys.length ≤ 1000))
    (h : ∀ A' n c' w', Hid (RB w0 base x1 V (L ++ ys) (.slice A' n c') w') → wpList Tryd.prog ops Q rest (a.put o.dst (.slice A' n c')) w') : wpList Tryd.prog ops Q (o :: rest) a w :=
  wpList_appB hgd s x ho base v L hs hR.out.2.2.2.2.2 A m c ys hx hm hr (by have := hlen.out; omega) hR.out.2.2.2.1 fun v' w' h2 h3 h4 h5 => by
    obtain ⟨A', c', e, hb, _⟩ := h2.form
    subst e
    exact h A' _ c' w' (Lib.hid (hR.out.app h2 h3))
theorem BS.lit (w : World) (ys : List Int) (hb : Bytes ys) (hl : ys.length ≤ 1000) : BS (w.alloc (.cells (cellB ys).toArray 5)) (some ⟨w.heap.size, 0, none⟩) ys.length ys :=
  ⟨hb, by rw [cellB_length]; exact Nat.le_refl _, by unfold maxLen; omega, (fun e => by cases e), fun _ => ⟨w.heap.size, 0, rfl, by simp, fun i v hv => by
    rw [Nat.zero_add, (Blk.new w 5 (cellB ys).toArray).cell i, List.getElem?_toArray]; exact hv⟩⟩
theorem OwnB.lit (w : World) (ys : List Int) (hb : Bytes ys) (hl : ys.length ≤ 1000) {base : Nat} (h : base ≤ w.heap.size) : OwnB (w.alloc (.cells (cellB ys).toArray 5)) base (.slice (some ⟨w.heap.size, 0, none⟩) ys.length ys.length) ys :=
  Row.own (L := ys) ⟨hb, Blk.new w 5 _⟩ h (by unfold maxLen; omega)
theorem BS.litAt {w : World} {g : Nat} (ys : List Int) (hb : Bytes ys) (hl : ys.length ≤ 1000) (h : g = w.heap.size) : BS (w.alloc (.cells (cellB ys).toArray 5)) (some ⟨g, 0, none⟩) ys.length ys := h ▸ BS.lit w ys hb hl
theorem OwnB.litAt {w : World} {g base : Nat} (ys : List Int) (hb : Bytes ys) (hl : ys.length ≤ 1000) (h : base ≤ w.heap.size) (hg : g = w.heap.size) : OwnB (w.alloc (.cells (cellB ys).toArray 5)) base (.slice (some ⟨g, 0, none⟩) ys.length ys.length) ys := hg ▸ OwnB.lit w ys hb hl h
theorem Bytes.two {a b : Int} (ha : 0 ≤ a ∧ a ≤ 255) (hb : 0 ≤ b ∧ b ≤ 255) : Bytes [a, b] := fun x hx => by
  simp at hx
  rcases hx with rfl | rfl
  · exact ha
  · exact hb
theorem byte_bd (x : Int) : 0 ≤ x % 256 ∧ x % 256 ≤ 255 := by omega
theorem tr_bd {x : Int} (h : x = 0 ∨ x = 1) : 0 ≤ x ∧ x ≤ 255 := by omega
def RBy (V : Nat → Int) (w : World) (r : Ending) (w' : World) : Prop := ∃ v, r = .returned v ∧ OwnB w' w.heap.size v (optB V) ∧ Fine w w'
theorem RBy.mk {w : World} {base x1 : Nat} {V : Nat → Int} {L : List Int} {v : Value} {w' : World} (h : RB w base x1 V L v w') (e : optB V = L) : RBy V w (.returned v) w' := by
  obtain ⟨h1, h2, h3, h4, h5, h6⟩ := h
  exact ⟨v, rfl, by rw [e]; exact h6.lower h2, h1⟩
set_option maxHeartbeats 2000000 in
set_option maxRecDepth 100000 in
theorem refBytes_1 (V : Nat → Int) (hV : OkV V) (hk : V 0 = 1) (w : World) : Calls Tryd.prog 61 #[.agg (optL V).toArray] w (RBy V w) := by
  have h1 : 0 ≤ V 1 ∧ V 1 < 18446744073709551616 := hV 1 (by decide)
  have h2 : 0 ≤ V 2 ∧ V 2 < 18446744073709551616 := hV 2 (by decide)
  have h3 : 0 ≤ V 3 ∧ V 3 < 4294967296 := hV 3 (by decide)
  have h4 : 0 ≤ V 4 ∧ V 4 < 4294967296 := hV 4 (by decide)
  have h7 : V 7 = 0 ∨ V 7 = 1 := hV 7 (by decide)
  have h8 : V 8 = 0 ∨ V 8 = 1 := hV 8 (by decide)
  have h10 : V 10 = 0 ∨ V 10 = 1 := hV 10 (by decide)
  have h13 : V 13 = 0 ∨ V 13 = 1 := hV 13 (by decide)
  have m3 : V 3 % 18446744073709551616 = V 3 := by omega
  have m4 : V 4 % 18446744073709551616 = V 4 := by omega
  have t7 : V 7 % 256 = V 7 := by omega
  have t8 : V 8 % 256 = V 8 := by omega
  have t10 : V 10 % 256 = V 10 := by omega
  have t13 : V 13 % 256 = V 13 := by omega
  have HE : Hid (optB V = ([(1 : Int)] ++ be 8 (V 1))) := Lib.hid (by
    unfold optB
    rw [hk]
    simp [fieldsOf, fieldB, be, t7, t8, t10, t13])
  have H7 := Lib.hid h7
  have H8 := Lib.hid h8
  have H10 := Lib.hid h10
  have H13 := Lib.hid h13
  clear t7 t8 t10 t13 h7 h8 h10 h13
  have hl0 : Hid (([(1 : Int)] : List Int).length + (be 8 (V 1) : List Int).length ≤ 1000) := Lib.hid (by simp [be_length])
  have hR0 : Hid (RB w (w.heap.size + 1) w.heap.size V [1] (.slice (some ⟨w.heap.size + 1, 0, none⟩) 1 1) ((w.alloc (.cells #[.int .i64 1, .int .u64 (V 1), .int .u64 (V 2), .int .u32 (V 3), .int .u32 (V 4), .int .i64 (V 5), .int .i64 (V 6), .bool (decide (V 7 = 1)), .bool (decide (V 8 = 1)), .int .i64 (V 9), .bool (decide (V 10 = 1)), .int .i64 (V 11), .int .i64 (V 12), .bool (decide (V 13 = 1))] 69)).alloc (.cells #[.int .u8 (1)] 5))) := Lib.hid ⟨((Fine.refl w).alloc _).alloc _, by omega, by omega, by simp, ((Blk.new w 69 #[.int .i64 1, .int .u64 (V 1), .int .u64 (V 2), .int .u32 (V 3), .int .u32 (V 4), .int .i64 (V 5), .int .i64 (V 6), .bool (decide (V 7 = 1)), .bool (decide (V 8 = 1)), .int .i64 (V 9), .bool (decide (V 10 = 1)), .int .i64 (V 11), .int .i64 (V 12), .bool (decide (V 13 = 1))]).alloc _).cast (by unfold optL; rw [hk]), OwnB.litAt (w := (w.alloc (.cells #[.int .i64 1, .int .u64 (V 1), .int .u64 (V 2), .int .u32 (V 3), .int .u32 (V 4), .int .i64 (V 5), .int .i64 (V 6), .bool (decide (V 7 = 1)), .bool (decide (V 8 = 1)), .int .i64 (V 9), .bool (decide (V 10 = 1)), .int .i64 (V 11), .int .i64 (V 12), .bool (decide (V 13 = 1))] 69))) [1] (Bytes.one (by omega)) (by simp) (by simp) (by simp)⟩
  go_enter Tryd.func61, Tryd.ntmps61
  unfold optL
  rw [hk]
  go_wp2_with fail
  obtain ⟨x3, hx3⟩ : ∃ x3, w.heap.size + 1 = x3 := ⟨_, rfl⟩
  generalize ((w.alloc (.cells #[.int .i64 1, .int .u64 (V 1), .int .u64 (V 2), .int .u32 (V 3), .int .u32 (V 4), .int .i64 (V 5), .int .i64 (V 6), .bool (decide (V 7 = 1)), .bool (decide (V 8 = 1)), .int .i64 (V 9), .bool (decide (V 10 = 1)), .int .i64 (V 11), .int .i64 (V 12), .bool (decide (V 13 = 1))] 69)).alloc (.cells #[.int .u8 (1)] 5)) = w0 at hR0 ⊢
  rw [hx3] at hR0 ⊢
  obtain ⟨x1, hx1⟩ : ∃ x1, w.heap.size = x1 := ⟨_, rfl⟩
  rw [hx1] at hR0 ⊢
  clear hx3 hx1
  refine (bytesV h1 8 (.inr rfl) w0).mono ?_
  rintro x u0 ⟨B0, d0, rfl, b0, f0⟩
  have hQ0 := Lib.hid (hR0.out.fine f0)
  have G0 := Lib.hid b0; clear b0 hR0
  go_wp2_with (at_builtin; refine wpList_appR rfl (.tmp 13) (.tmp 16) rfl x3 x1 V _ _ rfl hQ0 B0 _ d0 _ rfl rfl G0.out hl0 ?_; intro A0 n0 c0 w1 hR1)
  go_ret
  exact RBy.mk hR1.out HE.out
set_option maxHeartbeats 2000000 in
set_option maxRecDepth 100000 in
theorem refBytes_2 (V : Nat → Int) (hV : OkV V) (hk : V 0 = 2) (w : World) : Calls Tryd.prog 61 #[.agg (optL V).toArray] w (RBy V w) := by
  have h1 : 0 ≤ V 1 ∧ V 1 < 18446744073709551616 := hV 1 (by decide)
  have h2 : 0 ≤ V 2 ∧ V 2 < 18446744073709551616 := hV 2 (by decide)
  have h3 : 0 ≤ V 3 ∧ V 3 < 4294967296 := hV 3 (by decide)
  have h4 : 0 ≤ V 4 ∧ V 4 < 4294967296 := hV 4 (by decide)
  have h7 : V 7 = 0 ∨ V 7 = 1 := hV 7 (by decide)
  have h8 : V 8 = 0 ∨ V 8 = 1 := hV 8 (by decide)
  have h10 : V 10 = 0 ∨ V 10 = 1 := hV 10 (by decide)
  have h13 : V 13 = 0 ∨ V 13 = 1 := hV 13 (by decide)
  have m3 : V 3 % 18446744073709551616 = V 3 := by omega
  have m4 : V 4 % 18446744073709551616 = V 4 := by omega
  have t7 : V 7 % 256 = V 7 := by omega
  have t8 : V 8 % 256 = V 8 := by omega
  have t10 : V 10 % 256 = V 10 := by omega
  have t13 : V 13 % 256 = V 13 := by omega
  have HE : Hid (optB V = ((([(2 : Int)] ++ be 4 (V 3)) ++ be 4 (V 4)) ++ [V 5 % 256, V 7])) := Lib.hid (by
    unfold optB
    rw [hk]
    simp [fieldsOf, fieldB, be, t7, t8, t10, t13])
  have H7 := Lib.hid h7
  have H8 := Lib.hid h8
  have H10 := Lib.hid h10
  have H13 := Lib.hid h13
  clear t7 t8 t10 t13 h7 h8 h10 h13
  have hl0 : Hid (([(2 : Int)] : List Int).length + (be 4 (V 3) : List Int).length ≤ 1000) := Lib.hid (by simp [be_length])
  have hl1 : Hid ((([(2 : Int)] ++ be 4 (V 3)) : List Int).length + (be 4 (V 4) : List Int).length ≤ 1000) := Lib.hid (by simp [be_length])
  have hl2 : Hid (((([(2 : Int)] ++ be 4 (V 3)) ++ be 4 (V 4)) : List Int).length + ([V 5 % 256, V 7] : List Int).length ≤ 1000) := Lib.hid (by simp [be_length])
  have hR0 : Hid (RB w (w.heap.size + 1) w.heap.size V [2] (.slice (some ⟨w.heap.size + 1, 0, none⟩) 1 1) ((w.alloc (.cells #[.int .i64 2, .int .u64 (V 1), .int .u64 (V 2), .int .u32 (V 3), .int .u32 (V 4), .int .i64 (V 5), .int .i64 (V 6), .bool (decide (V 7 = 1)), .bool (decide (V 8 = 1)), .int .i64 (V 9), .bool (decide (V 10 = 1)), .int .i64 (V 11), .int .i64 (V 12), .bool (decide (V 13 = 1))] 69)).alloc (.cells #[.int .u8 (2)] 5))) := Lib.hid ⟨((Fine.refl w).alloc _).alloc _, by omega, by omega, by simp, ((Blk.new w 69 #[.int .i64 2, .int .u64 (V 1), .int .u64 (V 2), .int .u32 (V 3), .int .u32 (V 4), .int .i64 (V 5), .int .i64 (V 6), .bool (decide (V 7 = 1)), .bool (decide (V 8 = 1)), .int .i64 (V 9), .bool (decide (V 10 = 1)), .int .i64 (V 11), .int .i64 (V 12), .bool (decide (V 13 = 1))]).alloc _).cast (by unfold optL; rw [hk]), OwnB.litAt (w := (w.alloc (.cells #[.int .i64 2, .int .u64 (V 1), .int .u64 (V 2), .int .u32 (V 3), .int .u32 (V 4), .int .i64 (V 5), .int .i64 (V 6), .bool (decide (V 7 = 1)), .bool (decide (V 8 = 1)), .int .i64 (V 9), .bool (decide (V 10 = 1)), .int .i64 (V 11), .int .i64 (V 12), .bool (decide (V 13 = 1))] 69))) [2] (Bytes.one (by omega)) (by simp) (by simp) (by simp)⟩
  go_enter Tryd.func61, Tryd.ntmps61
  unfold optL
  rw [hk]
  go_wp2_with fail
  obtain ⟨x3, hx3⟩ : ∃ x3, w.heap.size + 1 = x3 := ⟨_, rfl⟩
  generalize ((w.alloc (.cells #[.int .i64 2, .int .u64 (V 1), .int .u64 (V 2), .int .u32 (V 3), .int .u32 (V 4), .int .i64 (V 5), .int .i64 (V 6), .bool (decide (V 7 = 1)), .bool (decide (V 8 = 1)), .int .i64 (V 9), .bool (decide (V 10 = 1)), .int .i64 (V 11), .int .i64 (V 12), .bool (decide (V 13 = 1))] 69)).alloc (.cells #[.int .u8 (2)] 5)) = w0 at hR0 ⊢
  rw [hx3] at hR0 ⊢
  obtain ⟨x1, hx1⟩ : ∃ x1, w.heap.size = x1 := ⟨_, rfl⟩
  rw [hx1] at hR0 ⊢
  clear hx3 hx1
  refine (bytesV (x := V 3) (by omega) 4 (.inl rfl) w0).mono ?_
  rintro x u0 ⟨B0, d0, rfl, b0, f0⟩
  have hQ0 := Lib.hid (hR0.out.fine f0)
  have G0 := Lib.hid b0; clear b0 hR0
  go_wp2_with (at_builtin; refine wpList_appR rfl (.tmp 20) (.tmp 24) rfl x3 x1 V _ _ rfl hQ0 B0 _ d0 _ rfl rfl G0.out hl0 ?_; intro A0 n0 c0 w1 hR1; have e0_4 : w1.cell? ⟨x1, 4, none⟩ = some (.int .u32 (V 4)) := hR1.out.2.2.2.2.1.cell 4)
  refine (bytesV (x := V 4) (by omega) 4 (.inl rfl) w1).mono ?_
  rintro x u1 ⟨B1, d1, rfl, b1, f1⟩
  have hQ1 := Lib.hid (hR1.out.fine f1)
  have G1 := Lib.hid b1; clear b1 hR1
  go_wp2_with (at_builtin; refine wpList_appR rfl (.tmp 26) (.tmp 30) rfl x3 x1 V _ _ rfl hQ1 B1 _ d1 _ rfl rfl G1.out hl1 ?_; intro A1 n1 c1 w2 hR2; have e1_5 : w2.cell? ⟨x1, 5, none⟩ = some (.int .i64 (V 5)) := hR2.out.2.2.2.2.1.cell 5; have e1_7 : w2.cell? ⟨x1, 7, none⟩ = some (.bool (decide (V 7 = 1))) := hR2.out.2.2.2.2.1.cell 7)
  have HK : Hid (∀ w', Kept (fun k => x3 ≤ k) w2 w' → (fun w' => w'.cell? ⟨x1, 5, none⟩ = some (.int .i64 (V 5)) ∧ w'.cell? ⟨x1, 7, none⟩ = some (.bool (decide (V 7 = 1)))) w') := Lib.hid (fun w' hk => by
    have b := hR2.out.2.2.2.2.1.kept hk (by have := hR2.out.2.2.1; omega)
    exact ⟨b.cell 5, b.cell 7⟩)
  go_region_held3 (fun w' => w'.cell? ⟨x1, 5, none⟩ = some (.int .i64 (V 5)) ∧ w'.cell? ⟨x1, 7, none⟩ = some (.bool (decide (V 7 = 1)))) ((refine HK.out _ ?_; repeat (first | refine Kept.trans ?_ hkA | refine Kept.trans ?_ (Kept.of_fine fT) | refine Kept.alloc ?_ _ | refine Kept.drew ?_ | exact Kept.refl _ _))) (first | (go_at_call 72; refine (truthV H7.out _).mono ?_; rintro x wT ⟨rfl, fT⟩) | (refine step_appB rfl (.tmp 32) (.tmp 39) rfl x3 _ _ rfl ((hR2.out.fine (((Fine.refl _).drew.trans fT).alloc _)).2.2.2.2.2) _ _ _ [V 5 % 256, V 7] rfl rfl (BS.litAt [V 5 % 256, V 7] (Bytes.two (byte_bd _) (tr_bd H7.out)) (by simp) (by simp)) (by have := hl2.out; omega) (hR2.out.fine (((Fine.refl _).drew.trans fT).alloc _)).2.2.2.1 ?_; intro vA wA hoA hkA hgA hvA))
  have hRz := Lib.hid ((hR2.out.fine (((Fine.refl _).drew.trans fT).alloc _)).app hoA hkA)
  go_wp2_with fail
  go_ret
  exact RBy.mk hRz.out HE.out
set_option maxHeartbeats 2000000 in
set_option maxRecDepth 100000 in
theorem refBytes_3 (V : Nat → Int) (hV : OkV V) (hk : V 0 = 3) (w : World) : Calls Tryd.prog 61 #[.agg (optL V).toArray] w (RBy V w) := by
  have h1 : 0 ≤ V 1 ∧ V 1 < 18446744073709551616 := hV 1 (by decide)
  have h2 : 0 ≤ V 2 ∧ V 2 < 18446744073709551616 := hV 2 (by decide)
  have h3 : 0 ≤ V 3 ∧ V 3 < 4294967296 := hV 3 (by decide)
  have h4 : 0 ≤ V 4 ∧ V 4 < 4294967296 := hV 4 (by decide)
  have h7 : V 7 = 0 ∨ V 7 = 1 := hV 7 (by decide)
  have h8 : V 8 = 0 ∨ V 8 = 1 := hV 8 (by decide)
  have h10 : V 10 = 0 ∨ V 10 = 1 := hV 10 (by decide)
  have h13 : V 13 = 0 ∨ V 13 = 1 := hV 13 (by decide)
  have m3 : V 3 % 18446744073709551616 = V 3 := by omega
  have m4 : V 4 % 18446744073709551616 = V 4 := by omega
  have t7 : V 7 % 256 = V 7 := by omega
  have t8 : V 8 % 256 = V 8 := by omega
  have t10 : V 10 % 256 = V 10 := by omega
  have t13 : V 13 % 256 = V 13 := by omega
  have HE : Hid (optB V = (([(3 : Int)] ++ be 8 (V 2)) ++ be 4 (V 4))) := Lib.hid (by
    unfold optB
    rw [hk]
    simp [fieldsOf, fieldB, be, t7, t8, t10, t13])
  have H7 := Lib.hid h7
  have H8 := Lib.hid h8
  have H10 := Lib.hid h10
  have H13 := Lib.hid h13
  clear t7 t8 t10 t13 h7 h8 h10 h13
  have hl0 : Hid (([(3 : Int)] : List Int).length + (be 8 (V 2) : List Int).length ≤ 1000) := Lib.hid (by simp [be_length])
  have hl1 : Hid ((([(3 : Int)] ++ be 8 (V 2)) : List Int).length + (be 4 (V 4) : List Int).length ≤ 1000) := Lib.hid (by simp [be_length])
  have hR0 : Hid (RB w (w.heap.size + 1) w.heap.size V [3] (.slice (some ⟨w.heap.size + 1, 0, none⟩) 1 1) ((w.alloc (.cells #[.int .i64 3, .int .u64 (V 1), .int .u64 (V 2), .int .u32 (V 3), .int .u32 (V 4), .int .i64 (V 5), .int .i64 (V 6), .bool (decide (V 7 = 1)), .bool (decide (V 8 = 1)), .int .i64 (V 9), .bool (decide (V 10 = 1)), .int .i64 (V 11), .int .i64 (V 12), .bool (decide (V 13 = 1))] 69)).alloc (.cells #[.int .u8 (3)] 5))) := Lib.hid ⟨((Fine.refl w).alloc _).alloc _, by omega, by omega, by simp, ((Blk.new w 69 #[.int .i64 3, .int .u64 (V 1), .int .u64 (V 2), .int .u32 (V 3), .int .u32 (V 4), .int .i64 (V 5), .int .i64 (V 6), .bool (decide (V 7 = 1)), .bool (decide (V 8 = 1)), .int .i64 (V 9), .bool (decide (V 10 = 1)), .int .i64 (V 11), .int .i64 (V 12), .bool (decide (V 13 = 1))]).alloc _).cast (by unfold optL; rw [hk]), OwnB.litAt (w := (w.alloc (.cells #[.int .i64 3, .int .u64 (V 1), .int .u64 (V 2), .int .u32 (V 3), .int .u32 (V 4), .int .i64 (V 5), .int .i64 (V 6), .bool (decide (V 7 = 1)), .bool (decide (V 8 = 1)), .int .i64 (V 9), .bool (decide (V 10 = 1)), .int .i64 (V 11), .int .i64 (V 12), .bool (decide (V 13 = 1))] 69))) [3] (Bytes.one (by omega)) (by simp) (by simp) (by simp)⟩
  go_enter Tryd.func61, Tryd.ntmps61
  unfold optL
  rw [hk]
  go_wp2_with fail
  obtain ⟨x3, hx3⟩ : ∃ x3, w.heap.size + 1 = x3 := ⟨_, rfl⟩
  generalize ((w.alloc (.cells #[.int .i64 3, .int .u64 (V 1), .int .u64 (V 2), .int .u32 (V 3), .int .u32 (V 4), .int .i64 (V 5), .int .i64 (V 6), .bool (decide (V 7 = 1)), .bool (decide (V 8 = 1)), .int .i64 (V 9), .bool (decide (V 10 = 1)), .int .i64 (V 11), .int .i64 (V 12), .bool (decide (V 13 = 1))] 69)).alloc (.cells #[.int .u8 (3)] 5)) = w0 at hR0 ⊢
  rw [hx3] at hR0 ⊢
  obtain ⟨x1, hx1⟩ : ∃ x1, w.heap.size = x1 := ⟨_, rfl⟩
  rw [hx1] at hR0 ⊢
  clear hx3 hx1
  refine (bytesV h2 8 (.inr rfl) w0).mono ?_
  rintro x u0 ⟨B0, d0, rfl, b0, f0⟩
  have hQ0 := Lib.hid (hR0.out.fine f0)
  have G0 := Lib.hid b0; clear b0 hR0
  go_wp2_with (at_builtin; refine wpList_appR rfl (.tmp 43) (.tmp 46) rfl x3 x1 V _ _ rfl hQ0 B0 _ d0 _ rfl rfl G0.out hl0 ?_; intro A0 n0 c0 w1 hR1; have e0_4 : w1.cell? ⟨x1, 4, none⟩ = some (.int .u32 (V 4)) := hR1.out.2.2.2.2.1.cell 4)
  refine (bytesV (x := V 4) (by omega) 4 (.inl rfl) w1).mono ?_
  rintro x u1 ⟨B1, d1, rfl, b1, f1⟩
  have hQ1 := Lib.hid (hR1.out.fine f1)
  have G1 := Lib.hid b1; clear b1 hR1
  go_wp2_with (at_builtin; refine wpList_appR rfl (.tmp 48) (.tmp 52) rfl x3 x1 V _ _ rfl hQ1 B1 _ d1 _ rfl rfl G1.out hl1 ?_; intro A1 n1 c1 w2 hR2)
  go_ret
  exact RBy.mk hR2.out HE.out
set_option maxHeartbeats 2000000 in
set_option maxRecDepth 100000 in
theorem refBytes_4 (V : Nat → Int) (hV : OkV V) (hk : V 0 = 4) (w : World) : Calls Tryd.prog 61 #[.agg (optL V).toArray] w (RBy V w) := by
  have h1 : 0 ≤ V 1 ∧ V 1 < 18446744073709551616 := hV 1 (by decide)
  have h2 : 0 ≤ V 2 ∧ V 2 < 18446744073709551616 := hV 2 (by decide)
  have h3 : 0 ≤ V 3 ∧ V 3 < 4294967296 := hV 3 (by decide)
  have h4 : 0 ≤ V 4 ∧ V 4 < 4294967296 := hV 4 (by decide)
  have h7 : V 7 = 0 ∨ V 7 = 1 := hV 7 (by decide)
  have h8 : V 8 = 0 ∨ V 8 = 1 := hV 8 (by decide)
  have h10 : V 10 = 0 ∨ V 10 = 1 := hV 10 (by decide)
  have h13 : V 13 = 0 ∨ V 13 = 1 := hV 13 (by decide)
  have m3 : V 3 % 18446744073709551616 = V 3 := by omega
  have m4 : V 4 % 18446744073709551616 = V 4 := by omega
  have t7 : V 7 % 256 = V 7 := by omega
  have t8 : V 8 % 256 = V 8 := by omega
  have t10 : V 10 % 256 = V 10 := by omega
  have t13 : V 13 % 256 = V 13 := by omega
  have HE : Hid (optB V = ([(4 : Int)] ++ be 8 (V 2))) := Lib.hid (by
    unfold optB
    rw [hk]
    simp [fieldsOf, fieldB, be, t7, t8, t10, t13])
  have H7 := Lib.hid h7
  have H8 := Lib.hid h8
  have H10 := Lib.hid h10
  have H13 := Lib.hid h13
  clear t7 t8 t10 t13 h7 h8 h10 h13
  have hl0 : Hid (([(4 : Int)] : List Int).length + (be 8 (V 2) : List Int).length ≤ 1000) := Lib.hid (by simp [be_length])
  have hR0 : Hid (RB w (w.heap.size + 1) w.heap.size V [4] (.slice (some ⟨w.heap.size + 1, 0, none⟩) 1 1) ((w.alloc (.cells #[.int .i64 4, .int .u64 (V 1), .int .u64 (V 2), .int .u32 (V 3), .int .u32 (V 4), .int .i64 (V 5), .int .i64 (V 6), .bool (decide (V 7 = 1)), .bool (decide (V 8 = 1)), .int .i64 (V 9), .bool (decide (V 10 = 1)), .int .i64 (V 11), .int .i64 (V 12), .bool (decide (V 13 = 1))] 69)).alloc (.cells #[.int .u8 (4)] 5))) := Lib.hid ⟨((Fine.refl w).alloc _).alloc _, by omega, by omega, by simp, ((Blk.new w 69 #[.int .i64 4, .int .u64 (V 1), .int .u64 (V 2), .int .u32 (V 3), .int .u32 (V 4), .int .i64 (V 5), .int .i64 (V 6), .bool (decide (V 7 = 1)), .bool (decide (V 8 = 1)), .int .i64 (V 9), .bool (decide (V 10 = 1)), .int .i64 (V 11), .int .i64 (V 12), .bool (decide (V 13 = 1))]).alloc _).cast (by unfold optL; rw [hk]), OwnB.litAt (w := (w.alloc (.cells #[.int .i64 4, .int .u64 (V 1), .int .u64 (V 2), .int .u32 (V 3), .int .u32 (V 4), .int .i64 (V 5), .int .i64 (V 6), .bool (decide (V 7 = 1)), .bool (decide (V 8 = 1)), .int .i64 (V 9), .bool (decide (V 10 = 1)), .int .i64 (V 11), .int .i64 (V 12), .bool (decide (V 13 = 1))] 69))) [4] (Bytes.one (by omega)) (by simp) (by simp) (by simp)⟩
  go_enter Tryd.func61, Tryd.ntmps61
  unfold optL
  rw [hk]
  go_wp2_with fail
  obtain ⟨x3, hx3⟩ : ∃ x3, w.heap.size + 1 = x3 := ⟨_, rfl⟩
  generalize ((w.alloc (.cells #[.int .i64 4, .int .u64 (V 1), .int .u64 (V 2), .int .u32 (V 3), .int .u32 (V 4), .int .i64 (V 5), .int .i64 (V 6), .bool (decide (V 7 = 1)), .bool (decide (V 8 = 1)), .int .i64 (V 9), .bool (decide (V 10 = 1)), .int .i64 (V 11), .int .i64 (V 12), .bool (decide (V 13 = 1))] 69)).alloc (.cells #[.int .u8 (4)] 5)) = w0 at hR0 ⊢
  rw [hx3] at hR0 ⊢
  obtain ⟨x1, hx1⟩ : ∃ x1, w.heap.size = x1 := ⟨_, rfl⟩
  rw [hx1] at hR0 ⊢
  clear hx3 hx1
  refine (bytesV h2 8 (.inr rfl) w0).mono ?_
  rintro x u0 ⟨B0, d0, rfl, b0, f0⟩
  have hQ0 := Lib.hid (hR0.out.fine f0)
  have G0 := Lib.hid b0; clear b0 hR0
  go_wp2_with (at_builtin; refine wpList_appR rfl (.tmp 56) (.tmp 59) rfl x3 x1 V _ _ rfl hQ0 B0 _ d0 _ rfl rfl G0.out hl0 ?_; intro A0 n0 c0 w1 hR1)
  go_ret
  exact RBy.mk hR1.out HE.out
set_option maxHeartbeats 2000000 in
set_option maxRecDepth 100000 in
theorem refBytes_5 (V : Nat → Int) (hV : OkV V) (hk : V 0 = 5) (w : World) : Calls Tryd.prog 61 #[.agg (optL V).toArray] w (RBy V w) := by
  have h1 : 0 ≤ V 1 ∧ V 1 < 18446744073709551616 := hV 1 (by decide)
  have h2 : 0 ≤ V 2 ∧ V 2 < 18446744073709551616 := hV 2 (by decide)
  have h3 : 0 ≤ V 3 ∧ V 3 < 4294967296 := hV 3 (by decide)
  have h4 : 0 ≤ V 4 ∧ V 4 < 4294967296 := hV 4 (by decide)
  have h7 : V 7 = 0 ∨ V 7 = 1 := hV 7 (by decide)
  have h8 : V 8 = 0 ∨ V 8 = 1 := hV 8 (by decide)
  have h10 : V 10 = 0 ∨ V 10 = 1 := hV 10 (by decide)
  have h13 : V 13 = 0 ∨ V 13 = 1 := hV 13 (by decide)
  have m3 : V 3 % 18446744073709551616 = V 3 := by omega
  have m4 : V 4 % 18446744073709551616 = V 4 := by omega
  have t7 : V 7 % 256 = V 7 := by omega
  have t8 : V 8 % 256 = V 8 := by omega
  have t10 : V 10 % 256 = V 10 := by omega
  have t13 : V 13 % 256 = V 13 := by omega
  have HE : Hid (optB V = ((((([(5 : Int)] ++ [V 8]) ++ be 4 (V 9)) ++ [V 10]) ++ be 4 (V 11)) ++ [V 12 % 256, V 13])) := Lib.hid (by
    unfold optB
    rw [hk]
    simp [fieldsOf, fieldB, be, t7, t8, t10, t13])
  have H7 := Lib.hid h7
  have H8 := Lib.hid h8
  have H10 := Lib.hid h10
  have H13 := Lib.hid h13
  clear t7 t8 t10 t13 h7 h8 h10 h13
  have hl0 : Hid (([(5 : Int)] : List Int).length + ([V 8] : List Int).length ≤ 1000) := Lib.hid (by simp [be_length])
  have hl1 : Hid ((([(5 : Int)] ++ [V 8]) : List Int).length + (be 4 (V 9) : List Int).length ≤ 1000) := Lib.hid (by simp [be_length])
  have hl2 : Hid (((([(5 : Int)] ++ [V 8]) ++ be 4 (V 9)) : List Int).length + ([V 10] : List Int).length ≤ 1000) := Lib.hid (by simp [be_length])
  have hl3 : Hid ((((([(5 : Int)] ++ [V 8]) ++ be 4 (V 9)) ++ [V 10]) : List Int).length + (be 4 (V 11) : List Int).length ≤ 1000) := Lib.hid (by simp [be_length])
  have hl4 : Hid (((((([(5 : Int)] ++ [V 8]) ++ be 4 (V 9)) ++ [V 10]) ++ be 4 (V 11)) : List Int).length + ([V 12 % 256, V 13] : List Int).length ≤ 1000) := Lib.hid (by simp [be_length])
  have hR0 : Hid (RB w (w.heap.size + 1) w.heap.size V [5] (.slice (some ⟨w.heap.size + 1, 0, none⟩) 1 1) ((w.alloc (.cells #[.int .i64 5, .int .u64 (V 1), .int .u64 (V 2), .int .u32 (V 3), .int .u32 (V 4), .int .i64 (V 5), .int .i64 (V 6), .bool (decide (V 7 = 1)), .bool (decide (V 8 = 1)), .int .i64 (V 9), .bool (decide (V 10 = 1)), .int .i64 (V 11), .int .i64 (V 12), .bool (decide (V 13 = 1))] 69)).alloc (.cells #[.int .u8 (5)] 5))) := Lib.hid ⟨((Fine.refl w).alloc _).alloc _, by omega, by omega, by simp, ((Blk.new w 69 #[.int .i64 5, .int .u64 (V 1), .int .u64 (V 2), .int .u32 (V 3), .int .u32 (V 4), .int .i64 (V 5), .int .i64 (V 6), .bool (decide (V 7 = 1)), .bool (decide (V 8 = 1)), .int .i64 (V 9), .bool (decide (V 10 = 1)), .int .i64 (V 11), .int .i64 (V 12), .bool (decide (V 13 = 1))]).alloc _).cast (by unfold optL; rw [hk]), OwnB.litAt (w := (w.alloc (.cells #[.int .i64 5, .int .u64 (V 1), .int .u64 (V 2), .int .u32 (V 3), .int .u32 (V 4), .int .i64 (V 5), .int .i64 (V 6), .bool (decide (V 7 = 1)), .bool (decide (V 8 = 1)), .int .i64 (V 9), .bool (decide (V 10 = 1)), .int .i64 (V 11), .int .i64 (V 12), .bool (decide (V 13 = 1))] 69))) [5] (Bytes.one (by omega)) (by simp) (by simp) (by simp)⟩
  go_enter Tryd.func61, Tryd.ntmps61
  unfold optL
  rw [hk]
  go_wp2_with fail
  obtain ⟨x3, hx3⟩ : ∃ x3, w.heap.size + 1 = x3 := ⟨_, rfl⟩
  generalize ((w.alloc (.cells #[.int .i64 5, .int .u64 (V 1), .int .u64 (V 2), .int .u32 (V 3), .int .u32 (V 4), .int .i64 (V 5), .int .i64 (V 6), .bool (decide (V 7 = 1)), .bool (decide (V 8 = 1)), .int .i64 (V 9), .bool (decide (V 10 = 1)), .int .i64 (V 11), .int .i64 (V 12), .bool (decide (V 13 = 1))] 69)).alloc (.cells #[.int .u8 (5)] 5)) = w0 at hR0 ⊢
  rw [hx3] at hR0 ⊢
  obtain ⟨x1, hx1⟩ : ∃ x1, w.heap.size = x1 := ⟨_, rfl⟩
  rw [hx1] at hR0 ⊢
  clear hx3 hx1
  refine (truthV H8.out w0).mono ?_
  rintro x u0 ⟨rfl, f0⟩
  have hQ0 := Lib.hid (hR0.out.fine f0)
  clear hR0
  go_wp2_with (at_builtin; refine wpList_appR rfl (.tmp 63) (.tmp 67) rfl x3 x1 V _ _ rfl (Lib.hid (hQ0.out.fine ((Fine.refl _).alloc _))) _ _ _ [V 8] rfl rfl (BS.litAt [V 8] (Bytes.one (tr_bd H8.out)) (by simp) (by simp)) hl0 ?_; intro A0 n0 c0 w1 hR1; have e0_9 : w1.cell? ⟨x1, 9, none⟩ = some (.int .i64 (V 9)) := hR1.out.2.2.2.2.1.cell 9)
  refine (numV (V 9) w1).mono ?_
  rintro x u1 ⟨B1, d1, rfl, b1, f1⟩
  have hQ1 := Lib.hid (hR1.out.fine f1)
  have G1 := Lib.hid b1; clear b1 hR1
  go_wp2_with (at_builtin; refine wpList_appR rfl (.tmp 69) (.tmp 72) rfl x3 x1 V _ _ rfl hQ1 B1 _ d1 _ rfl rfl G1.out hl1 ?_; intro A1 n1 c1 w2 hR2; have e1_10 : w2.cell? ⟨x1, 10, none⟩ = some (.bool (decide (V 10 = 1))) := hR2.out.2.2.2.2.1.cell 10)
  refine (truthV H10.out w2).mono ?_
  rintro x u2 ⟨rfl, f2⟩
  have hQ2 := Lib.hid (hR2.out.fine f2)
  clear hR2
  go_wp2_with (at_builtin; refine wpList_appR rfl (.tmp 74) (.tmp 78) rfl x3 x1 V _ _ rfl (Lib.hid (hQ2.out.fine ((Fine.refl _).alloc _))) _ _ _ [V 10] rfl rfl (BS.litAt [V 10] (Bytes.one (tr_bd H10.out)) (by simp) (by simp)) hl2 ?_; intro A2 n2 c2 w3 hR3; have e2_11 : w3.cell? ⟨x1, 11, none⟩ = some (.int .i64 (V 11)) := hR3.out.2.2.2.2.1.cell 11)
  refine (numV (V 11) w3).mono ?_
  rintro x u3 ⟨B3, d3, rfl, b3, f3⟩
  have hQ3 := Lib.hid (hR3.out.fine f3)
  have G3 := Lib.hid b3; clear b3 hR3
  go_wp2_with (at_builtin; refine wpList_appR rfl (.tmp 80) (.tmp 83) rfl x3 x1 V _ _ rfl hQ3 B3 _ d3 _ rfl rfl G3.out hl3 ?_; intro A3 n3 c3 w4 hR4; have e3_12 : w4.cell? ⟨x1, 12, none⟩ = some (.int .i64 (V 12)) := hR4.out.2.2.2.2.1.cell 12; have e3_13 : w4.cell? ⟨x1, 13, none⟩ = some (.bool (decide (V 13 = 1))) := hR4.out.2.2.2.2.1.cell 13)
  have HK : Hid (∀ w', Kept (fun k => x3 ≤ k) w4 w' → (fun w' => w'.cell? ⟨x1, 12, none⟩ = some (.int .i64 (V 12)) ∧ w'.cell? ⟨x1, 13, none⟩ = some (.bool (decide (V 13 = 1)))) w') := Lib.hid (fun w' hk => by
    have b := hR4.out.2.2.2.2.1.kept hk (by have := hR4.out.2.2.1; omega)
    exact ⟨b.cell 12, b.cell 13⟩)
  go_region_held3 (fun w' => w'.cell? ⟨x1, 12, none⟩ = some (.int .i64 (V 12)) ∧ w'.cell? ⟨x1, 13, none⟩ = some (.bool (decide (V 13 = 1)))) ((refine HK.out _ ?_; repeat (first | refine Kept.trans ?_ hkA | refine Kept.trans ?_ (Kept.of_fine fT) | refine Kept.alloc ?_ _ | refine Kept.drew ?_ | exact Kept.refl _ _))) (first | (go_at_call 72; refine (truthV H13.out _).mono ?_; rintro x wT ⟨rfl, fT⟩) | (refine step_appB rfl (.tmp 85) (.tmp 92) rfl x3 _ _ rfl ((hR4.out.fine (((Fine.refl _).drew.trans fT).alloc _)).2.2.2.2.2) _ _ _ [V 12 % 256, V 13] rfl rfl (BS.litAt [V 12 % 256, V 13] (Bytes.two (byte_bd _) (tr_bd H13.out)) (by simp) (by simp)) (by have := hl4.out; omega) (hR4.out.fine (((Fine.refl _).drew.trans fT).alloc _)).2.2.2.1 ?_; intro vA wA hoA hkA hgA hvA))
  have hRz := Lib.hid ((hR4.out.fine (((Fine.refl _).drew.trans fT).alloc _)).app hoA hkA)
  go_wp2_with fail
  go_ret
  exact RBy.mk hRz.out HE.out
set_option maxHeartbeats 2000000 in
set_option maxRecDepth 100000 in
theorem refBytes_6 (V : Nat → Int) (hV : OkV V) (hk : V 0 = 6) (w : World) : Calls Tryd.prog 61 #[.agg (optL V).toArray] w (RBy V w) := by
  have h1 : 0 ≤ V 1 ∧ V 1 < 18446744073709551616 := hV 1 (by decide)
  have h2 : 0 ≤ V 2 ∧ V 2 < 18446744073709551616 := hV 2 (by decide)
  have h3 : 0 ≤ V 3 ∧ V 3 < 4294967296 := hV 3 (by decide)
  have h4 : 0 ≤ V 4 ∧ V 4 < 4294967296 := hV 4 (by decide)
  have h7 : V 7 = 0 ∨ V 7 = 1 := hV 7 (by decide)
  have h8 : V 8 = 0 ∨ V 8 = 1 := hV 8 (by decide)
  have h10 : V 10 = 0 ∨ V 10 = 1 := hV 10 (by decide)
  have h13 : V 13 = 0 ∨ V 13 = 1 := hV 13 (by decide)
  have m3 : V 3 % 18446744073709551616 = V 3 := by omega
  have m4 : V 4 % 18446744073709551616 = V 4 := by omega
  have t7 : V 7 % 256 = V 7 := by omega
  have t8 : V 8 % 256 = V 8 := by omega
  have t10 : V 10 % 256 = V 10 := by omega
  have t13 : V 13 % 256 = V 13 := by omega
  have HE : Hid (optB V = ([(6 : Int)] ++ [V 5 % 256])) := Lib.hid (by
    unfold optB
    rw [hk]
    simp [fieldsOf, fieldB, be, t7, t8, t10, t13])
  have H7 := Lib.hid h7
  have H8 := Lib.hid h8
  have H10 := Lib.hid h10
  have H13 := Lib.hid h13
  clear t7 t8 t10 t13 h7 h8 h10 h13
  have hl0 : Hid (([(6 : Int)] : List Int).length + ([V 5 % 256] : List Int).length ≤ 1000) := Lib.hid (by simp [be_length])
  have hR0 : Hid (RB w (w.heap.size + 1) w.heap.size V [6] (.slice (some ⟨w.heap.size + 1, 0, none⟩) 1 1) ((w.alloc (.cells #[.int .i64 6, .int .u64 (V 1), .int .u64 (V 2), .int .u32 (V 3), .int .u32 (V 4), .int .i64 (V 5), .int .i64 (V 6), .bool (decide (V 7 = 1)), .bool (decide (V 8 = 1)), .int .i64 (V 9), .bool (decide (V 10 = 1)), .int .i64 (V 11), .int .i64 (V 12), .bool (decide (V 13 = 1))] 69)).alloc (.cells #[.int .u8 (6)] 5))) := Lib.hid ⟨((Fine.refl w).alloc _).alloc _, by omega, by omega, by simp, ((Blk.new w 69 #[.int .i64 6, .int .u64 (V 1), .int .u64 (V 2), .int .u32 (V 3), .int .u32 (V 4), .int .i64 (V 5), .int .i64 (V 6), .bool (decide (V 7 = 1)), .bool (decide (V 8 = 1)), .int .i64 (V 9), .bool (decide (V 10 = 1)), .int .i64 (V 11), .int .i64 (V 12), .bool (decide (V 13 = 1))]).alloc _).cast (by unfold optL; rw [hk]), OwnB.litAt (w := (w.alloc (.cells #[.int .i64 6, .int .u64 (V 1), .int .u64 (V 2), .int .u32 (V 3), .int .u32 (V 4), .int .i64 (V 5), .int .i64 (V 6), .bool (decide (V 7 = 1)), .bool (decide (V 8 = 1)), .int .i64 (V 9), .bool (decide (V 10 = 1)), .int .i64 (V 11), .int .i64 (V 12), .bool (decide (V 13 = 1))] 69))) [6] (Bytes.one (by omega)) (by simp) (by simp) (by simp)⟩
  go_enter Tryd.func61, Tryd.ntmps61
  unfold optL
  rw [hk]
  go_wp2_with (at_builtin; refine wpList_appR rfl (.tmp 97) (.tmp 101) rfl (w.heap.size + 1) w.heap.size V _ _ rfl (Lib.hid (hR0.out.fine ((Fine.refl _).alloc _))) _ _ _ [V 5 % 256] rfl rfl (BS.litAt [V 5 % 256] (Bytes.one (byte_bd _)) (by simp) (by simp)) hl0 ?_; intro A1 n1 c1 w1 hR1)
  go_ret
  exact RBy.mk hR1.out HE.out
set_option maxHeartbeats 2000000 in
set_option maxRecDepth 100000 in
theorem refBytes_7 (V : Nat → Int) (hV : OkV V) (hk : V 0 = 7) (w : World) : Calls Tryd.prog 61 #[.agg (optL V).toArray] w (RBy V w) := by
  have h1 : 0 ≤ V 1 ∧ V 1 < 18446744073709551616 := hV 1 (by decide)
  have h2 : 0 ≤ V 2 ∧ V 2 < 18446744073709551616 := hV 2 (by decide)
  have h3 : 0 ≤ V 3 ∧ V 3 < 4294967296 := hV 3 (by decide)
  have h4 : 0 ≤ V 4 ∧ V 4 < 4294967296 := hV 4 (by decide)
  have h7 : V 7 = 0 ∨ V 7 = 1 := hV 7 (by decide)
  have h8 : V 8 = 0 ∨ V 8 = 1 := hV 8 (by decide)
  have h10 : V 10 = 0 ∨ V 10 = 1 := hV 10 (by decide)
  have h13 : V 13 = 0 ∨ V 13 = 1 := hV 13 (by decide)
  have m3 : V 3 % 18446744073709551616 = V 3 := by omega
  have m4 : V 4 % 18446744073709551616 = V 4 := by omega
  have t7 : V 7 % 256 = V 7 := by omega
  have t8 : V 8 % 256 = V 8 := by omega
  have t10 : V 10 % 256 = V 10 := by omega
  have t13 : V 13 % 256 = V 13 := by omega
  have HE : Hid (optB V = ([(7 : Int)] ++ [V 5 % 256])) := Lib.hid (by
    unfold optB
    rw [hk]
    simp [fieldsOf, fieldB, be, t7, t8, t10, t13])
  have H7 := Lib.hid h7
  have H8 := Lib.hid h8
  have H10 := Lib.hid h10
  have H13 := Lib.hid h13
  clear t7 t8 t10 t13 h7 h8 h10 h13
  have hl0 : Hid (([(7 : Int)] : List Int).length + ([V 5 % 256] : List Int).length ≤ 1000) := Lib.hid (by simp [be_length])
  have hR0 : Hid (RB w (w.heap.size + 1) w.heap.size V [7] (.slice (some ⟨w.heap.size + 1, 0, none⟩) 1 1) ((w.alloc (.cells #[.int .i64 7, .int .u64 (V 1), .int .u64 (V 2), .int .u32 (V 3), .int .u32 (V 4), .int .i64 (V 5), .int .i64 (V 6), .bool (decide (V 7 = 1)), .bool (decide (V 8 = 1)), .int .i64 (V 9), .bool (decide (V 10 = 1)), .int .i64 (V 11), .int .i64 (V 12), .bool (decide (V 13 = 1))] 69)).alloc (.cells #[.int .u8 (7)] 5))) := Lib.hid ⟨((Fine.refl w).alloc _).alloc _, by omega, by omega, by simp, ((Blk.new w 69 #[.int .i64 7, .int .u64 (V 1), .int .u64 (V 2), .int .u32 (V 3), .int .u32 (V 4), .int .i64 (V 5), .int .i64 (V 6), .bool (decide (V 7 = 1)), .bool (decide (V 8 = 1)), .int .i64 (V 9), .bool (decide (V 10 = 1)), .int .i64 (V 11), .int .i64 (V 12), .bool (decide (V 13 = 1))]).alloc _).cast (by unfold optL; rw [hk]), OwnB.litAt (w := (w.alloc (.cells #[.int .i64 7, .int .u64 (V 1), .int .u64 (V 2), .int .u32 (V 3), .int .u32 (V 4), .int .i64 (V 5), .int .i64 (V 6), .bool (decide (V 7 = 1)), .bool (decide (V 8 = 1)), .int .i64 (V 9), .bool (decide (V 10 = 1)), .int .i64 (V 11), .int .i64 (V 12), .bool (decide (V 13 = 1))] 69))) [7] (Bytes.one (by omega)) (by simp) (by simp) (by simp)⟩
  go_enter Tryd.func61, Tryd.ntmps61
  unfold optL
  rw [hk]
  go_wp2_with (at_builtin; refine wpList_appR rfl (.tmp 97) (.tmp 101) rfl (w.heap.size + 1) w.heap.size V _ _ rfl (Lib.hid (hR0.out.fine ((Fine.refl _).alloc _))) _ _ _ [V 5 % 256] rfl rfl (BS.litAt [V 5 % 256] (Bytes.one (byte_bd _)) (by simp) (by simp)) hl0 ?_; intro A1 n1 c1 w1 hR1)
  go_ret
  exact RBy.mk hR1.out HE.out
set_option maxHeartbeats 2000000 in
set_option maxRecDepth 100000 in
theorem refBytes_8 (V : Nat → Int) (hV : OkV V) (hk : V 0 = 8) (w : World) : Calls Tryd.prog 61 #[.agg (optL V).toArray] w (RBy V w) := by
  have h1 : 0 ≤ V 1 ∧ V 1 < 18446744073709551616 := hV 1 (by decide)
  have h2 : 0 ≤ V 2 ∧ V 2 < 18446744073709551616 := hV 2 (by decide)
  have h3 : 0 ≤ V 3 ∧ V 3 < 4294967296 := hV 3 (by decide)
  have h4 : 0 ≤ V 4 ∧ V 4 < 4294967296 := hV 4 (by decide)
  have h7 : V 7 = 0 ∨ V 7 = 1 := hV 7 (by decide)
  have h8 : V 8 = 0 ∨ V 8 = 1 := hV 8 (by decide)
  have h10 : V 10 = 0 ∨ V 10 = 1 := hV 10 (by decide)
  have h13 : V 13 = 0 ∨ V 13 = 1 := hV 13 (by decide)
  have m3 : V 3 % 18446744073709551616 = V 3 := by omega
  have m4 : V 4 % 18446744073709551616 = V 4 := by omega
  have t7 : V 7 % 256 = V 7 := by omega
  have t8 : V 8 % 256 = V 8 := by omega
  have t10 : V 10 % 256 = V 10 := by omega
  have t13 : V 13 % 256 = V 13 := by omega
  have HE : Hid (optB V = ([(8 : Int)] ++ [V 7])) := Lib.hid (by
    unfold optB
    rw [hk]
    simp [fieldsOf, fieldB, be, t7, t8, t10, t13])
  have H7 := Lib.hid h7
  have H8 := Lib.hid h8
  have H10 := Lib.hid h10
  have H13 := Lib.hid h13
  clear t7 t8 t10 t13 h7 h8 h10 h13
  have hl0 : Hid (([(8 : Int)] : List Int).length + ([V 7] : List Int).length ≤ 1000) := Lib.hid (by simp [be_length])
  have hR0 : Hid (RB w (w.heap.size + 1) w.heap.size V [8] (.slice (some ⟨w.heap.size + 1, 0, none⟩) 1 1) ((w.alloc (.cells #[.int .i64 8, .int .u64 (V 1), .int .u64 (V 2), .int .u32 (V 3), .int .u32 (V 4), .int .i64 (V 5), .int .i64 (V 6), .bool (decide (V 7 = 1)), .bool (decide (V 8 = 1)), .int .i64 (V 9), .bool (decide (V 10 = 1)), .int .i64 (V 11), .int .i64 (V 12), .bool (decide (V 13 = 1))] 69)).alloc (.cells #[.int .u8 (8)] 5))) := Lib.hid ⟨((Fine.refl w).alloc _).alloc _, by omega, by omega, by simp, ((Blk.new w 69 #[.int .i64 8, .int .u64 (V 1), .int .u64 (V 2), .int .u32 (V 3), .int .u32 (V 4), .int .i64 (V 5), .int .i64 (V 6), .bool (decide (V 7 = 1)), .bool (decide (V 8 = 1)), .int .i64 (V 9), .bool (decide (V 10 = 1)), .int .i64 (V 11), .int .i64 (V 12), .bool (decide (V 13 = 1))]).alloc _).cast (by unfold optL; rw [hk]), OwnB.litAt (w := (w.alloc (.cells #[.int .i64 8, .int .u64 (V 1), .int .u64 (V 2), .int .u32 (V 3), .int .u32 (V 4), .int .i64 (V 5), .int .i64 (V 6), .bool (decide (V 7 = 1)), .bool (decide (V 8 = 1)), .int .i64 (V 9), .bool (decide (V 10 = 1)), .int .i64 (V 11), .int .i64 (V 12), .bool (decide (V 13 = 1))] 69))) [8] (Bytes.one (by omega)) (by simp) (by simp) (by simp)⟩
  go_enter Tryd.func61, Tryd.ntmps61
  unfold optL
  rw [hk]
  go_wp2_with fail
  obtain ⟨x3, hx3⟩ : ∃ x3, w.heap.size + 1 = x3 := ⟨_, rfl⟩
  generalize ((w.alloc (.cells #[.int .i64 8, .int .u64 (V 1), .int .u64 (V 2), .int .u32 (V 3), .int .u32 (V 4), .int .i64 (V 5), .int .i64 (V 6), .bool (decide (V 7 = 1)), .bool (decide (V 8 = 1)), .int .i64 (V 9), .bool (decide (V 10 = 1)), .int .i64 (V 11), .int .i64 (V 12), .bool (decide (V 13 = 1))] 69)).alloc (.cells #[.int .u8 (8)] 5)) = w0 at hR0 ⊢
  rw [hx3] at hR0 ⊢
  obtain ⟨x1, hx1⟩ : ∃ x1, w.heap.size = x1 := ⟨_, rfl⟩
  rw [hx1] at hR0 ⊢
  clear hx3 hx1
  refine (truthV H7.out w0).mono ?_
  rintro x u0 ⟨rfl, f0⟩
  have hQ0 := Lib.hid (hR0.out.fine f0)
  clear hR0
  go_wp2_with (at_builtin; refine wpList_appR rfl (.tmp 105) (.tmp 109) rfl x3 x1 V _ _ rfl (Lib.hid (hQ0.out.fine ((Fine.refl _).alloc _))) _ _ _ [V 7] rfl rfl (BS.litAt [V 7] (Bytes.one (tr_bd H7.out)) (by simp) (by simp)) hl0 ?_; intro A0 n0 c0 w1 hR1)
  go_ret
  exact RBy.mk hR1.out HE.out
set_option maxHeartbeats 2000000 in
set_option maxRecDepth 100000 in
theorem refBytes_9 (V : Nat → Int) (hV : OkV V) (hk : V 0 = 9) (w : World) : Calls Tryd.prog 61 #[.agg (optL V).toArray] w (RBy V w) := by
  have h1 : 0 ≤ V 1 ∧ V 1 < 18446744073709551616 := hV 1 (by decide)
  have h2 : 0 ≤ V 2 ∧ V 2 < 18446744073709551616 := hV 2 (by decide)
  have h3 : 0 ≤ V 3 ∧ V 3 < 4294967296 := hV 3 (by decide)
  have h4 : 0 ≤ V 4 ∧ V 4 < 4294967296 := hV 4 (by decide)
  have h7 : V 7 = 0 ∨ V 7 = 1 := hV 7 (by decide)
  have h8 : V 8 = 0 ∨ V 8 = 1 := hV 8 (by decide)
  have h10 : V 10 = 0 ∨ V 10 = 1 := hV 10 (by decide)
  have h13 : V 13 = 0 ∨ V 13 = 1 := hV 13 (by decide)
  have m3 : V 3 % 18446744073709551616 = V 3 := by omega
  have m4 : V 4 % 18446744073709551616 = V 4 := by omega
  have t7 : V 7 % 256 = V 7 := by omega
  have t8 : V 8 % 256 = V 8 := by omega
  have t10 : V 10 % 256 = V 10 := by omega
  have t13 : V 13 % 256 = V 13 := by omega
  have HE : Hid (optB V = ([(9 : Int)] ++ be 4 (V 11))) := Lib.hid (by
    unfold optB
    rw [hk]
    simp [fieldsOf, fieldB, be, t7, t8, t10, t13])
  have H7 := Lib.hid h7
  have H8 := Lib.hid h8
  have H10 := Lib.hid h10
  have H13 := Lib.hid h13
  clear t7 t8 t10 t13 h7 h8 h10 h13
  have hl0 : Hid (([(9 : Int)] : List Int).length + (be 4 (V 11) : List Int).length ≤ 1000) := Lib.hid (by simp [be_length])
  have hR0 : Hid (RB w (w.heap.size + 1) w.heap.size V [9] (.slice (some ⟨w.heap.size + 1, 0, none⟩) 1 1) ((w.alloc (.cells #[.int .i64 9, .int .u64 (V 1), .int .u64 (V 2), .int .u32 (V 3), .int .u32 (V 4), .int .i64 (V 5), .int .i64 (V 6), .bool (decide (V 7 = 1)), .bool (decide (V 8 = 1)), .int .i64 (V 9), .bool (decide (V 10 = 1)), .int .i64 (V 11), .int .i64 (V 12), .bool (decide (V 13 = 1))] 69)).alloc (.cells #[.int .u8 (9)] 5))) := Lib.hid ⟨((Fine.refl w).alloc _).alloc _, by omega, by omega, by simp, ((Blk.new w 69 #[.int .i64 9, .int .u64 (V 1), .int .u64 (V 2), .int .u32 (V 3), .int .u32 (V 4), .int .i64 (V 5), .int .i64 (V 6), .bool (decide (V 7 = 1)), .bool (decide (V 8 = 1)), .int .i64 (V 9), .bool (decide (V 10 = 1)), .int .i64 (V 11), .int .i64 (V 12), .bool (decide (V 13 = 1))]).alloc _).cast (by unfold optL; rw [hk]), OwnB.litAt (w := (w.alloc (.cells #[.int .i64 9, .int .u64 (V 1), .int .u64 (V 2), .int .u32 (V 3), .int .u32 (V 4), .int .i64 (V 5), .int .i64 (V 6), .bool (decide (V 7 = 1)), .bool (decide (V 8 = 1)), .int .i64 (V 9), .bool (decide (V 10 = 1)), .int .i64 (V 11), .int .i64 (V 12), .bool (decide (V 13 = 1))] 69))) [9] (Bytes.one (by omega)) (by simp) (by simp) (by simp)⟩
  go_enter Tryd.func61, Tryd.ntmps61
  unfold optL
  rw [hk]
  go_wp2_with fail
  obtain ⟨x3, hx3⟩ : ∃ x3, w.heap.size + 1 = x3 := ⟨_, rfl⟩
  generalize ((w.alloc (.cells #[.int .i64 9, .int .u64 (V 1), .int .u64 (V 2), .int .u32 (V 3), .int .u32 (V 4), .int .i64 (V 5), .int .i64 (V 6), .bool (decide (V 7 = 1)), .bool (decide (V 8 = 1)), .int .i64 (V 9), .bool (decide (V 10 = 1)), .int .i64 (V 11), .int .i64 (V 12), .bool (decide (V 13 = 1))] 69)).alloc (.cells #[.int .u8 (9)] 5)) = w0 at hR0 ⊢
  rw [hx3] at hR0 ⊢
  obtain ⟨x1, hx1⟩ : ∃ x1, w.heap.size = x1 := ⟨_, rfl⟩
  rw [hx1] at hR0 ⊢
  clear hx3 hx1
  refine (numV (V 11) w0).mono ?_
  rintro x u0 ⟨B0, d0, rfl, b0, f0⟩
  have hQ0 := Lib.hid (hR0.out.fine f0)
  have G0 := Lib.hid b0; clear b0 hR0
  go_wp2_with (at_builtin; refine wpList_appR rfl (.tmp 113) (.tmp 116) rfl x3 x1 V _ _ rfl hQ0 B0 _ d0 _ rfl rfl G0.out hl0 ?_; intro A0 n0 c0 w1 hR1)
  go_ret
  exact RBy.mk hR1.out HE.out
set_option maxHeartbeats 2000000 in
set_option maxRecDepth 100000 in
theorem refBytes_10 (V : Nat → Int) (hV : OkV V) (hk : V 0 = 10) (w : World) : Calls Tryd.prog 61 #[.agg (optL V).toArray] w (RBy V w) := by
  have h1 : 0 ≤ V 1 ∧ V 1 < 18446744073709551616 := hV 1 (by decide)
  have h2 : 0 ≤ V 2 ∧ V 2 < 18446744073709551616 := hV 2 (by decide)
  have h3 : 0 ≤ V 3 ∧ V 3 < 4294967296 := hV 3 (by decide)
  have h4 : 0 ≤ V 4 ∧ V 4 < 4294967296 := hV 4 (by decide)
  have h7 : V 7 = 0 ∨ V 7 = 1 := hV 7 (by decide)
  have h8 : V 8 = 0 ∨ V 8 = 1 := hV 8 (by decide)
  have h10 : V 10 = 0 ∨ V 10 = 1 := hV 10 (by decide)
  have h13 : V 13 = 0 ∨ V 13 = 1 := hV 13 (by decide)
  have m3 : V 3 % 18446744073709551616 = V 3 := by omega
  have m4 : V 4 % 18446744073709551616 = V 4 := by omega
  have t7 : V 7 % 256 = V 7 := by omega
  have t8 : V 8 % 256 = V 8 := by omega
  have t10 : V 10 % 256 = V 10 := by omega
  have t13 : V 13 % 256 = V 13 := by omega
  have HE : Hid (optB V = ([(10 : Int)] ++ be 8 (V 1))) := Lib.hid (by
    unfold optB
    rw [hk]
    simp [fieldsOf, fieldB, be, t7, t8, t10, t13])
  have H7 := Lib.hid h7
  have H8 := Lib.hid h8
  have H10 := Lib.hid h10
  have H13 := Lib.hid h13
  clear t7 t8 t10 t13 h7 h8 h10 h13
  have hl0 : Hid (([(10 : Int)] : List Int).length + (be 8 (V 1) : List Int).length ≤ 1000) := Lib.hid (by simp [be_length])
  have hR0 : Hid (RB w (w.heap.size + 1) w.heap.size V [10] (.slice (some ⟨w.heap.size + 1, 0, none⟩) 1 1) ((w.alloc (.cells #[.int .i64 10, .int .u64 (V 1), .int .u64 (V 2), .int .u32 (V 3), .int .u32 (V 4), .int .i64 (V 5), .int .i64 (V 6), .bool (decide (V 7 = 1)), .bool (decide (V 8 = 1)), .int .i64 (V 9), .bool (decide (V 10 = 1)), .int .i64 (V 11), .int .i64 (V 12), .bool (decide (V 13 = 1))] 69)).alloc (.cells #[.int .u8 (10)] 5))) := Lib.hid ⟨((Fine.refl w).alloc _).alloc _, by omega, by omega, by simp, ((Blk.new w 69 #[.int .i64 10, .int .u64 (V 1), .int .u64 (V 2), .int .u32 (V 3), .int .u32 (V 4), .int .i64 (V 5), .int .i64 (V 6), .bool (decide (V 7 = 1)), .bool (decide (V 8 = 1)), .int .i64 (V 9), .bool (decide (V 10 = 1)), .int .i64 (V 11), .int .i64 (V 12), .bool (decide (V 13 = 1))]).alloc _).cast (by unfold optL; rw [hk]), OwnB.litAt (w := (w.alloc (.cells #[.int .i64 10, .int .u64 (V 1), .int .u64 (V 2), .int .u32 (V 3), .int .u32 (V 4), .int .i64 (V 5), .int .i64 (V 6), .bool (decide (V 7 = 1)), .bool (decide (V 8 = 1)), .int .i64 (V 9), .bool (decide (V 10 = 1)), .int .i64 (V 11), .int .i64 (V 12), .bool (decide (V 13 = 1))] 69))) [10] (Bytes.one (by omega)) (by simp) (by simp) (by simp)⟩
  go_enter Tryd.func61, Tryd.ntmps61
  unfold optL
  rw [hk]
  go_wp2_with fail
  obtain ⟨x3, hx3⟩ : ∃ x3, w.heap.size + 1 = x3 := ⟨_, rfl⟩
  generalize ((w.alloc (.cells #[.int .i64 10, .int .u64 (V 1), .int .u64 (V 2), .int .u32 (V 3), .int .u32 (V 4), .int .i64 (V 5), .int .i64 (V 6), .bool (decide (V 7 = 1)), .bool (decide (V 8 = 1)), .int .i64 (V 9), .bool (decide (V 10 = 1)), .int .i64 (V 11), .int .i64 (V 12), .bool (decide (V 13 = 1))] 69)).alloc (.cells #[.int .u8 (10)] 5)) = w0 at hR0 ⊢
  rw [hx3] at hR0 ⊢
  obtain ⟨x1, hx1⟩ : ∃ x1, w.heap.size = x1 := ⟨_, rfl⟩
  rw [hx1] at hR0 ⊢
  clear hx3 hx1
  refine (bytesV h1 8 (.inr rfl) w0).mono ?_
  rintro x u0 ⟨B0, d0, rfl, b0, f0⟩
  have hQ0 := Lib.hid (hR0.out.fine f0)
  have G0 := Lib.hid b0; clear b0 hR0
  go_wp2_with (at_builtin; refine wpList_appR rfl (.tmp 13) (.tmp 16) rfl x3 x1 V _ _ rfl hQ0 B0 _ d0 _ rfl rfl G0.out hl0 ?_; intro A0 n0 c0 w1 hR1)
  go_ret
  exact RBy.mk hR1.out HE.out
set_option maxHeartbeats 2000000 in
set_option maxRecDepth 100000 in
theorem refBytes_11 (V : Nat → Int) (hV : OkV V) (hk : V 0 = 11) (w : World) : Calls Tryd.prog 61 #[.agg (optL V).toArray] w (RBy V w) := by
  have h1 : 0 ≤ V 1 ∧ V 1 < 18446744073709551616 := hV 1 (by decide)
  have h2 : 0 ≤ V 2 ∧ V 2 < 18446744073709551616 := hV 2 (by decide)
  have h3 : 0 ≤ V 3 ∧ V 3 < 4294967296 := hV 3 (by decide)
  have h4 : 0 ≤ V 4 ∧ V 4 < 4294967296 := hV 4 (by decide)
  have h7 : V 7 = 0 ∨ V 7 = 1 := hV 7 (by decide)
  have h8 : V 8 = 0 ∨ V 8 = 1 := hV 8 (by decide)
  have h10 : V 10 = 0 ∨ V 10 = 1 := hV 10 (by decide)
  have h13 : V 13 = 0 ∨ V 13 = 1 := hV 13 (by decide)
  have m3 : V 3 % 18446744073709551616 = V 3 := by omega
  have m4 : V 4 % 18446744073709551616 = V 4 := by omega
  have t7 : V 7 % 256 = V 7 := by omega
  have t8 : V 8 % 256 = V 8 := by omega
  have t10 : V 10 % 256 = V 10 := by omega
  have t13 : V 13 % 256 = V 13 := by omega
  have HE : Hid (optB V = ([(11 : Int)] ++ [V 6 % 256])) := Lib.hid (by
    unfold optB
    rw [hk]
    simp [fieldsOf, fieldB, be, t7, t8, t10, t13])
  have H7 := Lib.hid h7
  have H8 := Lib.hid h8
  have H10 := Lib.hid h10
  have H13 := Lib.hid h13
  clear t7 t8 t10 t13 h7 h8 h10 h13
  have hl0 : Hid (([(11 : Int)] : List Int).length + ([V 6 % 256] : List Int).length ≤ 1000) := Lib.hid (by simp [be_length])
  have hR0 : Hid (RB w (w.heap.size + 1) w.heap.size V [11] (.slice (some ⟨w.heap.size + 1, 0, none⟩) 1 1) ((w.alloc (.cells #[.int .i64 11, .int .u64 (V 1), .int .u64 (V 2), .int .u32 (V 3), .int .u32 (V 4), .int .i64 (V 5), .int .i64 (V 6), .bool (decide (V 7 = 1)), .bool (decide (V 8 = 1)), .int .i64 (V 9), .bool (decide (V 10 = 1)), .int .i64 (V 11), .int .i64 (V 12), .bool (decide (V 13 = 1))] 69)).alloc (.cells #[.int .u8 (11)] 5))) := Lib.hid ⟨((Fine.refl w).alloc _).alloc _, by omega, by omega, by simp, ((Blk.new w 69 #[.int .i64 11, .int .u64 (V 1), .int .u64 (V 2), .int .u32 (V 3), .int .u32 (V 4), .int .i64 (V 5), .int .i64 (V 6), .bool (decide (V 7 = 1)), .bool (decide (V 8 = 1)), .int .i64 (V 9), .bool (decide (V 10 = 1)), .int .i64 (V 11), .int .i64 (V 12), .bool (decide (V 13 = 1))]).alloc _).cast (by unfold optL; rw [hk]), OwnB.litAt (w := (w.alloc (.cells #[.int .i64 11, .int .u64 (V 1), .int .u64 (V 2), .int .u32 (V 3), .int .u32 (V 4), .int .i64 (V 5), .int .i64 (V 6), .bool (decide (V 7 = 1)), .bool (decide (V 8 = 1)), .int .i64 (V 9), .bool (decide (V 10 = 1)), .int .i64 (V 11), .int .i64 (V 12), .bool (decide (V 13 = 1))] 69))) [11] (Bytes.one (by omega)) (by simp) (by simp) (by simp)⟩
  go_enter Tryd.func61, Tryd.ntmps61
  unfold optL
  rw [hk]
  go_wp2_with (at_builtin; refine wpList_appR rfl (.tmp 120) (.tmp 124) rfl (w.heap.size + 1) w.heap.size V _ _ rfl (Lib.hid (hR0.out.fine ((Fine.refl _).alloc _))) _ _ _ [V 6 % 256] rfl rfl (BS.litAt [V 6 % 256] (Bytes.one (byte_bd _)) (by simp) (by simp)) hl0 ?_; intro A1 n1 c1 w1 hR1)
  go_ret
  exact RBy.mk hR1.out HE.out
set_option maxHeartbeats 2000000 in
set_option maxRecDepth 100000 in
theorem refBytes_out (V : Nat → Int) (hV : OkV V) (hk : V 0 < 1 ∨ 11 < V 0) (w : World) : Calls Tryd.prog 61 #[.agg (optL V).toArray] w (RBy V w) := by
  have h1 : 0 ≤ V 1 ∧ V 1 < 18446744073709551616 := hV 1 (by decide)
  have h2 : 0 ≤ V 2 ∧ V 2 < 18446744073709551616 := hV 2 (by decide)
  have h3 : 0 ≤ V 3 ∧ V 3 < 4294967296 := hV 3 (by decide)
  have h4 : 0 ≤ V 4 ∧ V 4 < 4294967296 := hV 4 (by decide)
  have h7 : V 7 = 0 ∨ V 7 = 1 := hV 7 (by decide)
  have h8 : V 8 = 0 ∨ V 8 = 1 := hV 8 (by decide)
  have h10 : V 10 = 0 ∨ V 10 = 1 := hV 10 (by decide)
  have h13 : V 13 = 0 ∨ V 13 = 1 := hV 13 (by decide)
  have m3 : V 3 % 18446744073709551616 = V 3 := by omega
  have m4 : V 4 % 18446744073709551616 = V 4 := by omega
  have t7 : V 7 % 256 = V 7 := by omega
  have t8 : V 8 % 256 = V 8 := by omega
  have t10 : V 10 % 256 = V 10 := by omega
  have t13 : V 13 % 256 = V 13 := by omega
  have HE : Hid (optB V = [(V 0 % 256 : Int)]) := Lib.hid (by
    unfold optB
    rw [fieldsOf_out hk]
    simp [fieldsOf, fieldB, be, t7, t8, t10, t13])
  have H7 := Lib.hid h7
  have H8 := Lib.hid h8
  have H10 := Lib.hid h10
  have H13 := Lib.hid h13
  clear t7 t8 t10 t13 h7 h8 h10 h13
  have hR0 : Hid (RB w (w.heap.size + 1) w.heap.size V [V 0 % 256] (.slice (some ⟨w.heap.size + 1, 0, none⟩) 1 1) ((w.alloc (.cells #[.int .i64 (V 0), .int .u64 (V 1), .int .u64 (V 2), .int .u32 (V 3), .int .u32 (V 4), .int .i64 (V 5), .int .i64 (V 6), .bool (decide (V 7 = 1)), .bool (decide (V 8 = 1)), .int .i64 (V 9), .bool (decide (V 10 = 1)), .int .i64 (V 11), .int .i64 (V 12), .bool (decide (V 13 = 1))] 69)).alloc (.cells #[.int .u8 (V 0 % 256)] 5))) := Lib.hid ⟨((Fine.refl w).alloc _).alloc _, by omega, by omega, by simp, ((Blk.new w 69 #[.int .i64 (V 0), .int .u64 (V 1), .int .u64 (V 2), .int .u32 (V 3), .int .u32 (V 4), .int .i64 (V 5), .int .i64 (V 6), .bool (decide (V 7 = 1)), .bool (decide (V 8 = 1)), .int .i64 (V 9), .bool (decide (V 10 = 1)), .int .i64 (V 11), .int .i64 (V 12), .bool (decide (V 13 = 1))]).alloc _).cast (rfl), OwnB.litAt (w := (w.alloc (.cells #[.int .i64 (V 0), .int .u64 (V 1), .int .u64 (V 2), .int .u32 (V 3), .int .u32 (V 4), .int .i64 (V 5), .int .i64 (V 6), .bool (decide (V 7 = 1)), .bool (decide (V 8 = 1)), .int .i64 (V 9), .bool (decide (V 10 = 1)), .int .i64 (V 11), .int .i64 (V 12), .bool (decide (V 13 = 1))] 69))) [V 0 % 256] (Bytes.one (byte_bd _)) (by simp) (by simp) (by simp)⟩
  go_enter Tryd.func61, Tryd.ntmps61
  have n1 : (V 0 == 1) = false := by simp; omega
  have n2 : (V 0 == 2) = false := by simp; omega
  have n3 : (V 0 == 3) = false := by simp; omega
  have n4 : (V 0 == 4) = false := by simp; omega
  have n5 : (V 0 == 5) = false := by simp; omega
  have n6 : (V 0 == 6) = false := by simp; omega
  have n7 : (V 0 == 7) = false := by simp; omega
  have n8 : (V 0 == 8) = false := by simp; omega
  have n9 : (V 0 == 9) = false := by simp; omega
  have n10 : (V 0 == 10) = false := by simp; omega
  have n11 : (V 0 == 11) = false := by simp; omega
  go_wp2_with fail
  go_ret
  exact RBy.mk hR0.out HE.out
theorem refBytes_any (V : Nat → Int) (hV : OkV V) (w : World) : Calls Tryd.prog 61 #[.agg (optL V).toArray] w (RBy V w) := by
  by_cases h : V 0 < 1 ∨ 11 < V 0
  · exact refBytes_out V hV h w
  · have hk : V 0 = 1 ∨ V 0 = 2 ∨ V 0 = 3 ∨ V 0 = 4 ∨ V 0 = 5 ∨ V 0 = 6 ∨ V 0 = 7 ∨ V 0 = 8 ∨ V 0 = 9 ∨ V 0 = 10 ∨ V 0 = 11 := by omega
    rcases hk with e | e | e | e | e | e | e | e | e | e | e
    · exact refBytes_1 V hV e w
    · exact refBytes_2 V hV e w
    · exact refBytes_3 V hV e w
    · exact refBytes_4 V hV e w
    · exact refBytes_5 V hV e w
    · exact refBytes_6 V hV e w
    · exact refBytes_7 V hV e w
    · exact refBytes_8 V hV e w
    · exact refBytes_9 V hV e w
    · exact refBytes_10 V hV e w
    · exact refBytes_11 V hV e w
end Go.Proofs.YthnennleblgjeaaDoor
