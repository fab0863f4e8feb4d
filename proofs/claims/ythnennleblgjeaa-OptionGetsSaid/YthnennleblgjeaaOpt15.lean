/- The law OptionCut. (Printed by gencut.py.) -/
import Derived.Test.YthnennleblgjeaaOpt14
import Derived.Test.YthnennleblgjeaaOpt10
namespace Go.Proofs.Ythnennleblgjeaa
open Go.ChangeShapes Go.WideShapes Go.ChangeAt Go.RowKit
set_option linter.unusedVariables false
attribute [local go_sem ↓ high] eq56b
set_option maxHeartbeats 4000000 in
set_option maxRecDepth 100000 in
theorem optionCut_any (V : Nat → Int) (hV : OkV V) (n : Int) (hn : 0 ≤ n ∧ n ≤ 255) (w : World) : Calls Try.prog 16 #[.agg (optL V).toArray, .int .u8 n] w fun r w' => r = .returned (.bool true) ∧ Fine w w' := by
  have rn : IntKind.i64.wrap n = n := by rw [IntKind.wrap_i64]; omega
  have HV := Lib.hid hV; clear hV
  have b1 : Blk (w.alloc (.cells #[.int .i64 (V 0), .int .u64 (V 1), .int .u64 (V 2), .int .u32 (V 3), .int .u32 (V 4), .int .i64 (V 5), .int .i64 (V 6), .bool (decide (V 7 = 1)), .bool (decide (V 8 = 1)), .int .i64 (V 9), .bool (decide (V 10 = 1)), .int .i64 (V 11), .int .i64 (V 12), .bool (decide (V 13 = 1))] 56)) w.heap.size 56 (optL V).toArray := Blk.new w 56 _
  have f1 : Fine w (w.alloc (.cells #[.int .i64 (V 0), .int .u64 (V 1), .int .u64 (V 2), .int .u32 (V 3), .int .u32 (V 4), .int .i64 (V 5), .int .i64 (V 6), .bool (decide (V 7 = 1)), .bool (decide (V 8 = 1)), .int .i64 (V 9), .bool (decide (V 10 = 1)), .int .i64 (V 11), .int .i64 (V 12), .bool (decide (V 13 = 1))] 56)) := (Fine.refl w).alloc _
  go_enter Try.func16, Try.ntmps16
  go_wp2_with fail
  obtain ⟨x1, hx1⟩ : ∃ x1, w.heap.size = x1 := ⟨_, rfl⟩
  generalize (w.alloc (.cells #[.int .i64 (V 0), .int .u64 (V 1), .int .u64 (V 2), .int .u32 (V 3), .int .u32 (V 4), .int .i64 (V 5), .int .i64 (V 6), .bool (decide (V 7 = 1)), .bool (decide (V 8 = 1)), .int .i64 (V 9), .bool (decide (V 10 = 1)), .int .i64 (V 11), .int .i64 (V 12), .bool (decide (V 13 = 1))] 56)) = w1 at b1 f1 ⊢
  rw [hx1] at b1 ⊢
  clear hx1
  refine (optWakes_any w1).mono ?_
  rintro x w2 ⟨rfl, f2⟩
  have B2 := Lib.hid (b1.fine f2)
  have F2 := f1.trans f2
  clear b1 f1 f2
  have c0 : w2.cell? ⟨x1, 0, none⟩ = some (.int .i64 (V 0)) := B2.out.cell 0
  have c1 : w2.cell? ⟨x1, 1, none⟩ = some (.int .u64 (V 1)) := B2.out.cell 1
  have c2 : w2.cell? ⟨x1, 2, none⟩ = some (.int .u64 (V 2)) := B2.out.cell 2
  have c3 : w2.cell? ⟨x1, 3, none⟩ = some (.int .u32 (V 3)) := B2.out.cell 3
  have c4 : w2.cell? ⟨x1, 4, none⟩ = some (.int .u32 (V 4)) := B2.out.cell 4
  have c5 : w2.cell? ⟨x1, 5, none⟩ = some (.int .i64 (V 5)) := B2.out.cell 5
  have c6 : w2.cell? ⟨x1, 6, none⟩ = some (.int .i64 (V 6)) := B2.out.cell 6
  have c7 : w2.cell? ⟨x1, 7, none⟩ = some (.bool (decide (V 7 = 1))) := B2.out.cell 7
  have c8 : w2.cell? ⟨x1, 8, none⟩ = some (.bool (decide (V 8 = 1))) := B2.out.cell 8
  have c9 : w2.cell? ⟨x1, 9, none⟩ = some (.int .i64 (V 9)) := B2.out.cell 9
  have c10 : w2.cell? ⟨x1, 10, none⟩ = some (.bool (decide (V 10 = 1))) := B2.out.cell 10
  have c11 : w2.cell? ⟨x1, 11, none⟩ = some (.int .i64 (V 11)) := B2.out.cell 11
  have c12 : w2.cell? ⟨x1, 12, none⟩ = some (.int .i64 (V 12)) := B2.out.cell 12
  have c13 : w2.cell? ⟨x1, 13, none⟩ = some (.bool (decide (V 13 = 1))) := B2.out.cell 13
  go_wp2_with fail
  clear c0 c1 c2 c3 c4 c5 c6 c7 c8 c9 c10 c11 c12 c13
  have hr : RS layO (w2.alloc (.cells #[.int .i64 (V 0), .int .u64 (V 1), .int .u64 (V 2), .int .u32 (V 3), .int .u32 (V 4), .int .i64 (V 5), .int .i64 (V 6), .bool (decide (V 7 = 1)), .bool (decide (V 8 = 1)), .int .i64 (V 9), .bool (decide (V 10 = 1)), .int .i64 (V 11), .int .i64 (V 12), .bool (decide (V 13 = 1))] 56)) (some ⟨w2.heap.size, 0, none⟩) 1 [V] := RS.ofBlk (Blk.new w2 56 _) rfl rfl (by unfold maxLen; omega)
  refine (optPut_any _ 1 [V] (by simp) (fun U hU => by simp at hU; subst hU; exact HV.out) _ hr).mono ?_
  rintro x w4 ⟨f4, ⟨v, h1, rfl, h2⟩ | ⟨⟨U, h1, h3⟩, rfl⟩⟩
  · have hR := h1 V (by simp)
    have hk := right_kind hR
    have F4 := (F2.alloc (.cells #[.int .i64 (V 0), .int .u64 (V 1), .int .u64 (V 2), .int .u32 (V 3), .int .u32 (V 4), .int .i64 (V 5), .int .i64 (V 6), .bool (decide (V 7 = 1)), .bool (decide (V 8 = 1)), .int .i64 (V 9), .bool (decide (V 10 = 1)), .int .i64 (V 11), .int .i64 (V 12), .bool (decide (V 13 = 1))] 56)).trans f4
    have B4 := Lib.hid (B2.out.fine (((Fine.refl w2).alloc (.cells #[.int .i64 (V 0), .int .u64 (V 1), .int .u64 (V 2), .int .u32 (V 3), .int .u32 (V 4), .int .i64 (V 5), .int .i64 (V 6), .bool (decide (V 7 = 1)), .bool (decide (V 8 = 1)), .int .i64 (V 9), .bool (decide (V 10 = 1)), .int .i64 (V 11), .int .i64 (V 12), .bool (decide (V 13 = 1))] 56)).trans f4))
    rw [List.flatMap_cons, List.flatMap_nil, List.append_nil] at h2
    obtain ⟨A, c, rfl, hb, _⟩ := h2.form
    have hsz := optB_size hk
    have hsw := sizeK_width hk
    have hcut := fun m hm => get_cut (m := m) hR hm
    have R0 := hb.run_front
    have hF := hb.front
    have hbl := optB_len V
    obtain ⟨m, hm⟩ : ∃ m, (optB V).length = m := ⟨_, rfl⟩
    rw [hm] at hsz hcut R0 hF hbl ⊢
    have hm1 : 1 ≤ m := by omega
    obtain ⟨q, hq⟩ : ∃ q : Nat, (q : Int) = n % (m : Int) := ⟨(n % (m : Int)).toNat, Int.toNat_of_nonneg (Int.emod_nonneg _ (by omega))⟩
    have hq1 : q < m := by have := Int.emod_lt_of_pos n (show (0 : Int) < (m : Int) by omega); omega
    have hq2 : n % (m : Int) = (q : Int) := hq.symm
    have hG := Lib.hid (hcut q hq1)
    have R1 := R0 q (by omega)
    have HB := Lib.hid (hF q (by omega))
    have HTL : Hid (q = ((optB V).take q).length) := Lib.hid (by rw [List.length_take, hm]; omega)
    have HTL2 : Hid (((optB V).take q).length ≤ 10000000) := Lib.hid (by rw [List.length_take]; omega)
    have HSZ := Lib.hid (fun w => hsz ▸ size_any (V 0) w)
    have hm0 : ((m : Int) == 0) = false := by simp; omega
    have E : eqB (zeroV 0) 0 (zeroV 1) 0 (zeroV 2) 0 (zeroV 3) 0 (zeroV 4) 0 (zeroV 5) 0 (zeroV 6) 0 (decide (zeroV 7 = 1)) false (decide (zeroV 8 = 1)) false (zeroV 9) 0 (decide (zeroV 10 = 1)) false (zeroV 11) 0 (zeroV 12) 0 (decide (zeroV 13 = 1)) false = true := by simp [eqB, zeroV]
    clear hsz hsw hcut R0 hF hbl hm hq hb h2 h1 hr hR hk
    go_wp2_with fail
    refine (get_n A q c ((optB V).take q) HTL.out HTL2.out w4 HB.out).mono ?_
    rintro x w5 hgo
    obtain ⟨A3, c3, rfl, b3, f5⟩ := hgo.as_ hG.out
    clear hgo b3
    have d0 : ∀ o, (w5.alloc o).cell? ⟨x1, 0, none⟩ = some (.int .i64 (V 0)) := fun o => ((B4.out.fine f5).alloc o).cell 0
    go_wp2_with fail
    refine (HSZ.out _).mono ?_
    rintro x w6 ⟨rfl, f6⟩
    go_wp2_with fail
    go_ret
    exact ⟨rfl, ((F4.trans f5).alloc _).trans f6⟩
  · have h1' : U = V := by simpa using h1
    rw [h1'] at h3
    clear h1 h1'
    have B4 := B2.out.fine (((Fine.refl w2).alloc (.cells #[.int .i64 (V 0), .int .u64 (V 1), .int .u64 (V 2), .int .u32 (V 3), .int .u32 (V 4), .int .i64 (V 5), .int .i64 (V 6), .bool (decide (V 7 = 1)), .bool (decide (V 8 = 1)), .int .i64 (V 9), .bool (decide (V 10 = 1)), .int .i64 (V 11), .int .i64 (V 12), .bool (decide (V 13 = 1))] 56)).trans f4)
    have F4 := (F2.alloc (.cells #[.int .i64 (V 0), .int .u64 (V 1), .int .u64 (V 2), .int .u32 (V 3), .int .u32 (V 4), .int .i64 (V 5), .int .i64 (V 6), .bool (decide (V 7 = 1)), .bool (decide (V 8 = 1)), .int .i64 (V 9), .bool (decide (V 10 = 1)), .int .i64 (V 11), .int .i64 (V 12), .bool (decide (V 13 = 1))] 56)).trans f4
    have d0 : w4.cell? ⟨x1, 0, none⟩ = some (.int .i64 (V 0)) := B4.cell 0
    have d1 : w4.cell? ⟨x1, 1, none⟩ = some (.int .u64 (V 1)) := B4.cell 1
    have d2 : w4.cell? ⟨x1, 2, none⟩ = some (.int .u64 (V 2)) := B4.cell 2
    have d3 : w4.cell? ⟨x1, 3, none⟩ = some (.int .u32 (V 3)) := B4.cell 3
    have d4 : w4.cell? ⟨x1, 4, none⟩ = some (.int .u32 (V 4)) := B4.cell 4
    have d5 : w4.cell? ⟨x1, 5, none⟩ = some (.int .i64 (V 5)) := B4.cell 5
    have d6 : w4.cell? ⟨x1, 6, none⟩ = some (.int .i64 (V 6)) := B4.cell 6
    have d7 : w4.cell? ⟨x1, 7, none⟩ = some (.bool (decide (V 7 = 1))) := B4.cell 7
    have d8 : w4.cell? ⟨x1, 8, none⟩ = some (.bool (decide (V 8 = 1))) := B4.cell 8
    have d9 : w4.cell? ⟨x1, 9, none⟩ = some (.int .i64 (V 9)) := B4.cell 9
    have d10 : w4.cell? ⟨x1, 10, none⟩ = some (.bool (decide (V 10 = 1))) := B4.cell 10
    have d11 : w4.cell? ⟨x1, 11, none⟩ = some (.int .i64 (V 11)) := B4.cell 11
    have d12 : w4.cell? ⟨x1, 12, none⟩ = some (.int .i64 (V 12)) := B4.cell 12
    have d13 : w4.cell? ⟨x1, 13, none⟩ = some (.bool (decide (V 13 = 1))) := B4.cell 13
    have HR := Lib.hid h3
    clear h3 hr B4
    go_wp2_with fail
    refine (right_any V HV.out w4).mono ?_
    rintro x w5 ⟨rfl, f5⟩
    rw [HR.out]
    go_wp2_with fail
    go_ret
    exact ⟨rfl, F4.trans f5⟩
theorem lawOptionKinds (w : World) (k : Int) (wk : (Lit.int .u8 k).wf = true) (a : Option Addr) (len cap : Nat) (zs : List Int) (hz : IntsIn .u8 w a len cap zs) :
    Calls Try.prog 17 #[.int .u8 k, .slice a len cap] w fun r w' => r = .returned (.bool true) ∧ Fine w w' := by
  have hk := bounds_u8 wk
  have hl : zs.length = len := hz.2.2.1
  subst hl
  exact optionKinds_any a cap k zs hk w (BS.of_ints hz)
section
variable {H : Type} {enc : TypeId × Value → H} {w : World}
theorem open_opt {W : World} {r : Reach} {b0 : Nat} {v : Value} {d : DataW H} {p : List MemPlace}
    (hv : Value.okWide Try.prog W r b0 56 v) (h : DataW.Trod enc Try.prog w 0 (fun _ => true) true 56 v d p) :
    ∃ z : Nat → Int, v = .agg (optL z).toArray ∧ OkV z := by
  obtain ⟨cs, rfl, _⟩ := okWide_struct Try.underlying56 hv
  obtain ⟨fuel, hf⟩ := h
  have hf' : DataW.trod enc Try.prog w 0 (fun _ => true) true fuel 56 cs.toList = some (d, p) := hf
  obtain ⟨m, hF, hl⟩ := fielded_of Try.underlying56 hf'
  obtain ⟨e1, e2⟩ := opt_of Try.underlying56 hF (hl.trans (by kernel_rfl))
  exact ⟨valAt cs.toList, by rw [← e1], e2⟩
end
theorem lawOptionCut (w : World) (z : Nat → Int) (hz : OkV z) (n : Int) (wn : (Lit.int .u8 n).wf = true) :
    Calls Try.prog 16 #[.agg (optL z).toArray, .int .u8 n] w fun r w' => r = .returned (.bool true) ∧ Fine w w' :=
  optionCut_any z hz n (bounds_u8 wn) w
end Go.Proofs.Ythnennleblgjeaa
