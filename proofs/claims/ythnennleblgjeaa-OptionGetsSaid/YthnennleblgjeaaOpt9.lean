/- The laws of option: of any options the first one of a kind is found. -/
import Derived.Test.YthnennleblgjeaaOpt8
namespace Go.Proofs.Ythnennleblgjeaa
open Go.ChangeShapes Go.WideShapes Go.ChangeAt Go.RowKit
set_option linter.unusedVariables false
attribute [local go_sem ↓ high] eq56b
set_option maxHeartbeats 4000000 in
set_option maxRecDepth 100000 in
theorem optionFinds_any (A : Option Addr) (c : Nat) (l : List (Nat → Int)) (k : Int) (w : World) (h : RS layO w A c l) :
    Calls Try.prog 13 #[.slice A l.length c, .int .i64 k] w fun r w' => r = .returned (.bool true) ∧ Fine w w' := by
  have H := Lib.hid h; clear h
  by_cases h1 : 100 < l.length
  · go_enter Try.func13, Try.ntmps13
    go_wp2_with fail
    refine (optWakes_any _).mono ?_; rintro x w1 ⟨rfl, f1⟩
    go_wp2_with fail
    go_ret
    exact ⟨rfl, f1⟩
  go_enter Try.func13, Try.ntmps13
  go_wp2_with fail
  refine (optWakes_any _).mono ?_; rintro x w1 ⟨rfl, f1⟩
  go_wp2_with fail
  refine (find_any A c l (by omega) k w1 (H.out.fine f1)).mono ?_
  rintro x w2 ⟨rfl, f2⟩
  obtain ⟨U, hU⟩ : ∃ U, foundV k l = U := ⟨_, rfl⟩
  obtain ⟨t, ht⟩ : ∃ t, (firstOf k l).isSome = t := ⟨_, rfl⟩
  rw [hU, ht]
  have HU := Lib.hid hU; clear hU
  have HT := Lib.hid ht; clear ht
  have f12 := f1.trans f2
  clear f1 f2
  go_wp2_with fail
  have b5 : Blk (w2.alloc (.cells #[.int .i64 (U 0), .int .u64 (U 1), .int .u64 (U 2), .int .u32 (U 3), .int .u32 (U 4), .int .i64 (U 5), .int .i64 (U 6), .bool (decide (U 7 = 1)), .bool (decide (U 8 = 1)), .int .i64 (U 9), .bool (decide (U 10 = 1)), .int .i64 (U 11), .int .i64 (U 12), .bool (decide (U 13 = 1))] 56)) w2.heap.size 56 (optL U).toArray := Blk.new w2 56 _
  have f5 : Fine w (w2.alloc (.cells #[.int .i64 (U 0), .int .u64 (U 1), .int .u64 (U 2), .int .u32 (U 3), .int .u32 (U 4), .int .i64 (U 5), .int .i64 (U 6), .bool (decide (U 7 = 1)), .bool (decide (U 8 = 1)), .int .i64 (U 9), .bool (decide (U 10 = 1)), .int .i64 (U 11), .int .i64 (U 12), .bool (decide (U 13 = 1))] 56)) := f12.alloc _
  obtain ⟨x5, hx5⟩ : ∃ x5, w2.heap.size = x5 := ⟨_, rfl⟩
  generalize (w2.alloc (.cells #[.int .i64 (U 0), .int .u64 (U 1), .int .u64 (U 2), .int .u32 (U 3), .int .u32 (U 4), .int .i64 (U 5), .int .i64 (U 6), .bool (decide (U 7 = 1)), .bool (decide (U 8 = 1)), .int .i64 (U 9), .bool (decide (U 10 = 1)), .int .i64 (U 11), .int .i64 (U 12), .bool (decide (U 13 = 1))] 56)) = w5 at b5 f5 ⊢
  rw [hx5] at b5 ⊢
  clear hx5 f12
  have B5 := Lib.hid b5; clear b5
  go_loopw [22] (fun s22 wr => ∃ i : Nat, i ≤ l.length ∧ s22 = .int .i64 i ∧ Hid (Fine w wr ∧ Blk wr x5 56 (optL U).toArray ∧ ∀ V ∈ l.take i, V 0 ≠ k)) (fun s22 _ => l.length - (intOf s22).toNat)
  case atStart => exact ⟨0, Nat.zero_le _, rfl, Lib.hid ⟨f5, B5.out, fun V hV => by simp at hV⟩⟩
  case round =>
    obtain ⟨i, hi, rfl, hR⟩ := hrel
    by_cases hlt : i < l.length
    · obtain ⟨V, hV0⟩ : ∃ V, l[i]? = some V := ⟨l[i], List.getElem?_eq_getElem hlt⟩
      obtain ⟨b, o, rfl, hb, hc⟩ := (H.out.fine hR.out.1).at_ hV0
      have c0 := hc 0 (.int .i64 (V 0)) rfl
      have c1 := hc 1 (.int .u64 (V 1)) rfl
      have c2 := hc 2 (.int .u64 (V 2)) rfl
      have c3 := hc 3 (.int .u32 (V 3)) rfl
      have c4 := hc 4 (.int .u32 (V 4)) rfl
      have c5 := hc 5 (.int .i64 (V 5)) rfl
      have c6 := hc 6 (.int .i64 (V 6)) rfl
      have c7 := hc 7 (.bool (decide (V 7 = 1))) rfl
      have c8 := hc 8 (.bool (decide (V 8 = 1))) rfl
      have c9 := hc 9 (.int .i64 (V 9)) rfl
      have c10 := hc 10 (.bool (decide (V 10 = 1))) rfl
      have c11 := hc 11 (.int .i64 (V 11)) rfl
      have c12 := hc 12 (.int .i64 (V 12)) rfl
      have c13 := hc 13 (.bool (decide (V 13 = 1))) rfl
      have HV0 := Lib.hid hV0
      clear hc hV0
      simp only [← Nat.add_assoc, Nat.add_zero] at c0 c1 c2 c3 c4 c5 c6 c7 c8 c9 c10 c11 c12 c13
      by_cases e : V 0 = k
      · have hfo := firstOf_some HV0.out e hR.out.2.2
        have hUV : U = V := by rw [← HU.out]; unfold foundV; rw [hfo]; simp [List.getD, HV0.out]
        have htt : t = true := by rw [← HT.out, hfo]; rfl
        clear HU HT hfo B5
        subst hUV htt
        have b5 := hR.out.2.1
        have d0 : ∀ o, (wr.alloc o).cell? ⟨x5, 0, none⟩ = some (.int .i64 (U 0)) := fun o => (b5.alloc o).cell 0
        have d1 : ∀ o, (wr.alloc o).cell? ⟨x5, 1, none⟩ = some (.int .u64 (U 1)) := fun o => (b5.alloc o).cell 1
        have d2 : ∀ o, (wr.alloc o).cell? ⟨x5, 2, none⟩ = some (.int .u64 (U 2)) := fun o => (b5.alloc o).cell 2
        have d3 : ∀ o, (wr.alloc o).cell? ⟨x5, 3, none⟩ = some (.int .u32 (U 3)) := fun o => (b5.alloc o).cell 3
        have d4 : ∀ o, (wr.alloc o).cell? ⟨x5, 4, none⟩ = some (.int .u32 (U 4)) := fun o => (b5.alloc o).cell 4
        have d5 : ∀ o, (wr.alloc o).cell? ⟨x5, 5, none⟩ = some (.int .i64 (U 5)) := fun o => (b5.alloc o).cell 5
        have d6 : ∀ o, (wr.alloc o).cell? ⟨x5, 6, none⟩ = some (.int .i64 (U 6)) := fun o => (b5.alloc o).cell 6
        have d7 : ∀ o, (wr.alloc o).cell? ⟨x5, 7, none⟩ = some (.bool (decide (U 7 = 1))) := fun o => (b5.alloc o).cell 7
        have d8 : ∀ o, (wr.alloc o).cell? ⟨x5, 8, none⟩ = some (.bool (decide (U 8 = 1))) := fun o => (b5.alloc o).cell 8
        have d9 : ∀ o, (wr.alloc o).cell? ⟨x5, 9, none⟩ = some (.int .i64 (U 9)) := fun o => (b5.alloc o).cell 9
        have d10 : ∀ o, (wr.alloc o).cell? ⟨x5, 10, none⟩ = some (.bool (decide (U 10 = 1))) := fun o => (b5.alloc o).cell 10
        have d11 : ∀ o, (wr.alloc o).cell? ⟨x5, 11, none⟩ = some (.int .i64 (U 11)) := fun o => (b5.alloc o).cell 11
        have d12 : ∀ o, (wr.alloc o).cell? ⟨x5, 12, none⟩ = some (.int .i64 (U 12)) := fun o => (b5.alloc o).cell 12
        have d13 : ∀ o, (wr.alloc o).cell? ⟨x5, 13, none⟩ = some (.bool (decide (U 13 = 1))) := fun o => (b5.alloc o).cell 13
        have E : eqB (U 0) (U 0) (U 1) (U 1) (U 2) (U 2) (U 3) (U 3) (U 4) (U 4) (U 5) (U 5) (U 6) (U 6) (decide (U 7 = 1)) (decide (U 7 = 1)) (decide (U 8 = 1)) (decide (U 8 = 1)) (U 9) (U 9) (decide (U 10 = 1)) (decide (U 10 = 1)) (U 11) (U 11) (U 12) (U 12) (decide (U 13 = 1)) (decide (U 13 = 1)) = true := by simp [eqB]
        have e' : (U 0 == k) = true := by simp [e]
        have E2 := Lib.hid e; clear e
        have fw := hR.out.1
        clear b5
        go_wp2_with fail
        go_ret
        exact ⟨by simp, fw.alloc _⟩
      · have HN : Hid (∀ U ∈ l.take (i + 1), U 0 ≠ k) := Lib.hid (fun W hW => by
          rw [List.take_add_one, HV0.out] at hW
          rcases List.mem_append.1 hW with hW | hW
          · exact hR.out.2.2 W hW
          · simp at hW; subst hW; exact e)
        have e' : (V 0 == k) = false := by simp [e]
        have E2 := Lib.hid e; clear e
        have HR := Lib.hid hR.out; clear hR
        go_wp2_with fail
        exact ⟨⟨i + 1, hlt, by simp, Lib.hid ⟨HR.out.1.alloc _, HR.out.2.1.alloc _, HN.out⟩⟩, by simp only [intOf]; omega⟩
    · have hie : i = l.length := by omega
      subst hie
      have hfo := firstOf_none (fun V hV => hR.out.2.2 V (by rw [List.take_length]; exact hV))
      have hUV : U = zeroV := by rw [← HU.out]; unfold foundV; rw [hfo]
      have htt : t = false := by rw [← HT.out, hfo]; rfl
      clear HU HT hfo B5
      subst hUV htt
      have b5 := hR.out.2.1
      have d0 : wr.cell? ⟨x5, 0, none⟩ = some (.int .i64 0) := b5.cell 0
      have d1 : wr.cell? ⟨x5, 1, none⟩ = some (.int .u64 0) := b5.cell 1
      have d2 : wr.cell? ⟨x5, 2, none⟩ = some (.int .u64 0) := b5.cell 2
      have d3 : wr.cell? ⟨x5, 3, none⟩ = some (.int .u32 0) := b5.cell 3
      have d4 : wr.cell? ⟨x5, 4, none⟩ = some (.int .u32 0) := b5.cell 4
      have d5 : wr.cell? ⟨x5, 5, none⟩ = some (.int .i64 0) := b5.cell 5
      have d6 : wr.cell? ⟨x5, 6, none⟩ = some (.int .i64 0) := b5.cell 6
      have d7 : wr.cell? ⟨x5, 7, none⟩ = some (.bool false) := b5.cell 7
      have d8 : wr.cell? ⟨x5, 8, none⟩ = some (.bool false) := b5.cell 8
      have d9 : wr.cell? ⟨x5, 9, none⟩ = some (.int .i64 0) := b5.cell 9
      have d10 : wr.cell? ⟨x5, 10, none⟩ = some (.bool false) := b5.cell 10
      have d11 : wr.cell? ⟨x5, 11, none⟩ = some (.int .i64 0) := b5.cell 11
      have d12 : wr.cell? ⟨x5, 12, none⟩ = some (.int .i64 0) := b5.cell 12
      have d13 : wr.cell? ⟨x5, 13, none⟩ = some (.bool false) := b5.cell 13
      have E : eqB 0 0 0 0 0 0 0 0 0 0 0 0 0 0 false false false false 0 0 false false 0 0 0 0 false false = true := by simp [eqB]
      have fw := hR.out.1
      clear b5
      go_wp2_with fail
      go_ret
      exact ⟨by simp, fw⟩
end Go.Proofs.Ythnennleblgjeaa
