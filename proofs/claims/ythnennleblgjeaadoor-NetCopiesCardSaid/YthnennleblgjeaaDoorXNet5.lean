/- NetFull. -/
import Derived.Test.YthnennleblgjeaaDoorXNet4
namespace Go.Proofs.YthnennleblgjeaaDoor
set_option linter.unusedVariables false
set_option linter.unusedSimpArgs false
open Go.ChangeShapes Go.WideShapes Go.ChangeAt Go.RowKit
set_option linter.unusedVariables false
set_option linter.unusedSimpArgs false
theorem and_one (n : Nat) (h : n < 1000) : bits .and .i64 (n : Int) 1 = ((n % 2 : Nat) : Int) := by
  have e : ∀ n : Fin 1000, bits .and .i64 ((n.val : Nat) : Int) 1 = ((n.val % 2 : Nat) : Int) := by decide +kernel
  exact e ⟨n, h⟩
/-- One segment that has but a number is sent. -/
theorem sendZ_any (w0 : World) (hT : TabW w0) (g b : Nat) (ps : List Pk) (sd : Int) (hsd : 0 ≤ sd ∧ sd ≤ 1) (q : Int) (hq : 0 ≤ q ∧ q < 4294967296) (hl : ps.length ≤ 64) (w : World) (hf : Fine w0 w) (hN : NetO w w0.heap.size g ps) (cs : Array Value) (hB : Blk w b 26 cs) (hcs : cs.toList = (sz q).cells) :
    Calls Tryd.prog 26 #[.pointer (some ⟨g, 0, none⟩), .int .i64 sd, .slice (some ⟨b, 0, none⟩) 1 1] w fun r w' => ∃ ps' k, r = .returned (.int .i64 ((k : Nat) : Int)) ∧ NetO w' w0.heap.size g ps' ∧ Fine w0 w' ∧ ps'.length = ps.length + k ∧ (if ps.length = 64 then k = 0 ∧ pv ps' = pv ps else k = 1 ∧ pv ps' = pv ps ++ [(sd, sgB (sz q))]) := by
  refine (send_any w0 hT g b 0 1 ps sd hsd 1 [sz q] rfl (by decide) hl (fun s hs => by obtain rfl : s = sz q := (by simpa using hs); exact sz_at hq w0) w hf hN ⟨_, hB⟩ (RS.ofBlk hB (by rw [layS.flat_one]; exact hcs) rfl (by unfold maxLen; omega))).mono ?_
  rintro r w' ⟨ps', k, rfl, h1, h2, h3, h4, h5⟩
  refine ⟨ps', k, rfl, h1, h2, h3, ?_⟩
  have e1 : (pv ps).length = ps.length := by simp [pv]
  have e2 : (pv ps').length = ps'.length := by simp [pv]
  have h6 : pv ps' = send1 (pv ps) sd (sz q) := h5
  unfold send1 at h6
  rw [sz_right, e1] at h6
  by_cases h : ps.length = 64
  · rw [if_pos h]
    simp [h] at h6
    refine ⟨?_, h6⟩
    have := congrArg List.length h6
    rw [e1, e2] at this
    omega
  · rw [if_neg h]
    simp [h] at h6
    refine ⟨?_, h6⟩
    have := congrArg List.length h6
    rw [List.length_append, e1, e2] at this
    simp at this
    omega
set_option maxHeartbeats 4000000 in
set_option maxRecDepth 100000 in
theorem netFull_any (M : Nat) (hM : M ≤ 255) (w : World) (hT : TabW w) : Calls Tryd.prog 7 #[.int .u8 (M : Int)] w fun r w' => r = .returned (.bool true) ∧ Fine w w' := by
  have HT := Lib.hid hT; clear hT
  go_enter Tryd.func7, Tryd.ntmps7
  go_wp2_with fail
  refine (nwakes_any w HT.out).mono ?_
  rintro x w0 ⟨rfl, f0⟩
  have HF0 := Lib.hid f0
  have HT0 := Lib.hid (HT.out.fine f0); clear f0
  go_wp2_with fail
  refine (new_any w0).mono ?_
  rintro x w1 ⟨g, rfl, hN, f1⟩
  have HI : Hid (∃ ps, NetO w1 w0.heap.size g ps ∧ Fine w0 w1 ∧ ps.length = 0 ∧ 0 = min 0 64) := Lib.hid ⟨[], hN, f1, rfl, rfl⟩
  clear hN f1
  go_wp2_with fail
  go_loopw [4, 11] (fun s4 s11 wr => ∃ i k : Nat, i ≤ M ∧ s11 = .int .i64 i ∧ s4 = .int .i64 k ∧ Hid (∃ ps, NetO wr w0.heap.size g ps ∧ Fine w0 wr ∧ ps.length = k ∧ k = min i 64)) (fun _ s11 _ => M - (intOf s11).toNat)
  case atStart => exact ⟨0, 0, Nat.zero_le _, rfl, rfl, HI⟩
  case round =>
    obtain ⟨i, k, hi, rfl, rfl, HR⟩ := hrel
    by_cases hlt : i < M
    · obtain ⟨ps, hN, hf, hl, hk⟩ := HR.out
      have HN := Lib.hid hN; have HF := Lib.hid hf; have HL := Lib.hid hl; have HK := Lib.hid hk
      have hk64 : k ≤ 64 := by omega
      clear hN hf hl hk HR
      have ha := and_one i (by omega)
      obtain ⟨r, hr⟩ : ∃ r : Nat, i % 2 = r := ⟨_, rfl⟩
      rw [hr] at ha
      have hr1 : (0 : Int) ≤ (r : Int) ∧ (r : Int) ≤ 1 := by omega
      have HR1 := Lib.hid hr1
      clear hr hr1
      go_wp2_with fail
      have f8 : Fine wr (wr.alloc (.cells #[.int .i64 0, .int .i64 0, .int .i64 0, .int .i64 0, .int .u32 i, .int .u32 0, .bool false, .bool false, .bool false, .bool false, .int .i64 0, .slice none 0 0, .slice none 0 0] 26)) := (Fine.refl wr).alloc _
      have b8 : Blk (wr.alloc (.cells #[.int .i64 0, .int .i64 0, .int .i64 0, .int .i64 0, .int .u32 i, .int .u32 0, .bool false, .bool false, .bool false, .bool false, .int .i64 0, .slice none 0 0, .slice none 0 0] 26)) wr.heap.size 26 #[.int .i64 0, .int .i64 0, .int .i64 0, .int .i64 0, .int .u32 i, .int .u32 0, .bool false, .bool false, .bool false, .bool false, .int .i64 0, .slice none 0 0, .slice none 0 0] := Blk.new wr 26 _
      refine (sendZ_any w0 HT0.out g _ ps r HR1.out (i : Int) (by omega) (by have := HL.out; omega) _ (HF.out.trans f8) (HN.out.fine f8) #[.int .i64 0, .int .i64 0, .int .i64 0, .int .i64 0, .int .u32 i, .int .u32 0, .bool false, .bool false, .bool false, .bool false, .int .i64 0, .slice none 0 0, .slice none 0 0] b8 rfl).mono ?_
      rintro x w2 ⟨ps', k2, rfl, hN2, hf2, hl2, hif⟩
      have HN2 : Hid (∃ ps, NetO w2 w0.heap.size g ps ∧ Fine w0 w2 ∧ ps.length = k + k2 ∧ k + k2 = min (i + 1) 64) := Lib.hid ⟨ps', hN2, hf2, by have := HL.out; omega, by
        have := HL.out
        have := HK.out
        split at hif <;> omega⟩
      have hk2 : k2 ≤ 1 := by split at hif <;> omega
      clear hN2 hf2 hl2 hif f8 b8
      go_wp2_with fail
      exact ⟨⟨i + 1, k + k2, hlt, by simp, by simp, HN2⟩, by simp only [intOf]; omega⟩
    · have hie : i = M := by omega
      subst hie
      obtain ⟨ps, hN, hf, hl, hk⟩ := HR.out
      have HN := Lib.hid hN; have HF := Lib.hid hf; have HL := Lib.hid hl; have HK := Lib.hid hk
      have hlen := fun w' (f : Fine wr w') => len_any w0.heap.size g ps w' (hN.fine f).r
      rw [hl] at hlen
      have HLEN := Lib.hid hlen
      clear hN hf hl hk hlen
      clear HR
      have hcase : i < 64 ∨ i = 64 ∨ 64 < i := by omega
      rcases hcase with h64 | h64 | h64
      · have hki : k = i := by have := HK.out; omega
        have h65 : (i : Int) < 64 := by omega
        clear h64
        subst hki
        go_wp2_with fail
        refine (HLEN.out wr (Fine.refl wr)).mono ?_
        rintro x w2 ⟨rfl, f2⟩
        have f3 := HF0.out.trans (HF.out.trans f2)
        clear f2
        go_wp2_with fail
        go_ret
        exact ⟨rfl, f3⟩
      · have hki : k = 64 := by have := HK.out; omega
        subst h64
        subst hki
        go_wp2_with fail
        refine (HLEN.out wr (Fine.refl wr)).mono ?_
        rintro x w2 ⟨rfl, f2⟩
        have f3 := HF0.out.trans (HF.out.trans f2)
        clear f2
        go_wp2_with fail
        go_ret
        exact ⟨rfl, f3⟩
      · have hki : k = 64 := by have := HK.out; omega
        have h65 : (64 : Int) < (i : Int) := by omega
        have h66 : ¬ (i : Int) ≤ 64 := by omega
        clear h64
        subst hki
        go_wp2_with fail
        refine (HLEN.out wr (Fine.refl wr)).mono ?_
        rintro x w2 ⟨rfl, f2⟩
        have f3 := HF0.out.trans (HF.out.trans f2)
        clear f2
        go_wp2_with fail
        go_ret
        exact ⟨rfl, f3⟩
end Go.Proofs.YthnennleblgjeaaDoor
