/- Contracts: slices.Clone, Runs, Many; cuts; slices.Insert. -/
import Derived.Test.YtnigfdldfmiaiaaSpan2
import Derived.Lib.SliceRun
import Derived.Lib.Overlaps
import Derived.Laws.Externs
namespace Go.Proofs.Ytnigfdldfmiaiaa
open Go.ChangeShapes Go.WideShapes Go.ChangeAt Go.RowKit
set_option linter.unusedVariables false
set_option linter.unusedSimpArgs false
set_option maxHeartbeats 2000000 in
set_option maxRecDepth 20000 in
theorem clone_any (A : Option Addr) (n c : Nat) (l : List Rn) (hn : n = l.length) (hl : l.length ≤ 8589934592) (w : World) (h : RS layR w A c l) :
    Calls Try.prog 75 #[.slice A n c] w fun r w' => ∃ v, r = .returned v ∧ Own layR 32 w' w.heap.size v l ∧ Fine w w' := by
  subst hn
  cases A with
  | none =>
    have hc := h.2.2.1 rfl
    have hl0 : l = [] := List.eq_nil_of_length_eq_zero (by have := h.1; omega)
    subst hl0
    clear h
    subst hc
    have hq : ∀ w, (binOp .eql 29 (.slice none 0 0) (.slice none 0 0)).run Try.prog w = .ok (.bool true) w := fun w => Lib.run_eql_slice_nil w 29 32 none 0 0 0 0 Try.underlying29
    go_enter Try.func75, Try.ntmps75
    go_wp2_with fail
    go_ret
    exact ⟨_, rfl, Own.nil_ _ _ _ _, Fine.refl w⟩
  | some ad =>
    have hO : Hid (Own layR 32 (w.alloc (.cells #[] 32)) w.heap.size (.slice (some ⟨w.heap.size, 0, none⟩) 0 0) []) := Lib.hid (Own.lit (xs := []) w #[] rfl (Nat.le_refl _) (by simp))
    have f1 : Fine w (w.alloc (.cells #[] 32)) := (Fine.refl w).alloc _
    have H := Lib.hid (h.fine f1)
    have HL := Lib.hid hl
    have HF := Lib.hid f1
    have hsz : Hid (w.heap.size ≤ (w.alloc (.cells #[] 32)).heap.size) := Lib.hid f1.size
    clear h hl f1
    obtain ⟨n, hn⟩ : ∃ n, l.length = n := ⟨_, rfl⟩
    have HN := Lib.hid hn
    rw [hn]
    clear hn
    have hq : ∀ w, (binOp .eql 29 (.slice (some ad) n c) (.slice none 0 0)).run Try.prog w = .ok (.bool false) w := fun w => Lib.run_eql_slice_nil w 29 32 (some ad) n c 0 0 Try.underlying29
    go_enter Try.func75, Try.ntmps75
    go_wp2_with (at_builtin; refine wpList_appE rfl sliceR (.tmp 5) (.tmp 6) rfl w.heap.size _ [] rfl hO.out (some ad) n c l rfl HN.out.symm H.out (by simp; have := HL.out; omega) (by simp; unfold maxLen; have := HL.out; omega) hsz.out ?_; intro A' c' w2 ho kk hgr)
    have h : Own layR 32 w2 w.heap.size (.slice A' l.length c') l := by simpa using ho.out
    go_ret
    exact ⟨_, rfl, h, HF.out.kept kk (fun x hx e => by omega)⟩
theorem Tidy.take {l : List Rn} (h : Tidy l) (k : Nat) : Tidy (l.take k) := ⟨h.rise.sublist (List.take_sublist k l), fun r hr => h.ok r (List.mem_of_mem_take hr)⟩
set_option maxHeartbeats 2000000 in
set_option maxRecDepth 20000 in
theorem runs_any (g : Nat) (l : List Rn) (hl : l.length ≤ 8589934592) (w : World) (h : SetR w g l) :
    Calls Try.prog 21 #[.pointer (some ⟨g, 0, none⟩)] w fun r w' => ∃ v, r = .returned v ∧ Own layR 32 w' w.heap.size v l ∧ Fine w w' := by
  obtain ⟨A, c, h1, h2⟩ := h
  have c0 : w.cell? ⟨g, 0, none⟩ = some (.slice A l.length c) := h1.cell 0
  have H2 := Lib.hid h2
  obtain ⟨n, hn⟩ : ∃ n, l.length = n := ⟨_, rfl⟩
  rw [hn] at c0
  have HN := Lib.hid hn; have HL := Lib.hid hl
  clear h1 h2 hn hl
  go_enter Try.func21, Try.ntmps21
  go_wp2_with fail
  refine (clone_any A n c l HN.out.symm HL.out w H2.out).mono ?_
  rintro x w2 ⟨v, rfl, o, f⟩
  go_wp2_with fail
  go_ret
  exact ⟨v, rfl, o, f⟩
theorem runs_nil (w : World) : Calls Try.prog 21 #[.pointer none] w fun r w' => r = .returned (.slice none 0 0) ∧ Fine w w' := by
  go_enter Try.func21, Try.ntmps21
  go_wp2_with fail
  go_ret
  exact ⟨rfl, Fine.refl w⟩
set_option maxHeartbeats 2000000 in
set_option maxRecDepth 20000 in
theorem many_any (g : Nat) (l : List Rn) (hT : Tidy l) (w : World) (h : SetR w g l) :
    Calls Try.prog 29 #[.pointer (some ⟨g, 0, none⟩)] w fun r w' => r = .returned (.int .i64 (total l)) ∧ Fine w w' := by
  have HT := Lib.hid hT
  have hll := hT.length_le
  have HR := Lib.hid (runs_any g l (by omega) w h)
  have HLL := Lib.hid hll
  clear h hT hll
  go_enter Try.func29, Try.ntmps29
  go_wp2_with fail
  refine HR.out.mono ?_
  rintro x w1 ⟨v, rfl, o, f1⟩
  obtain ⟨A, c, rfl, hrs, _⟩ := o.form
  obtain ⟨n, hn⟩ : ∃ n, l.length = n := ⟨_, rfl⟩
  rw [hn]
  have HN := Lib.hid hn; have HS := Lib.hid hrs; have HF1 := Lib.hid f1
  have hnl : n ≤ 4294967296 := by have := HLL.out; omega
  clear o hrs hn f1 HR
  go_wp2_with fail
  go_loopw [3, 9] (fun s3 s9 wr => ∃ (i : Nat) (t : Int), i ≤ n ∧ s9 = .int .i64 i ∧ s3 = .int .i64 t ∧ (0 ≤ t ∧ t ≤ 4294967296) ∧ Hid (t = total (l.take i) ∧ Fine w1 wr)) (fun _ s9 _ => n - (intOf s9).toNat)
  case atStart => exact ⟨0, 0, Nat.zero_le _, rfl, rfl, by omega, Lib.hid ⟨rfl, Fine.refl w1⟩⟩
  case round =>
    obtain ⟨i, t, hi, rfl, rfl, htb, HI⟩ := hrel
    by_cases hlt : i < n
    · obtain ⟨r, hr0⟩ : ∃ r, l[i]? = some r := ⟨_, List.getElem?_eq_getElem (by have := HN.out; omega)⟩
      have hsm := HT.out.ok r (List.mem_of_getElem? hr0)
      obtain ⟨bb, o, rfl, hb, hc⟩ := (HS.out.fine HI.out.2).at_ hr0
      have d0 := hc 0 (.int .i64 r.1) rfl
      have d1 := hc 1 (.int .i64 r.2) rfl
      simp only [← Nat.add_assoc, Nat.add_zero] at d0 d1
      obtain ⟨r1, hr1⟩ : ∃ x, r.1 = x := ⟨_, rfl⟩
      obtain ⟨r2, hr2⟩ : ∃ x, r.2 = x := ⟨_, rfl⟩
      have hnx : total (l.take (i + 1)) = total (l.take i) + r2 := by
        rw [List.take_add_one, hr0, ← hr2]
        simp [total]
      have hb2 := total_le (HT.out.take (i + 1))
      have hb3 := total_nonneg (HT.out.take (i + 1))
      rw [hnx, ← HI.out.1] at hb2 hb3
      have hr2b : 1 ≤ r2 ∧ r2 ≤ 4294967296 := by unfold rto at hsm; omega
      rw [hr1] at d0
      rw [hr2] at d1
      have HNX : Hid (t + r2 = total (l.take (i + 1))) := Lib.hid (by rw [hnx, HI.out.1])
      have HB : Hid (0 ≤ t + r2 ∧ t + r2 ≤ 4294967296) := Lib.hid ⟨hb3, hb2⟩
      clear hsm hc hr0 hr1 hr2 hnx hb2 hb3
      go_wp2_with fail
      exact ⟨⟨i + 1, t + r2, hlt, by simp, rfl, HB.out, Lib.hid ⟨HNX.out, HI.out.2.trans ((Fine.refl wr).alloc _)⟩⟩, by simp only [intOf]; omega⟩
    · have hie : i = n := by omega
      subst hie
      go_wp2_with fail
      go_ret
      exact ⟨by rw [HI.out.1, ← HN.out, List.take_length]; rfl, HF1.out.trans HI.out.2⟩
end Go.Proofs.Ytnigfdldfmiaiaa
