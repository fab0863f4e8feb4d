/- Contracts: Drop's test; slices.IndexFunc. -/
import Derived.Test.YtnigfdldfmiaiaaSpan13
namespace Go.Proofs.Ytnigfdldfmiaiaa
open Go.ChangeShapes Go.WideShapes Go.ChangeAt Go.RowKit
set_option linter.unusedVariables false
set_option linter.unusedSimpArgs false
set_option maxHeartbeats 2000000 in
set_option maxRecDepth 20000 in
theorem dropT_any (r1 r2 s b : Int) (hs : r1 + r2 = s) (hsb : -9223372036854775808 ≤ s ∧ s ≤ 9223372036854775807) (xb : Nat) (w : World) (hb : Blk w xb 3 #[.int .i64 b]) :
    Calls Try.prog 77 #[.agg #[.int .i64 r1, .int .i64 r2], .pointer (some ⟨xb, 0, none⟩)] w fun e w' => e = .returned (.bool (decide (s ≤ b))) ∧ Fine w w' := by
  obtain ⟨xr, hxr⟩ : ∃ x, w.heap.size = x := ⟨_, rfl⟩
  have hw1 := (Fine.refl w).alloc (.cells #[.int .i64 r1, .int .i64 r2] 32)
  have hb1 := hb.alloc (.cells #[.int .i64 r1, .int .i64 r2] 32)
  have hr1 := Blk.newAt (w := w) (t := 32) (cs := #[.int .i64 r1, .int .i64 r2]) hxr.symm
  go_enter Try.func77, Try.ntmps77
  go_upto_region 1 with fail
  generalize w.alloc (.cells #[.int .i64 r1, .int .i64 r2] 32) = w1 at hw1 hb1 hr1 ⊢
  have q0 : ∀ p : FineBy w1, p.W.cell? ⟨xb, 0, none⟩ = some (.int .i64 b) := fun p => (hb1.fine p.h).cell1
  have q1 : ∀ p : FineBy w1, p.W.cell? ⟨xr, 0, none⟩ = some (.int .i64 r1) := fun p => (hr1.fine p.h).cell 0
  have q2 : ∀ p : FineBy w1, p.W.cell? ⟨xr, 1, none⟩ = some (.int .i64 r2) := fun p => (hr1.fine p.h).cell 1
  have HW := Lib.hid hw1
  clear hw1 hb1 hr1 hb
  refine wp_region_quiet_fine (by kernel_rfl) (by kernel_rfl) ?_
  repeat (quiet_step (exact Calls.fine_of (to_any r1 r2 s hs hsb _)))
  refine wpQuiet_nil ?_
  intro wf hwf'
  have hwf := Lib.hid (HW.out.trans (FineBy.of hwf'))
  clear hwf' q0 q1 q2
  go_wp2_with fail
  go_ret
  exact ⟨rfl, hwf.out⟩
/-- The first run that a test takes. -/
def dropB (b : Int) (r : Rn) : Bool := decide (rto r ≤ b)
set_option maxHeartbeats 2000000 in
set_option maxRecDepth 20000 in
theorem indexFunc_any (A : Option Addr) (n c : Nat) (l : List Rn) (hn : l.length = n) (hnb : n ≤ 4294967296) (hT : Tidy l) (b : Int) (xb : Nat) (w : World) (hb : Blk w xb 3 #[.int .i64 b]) (h : RS layR w A c l) :
    Calls Try.prog 93 #[.slice A n c, .func (.func 77) #[] #[.pointer (some ⟨xb, 0, none⟩)]] w fun e w' => Fine w w' ∧ ((∃ k : Nat, k < n ∧ e = .returned (.int .i64 k) ∧ (∀ j x, l[j]? = some x → j < k → dropB b x = false) ∧ ∃ x, l[k]? = some x ∧ dropB b x = true) ∨ (e = .returned (.int .i64 (-1)) ∧ ∀ x ∈ l, dropB b x = false)) := by
  have HR := Lib.hid h; have HN := Lib.hid hn; have HB := Lib.hid hb; have HT := Lib.hid hT
  clear h hn hb hT
  go_enter Try.func93, Try.ntmps93
  go_wp2_with fail
  go_loopw [8] (fun s8 wr => ∃ (k : Nat), k ≤ n ∧ s8 = .int .i64 k ∧ Hid (Fine w wr ∧ ∀ j x, l[j]? = some x → j < k → dropB b x = false)) (fun s8 _ => n - (intOf s8).toNat)
  case atStart => exact ⟨0, Nat.zero_le _, rfl, Lib.hid ⟨Fine.refl w, fun j x _ h => absurd h (by omega)⟩⟩
  case round =>
    obtain ⟨k, hk, rfl, HI⟩ := hrel
    by_cases hlt : k < n
    · obtain ⟨r, hr0⟩ : ∃ r, l[k]? = some r := ⟨_, List.getElem?_eq_getElem (by have := HN.out; omega)⟩
      have hok := HT.out.okAt hr0
      obtain ⟨bb, o, rfl, _, hc⟩ := (HR.out.fine HI.out.1).at_ hr0
      have H0 := Lib.hid hr0
      obtain ⟨r1, r2⟩ := r
      have d0 := hc 0 (.int .i64 r1) rfl
      have d1 := hc 1 (.int .i64 r2) rfl
      simp only [← Nat.add_assoc, Nat.add_zero] at d0 d1
      obtain ⟨s, hs⟩ : ∃ s, r1 + r2 = s := ⟨_, rfl⟩
      have hs2 : rto (r1, r2) = s := hs
      have HS2 := Lib.hid hs2
      rw [hs2] at hok
      have hsb : -9223372036854775808 ≤ s ∧ s ≤ 9223372036854775807 := by have := hok; dsimp only at this; omega
      clear hc hr0 hok hs2
      go_wp2_with fail
      refine (dropT_any r1 r2 s b hs hsb xb _ (HB.out.fine HI.out.1)).mono ?_
      rintro e w2 ⟨rfl, f2⟩
      have F2 := Lib.hid (HI.out.1.trans f2)
      clear f2
      by_cases ht : s ≤ b
      · go_wp2_with fail
        go_ret
        exact ⟨F2.out, .inl ⟨k, hlt, rfl, HI.out.2, _, H0.out, by unfold dropB; rw [HS2.out]; exact decide_eq_true ht⟩⟩
      · go_wp2_with fail
        refine ⟨⟨k + 1, hlt, by simp, Lib.hid ⟨F2.out, fun j x hj hjk => ?_⟩⟩, by simp only [intOf]; omega⟩
        by_cases e : j = k
        · subst e
          rw [H0.out] at hj
          injection hj with hj
          rw [← hj]
          unfold dropB
          rw [HS2.out]
          exact decide_eq_false (by omega)
        · exact HI.out.2 j x hj (by omega)
    · have hke : k = n := by omega
      subst hke
      go_wp2_with fail
      go_ret
      exact ⟨HI.out.1, .inr ⟨rfl, fun x hx => by
        obtain ⟨j, hj, e⟩ := List.getElem_of_mem hx
        exact HI.out.2 j x (by rw [List.getElem?_eq_getElem hj, e]) (by rw [← HN.out]; exact hj)⟩⟩
end Go.Proofs.Ytnigfdldfmiaiaa
