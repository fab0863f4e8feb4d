/- Contracts: tidy. -/
import Derived.Test.YtnigfdldfmiaiaaSpan20
namespace Go.Proofs.Ytnigfdldfmiaiaa
open Go.ChangeShapes Go.WideShapes Go.ChangeAt Go.RowKit
set_option linter.unusedVariables false
set_option linter.unusedSimpArgs false
set_option maxHeartbeats 2000000 in
set_option maxRecDepth 20000 in
theorem tidy_any (A : Option Addr) (n c : Nat) (l : List Rn) (hn : l.length = n) (hT : Tidy l) (w : World) (h : RS layR w A c l) :
    Calls Try.prog 30 #[.slice A n c] w fun r w' => r = .returned (.bool true) ∧ Fine w w' := by
  have HR := Lib.hid h; have HN := Lib.hid hn; have HT := Lib.hid hT
  have hnb : n ≤ 4294967296 := by have := hT.length_le; omega
  clear h hn hT
  go_enter Try.func30, Try.ntmps30
  go_wp2_with fail
  go_loopw [7] (fun s7 wr => ∃ i : Nat, i ≤ n ∧ s7 = .int .i64 i ∧ Hid (Fine w wr)) (fun s7 _ => n - (intOf s7).toNat)
  case atStart => exact ⟨0, Nat.zero_le _, rfl, Lib.hid (Fine.refl _)⟩
  case round =>
    obtain ⟨i, hi, rfl, HI⟩ := hrel
    by_cases hlt : i < n
    · obtain ⟨r, hr0⟩ : ∃ r, l[i]? = some r := ⟨_, List.getElem?_eq_getElem (by have := HN.out; omega)⟩
      have hok := HT.out.okAt hr0
      have HLT := Lib.hid (fun i0 (x : Rn) (hx : l[i0]? = some x) (h : i0 < i) => HT.out.lt_at hx hr0 h)
      obtain ⟨bb, o, rfl, hbb, hc⟩ := (HR.out.fine HI.out).at_ hr0
      obtain ⟨r1, r2⟩ := r
      have d0 := hc 0 (.int .i64 r1) rfl
      have d1 := hc 1 (.int .i64 r2) rfl
      simp only [← Nat.add_assoc, Nat.add_zero] at d0 d1
      obtain ⟨s, hs⟩ : ∃ s, r1 + r2 = s := ⟨_, rfl⟩
      unfold rto at hok
      dsimp only at hok
      have e1 : IntKind.i64.wrap (r1 + r2) = s := by rw [hs]; exact IntWalk.i64_in _ (by omega)
      have g0 : decide (r2 < 1) = false := by simp; omega
      have g1 : decide (r1 < 0) = false := by simp; omega
      have g2 : decide (4294967296 < s) = false := by simp; omega
      have g3 : ¬ s > 4294967296 := by omega
      obtain ⟨xr, hxr⟩ : ∃ x, wr.heap.size = x := ⟨_, rfl⟩
      have br := Blk.newAt (w := wr) (t := 32) (cs := #[.int .i64 r1, .int .i64 r2]) hxr.symm
      have f5 := (Fine.refl wr).alloc (.cells #[.int .i64 r1, .int .i64 r2] 32)
      clear hc hr0 hok hs
      by_cases hi0 : 0 < i
      · obtain ⟨i0, hi1⟩ : ∃ k, i = k + 1 := ⟨i - 1, by omega⟩
        obtain ⟨p, hp0⟩ : ∃ r, l[i0]? = some r := ⟨_, List.getElem?_eq_getElem (by have := HN.out; omega)⟩
        have hpl := HLT.out i0 p hp0 (by omega)
        have hpk := HT.out.okAt hp0
        obtain ⟨bb2, o2, hA2, _, hc2⟩ := (HR.out.fine HI.out).at_ hp0
        injection hA2 with hA2
        injection hA2 with h1 h2 _
        subst h1 h2
        obtain ⟨p1, p2⟩ := p
        have u0 := hc2 0 (.int .i64 p1) rfl
        have u1 := hc2 1 (.int .i64 p2) rfl
        simp only [← Nat.add_assoc, Nat.add_zero] at u0 u1
        obtain ⟨t, ht⟩ : ∃ t, p1 + p2 = t := ⟨_, rfl⟩
        unfold rto at hpk hpl
        dsimp only at hpk hpl
        rw [ht] at hpl hpk
        have e2 : IntKind.i64.wrap (p1 + p2) = t := by rw [ht]; exact IntWalk.i64_in _ (by omega)
        have e3 : IntKind.i64.wrap ((i : Int) - 1) = (i0 : Int) := by rw [show (i : Int) - 1 = (i0 : Int) by omega]; exact IntWalk.i64_in _ (by omega)
        have e4 : (i : Int) - 1 = (i0 : Int) := by omega
        have g4 : decide (0 < i) = true := by simp; omega
        have g5 : (i : Int) > 0 := by omega
        have g6 : decide (r1 ≤ t) = false := by simp; omega
        have g7 : ¬ t ≥ r1 := by omega
        have g8 : i0 < n := by omega
        clear hc2 hp0 hpk hpl ht hi1
        go_upto_region 4 with fail
        generalize wr.alloc (.cells #[.int .i64 r1, .int .i64 r2] 32) = w5 at br f5 ⊢
        have c0 : w5.cell? ⟨xr, 0, none⟩ = some (.int .i64 r1) := br.cell 0
        have c1 : w5.cell? ⟨xr, 1, none⟩ = some (.int .i64 r2) := br.cell 1
        have v0 := (f5.cell (lt_of_cellN u0)).trans u0
        have v1 := (f5.cell (lt_of_cellN u1)).trans u1
        have F5 := Lib.hid f5
        clear br f5 u0 u1 d0 d1
        go_quiet (fail)
        go_wp2_with fail
        exact ⟨⟨i + 1, hlt, by simp, Lib.hid ((HI.out.trans F5.out).drewN _)⟩, by simp only [intOf]; omega⟩
      · have hie : i = 0 := by omega
        have g4 : decide (0 < i) = false := by simp; omega
        have g5 : ¬ (i : Int) > 0 := by omega
        clear hie
        go_upto_region 4 with fail
        generalize wr.alloc (.cells #[.int .i64 r1, .int .i64 r2] 32) = w5 at br f5 ⊢
        have c0 : w5.cell? ⟨xr, 0, none⟩ = some (.int .i64 r1) := br.cell 0
        have c1 : w5.cell? ⟨xr, 1, none⟩ = some (.int .i64 r2) := br.cell 1
        have F5 := Lib.hid f5
        clear br f5 d0 d1
        go_quiet (fail)
        go_wp2_with fail
        exact ⟨⟨i + 1, hlt, by simp, Lib.hid ((HI.out.trans F5.out).drewN _)⟩, by simp only [intOf]; omega⟩
    · have hie : i = n := by omega
      subst hie
      go_wp2_with fail
      go_ret
      exact ⟨rfl, HI.out⟩
end Go.Proofs.Ytnigfdldfmiaiaa
