/- Contracts: run, Has, Next. -/
import Derived.Test.YtnigfdldfmiaiaaSpanPlain2
import Derived.Deep.QuietTactic
import Derived.BigQuiet
namespace Go.Proofs.Ytnigfdldfmiaiaa
open Go.ChangeShapes Go.WideShapes Go.ChangeAt Go.RowKit
set_option linter.unusedVariables false
set_option linter.unusedSimpArgs false
/-- What run answers. -/
def RunOf (l : List Rn) (a : Int) (w : World) (r : Ending) (w' : World) : Prop :=
  ∃ r1 r2 q, r = .returned (.tuple #[.agg #[.int .i64 r1, .int .i64 r2], .bool q]) ∧ q = inB l a ∧ (q = true → ((r1, r2) : Rn) ∈ l ∧ hasR (r1, r2) a = true) ∧ Fine w w'
set_option maxHeartbeats 2000000 in
set_option maxRecDepth 20000 in
theorem run_any (g : Nat) (l : List Rn) (hT : Tidy l) (a : Int) (w : World) (h : SetR w g l) :
    Calls Try.prog 78 #[.pointer (some ⟨g, 0, none⟩), .int .i64 a] w (RunOf l a w) := by
  obtain ⟨A, c, h1, h2⟩ := h
  obtain ⟨n, hn⟩ : ∃ n, l.length = n := ⟨_, rfl⟩
  rw [hn] at h1
  obtain ⟨xs, hxs⟩ : ∃ x, w.heap.size = x := ⟨_, rfl⟩
  have f3 := (((Fine.refl w).alloc (.cells #[.pointer (some ⟨g, 0, none⟩)] 24)).alloc (.cells #[.int .i64 a] 3)).alloc (.cells #[.int .i64 0, .int .i64 0] 32)
  have b1 := ((Blk.newAt (w := w) (t := 24) (cs := #[.pointer (some ⟨g, 0, none⟩)]) hxs.symm).alloc (.cells #[.int .i64 a] 3)).alloc (.cells #[.int .i64 0, .int .i64 0] 32)
  have b2 := (Blk.newAt (w := w.alloc (.cells #[.pointer (some ⟨g, 0, none⟩)] 24)) (g := xs + 1) (t := 3) (cs := #[.int .i64 a]) (by rw [szA, hxs])).alloc (.cells #[.int .i64 0, .int .i64 0] 32)
  have b3 : Blk (((w.alloc (.cells #[.pointer (some ⟨g, 0, none⟩)] 24)).alloc (.cells #[.int .i64 a] 3)).alloc (.cells #[.int .i64 0, .int .i64 0] 32)) (xs + 1 + 1) 32 #[.int .i64 0, .int .i64 0] := Blk.newAt (by rw [szA, szA, hxs])
  have hg : Blk (((w.alloc (.cells #[.pointer (some ⟨g, 0, none⟩)] 24)).alloc (.cells #[.int .i64 a] 3)).alloc (.cells #[.int .i64 0, .int .i64 0] 32)) g 97 #[.slice A n c] := h1.fine f3
  have hs := h2.fine f3
  have HT := Lib.hid hT; have HN := Lib.hid hn
  have hnb : n ≤ 4294967296 := by have := hT.length_le; omega
  have hgx : g < xs := hxs ▸ h1.lt
  clear h1 h2 hT hn
  go_enter Try.func78, Try.ntmps78
  go_upto_region 1 with fail
  generalize ((w.alloc (.cells #[.pointer (some ⟨g, 0, none⟩)] 24)).alloc (.cells #[.int .i64 a] 3)).alloc (.cells #[.int .i64 0, .int .i64 0] 32) = w3 at f3 b1 b2 b3 hg hs ⊢
  have F3 := Lib.hid f3; have B1 := Lib.hid b1; have B2 := Lib.hid b2; have B3 := Lib.hid b3; have BG := Lib.hid hg; have HS := Lib.hid hs
  have c0 : w3.cell? ⟨xs, 0, none⟩ = some (.pointer (some ⟨g, 0, none⟩)) := b1.cell1
  have d0 : w3.cell? ⟨g, 0, none⟩ = some (.slice A n c) := hg.cell1
  clear f3 b1 b2 b3 hg hs
  go_wp2_with fail
  refine (search_any 94 (.inr (.inr rfl)) _ _ n hnb (overB l a) w3 (fun i w' hi f => run1_any l HT.out i (by have := HN.out; omega) g xs (xs + 1) a w' (B1.out.fine f) (B2.out.fine f) ⟨A, c, (by rw [HN.out]; exact BG.out.fine f), HS.out.fine f⟩)).mono ?_
  rintro x w4 ⟨i, rfl, fi, f4⟩
  have hin : i ≤ n := fi.1
  have HO := Lib.hid (over_in HT.out HN.out fi)
  have HFO := Lib.hid (found_over HT.out HN.out fi)
  have F4 := Lib.hid (F3.out.trans f4)
  clear c0 d0
  have b3 := B3.out.fine f4
  have c0 : w4.cell? ⟨xs, 0, none⟩ = some (.pointer (some ⟨g, 0, none⟩)) := (B1.out.fine f4).cell1
  have c1 : w4.cell? ⟨xs + 1, 0, none⟩ = some (.int .i64 a) := (B2.out.fine f4).cell1
  have d0 : w4.cell? ⟨g, 0, none⟩ = some (.slice A n c) := (BG.out.fine f4).cell1
  have HS4 := Lib.hid (HS.out.fine f4)
  clear f4 fi
  have hgt : ¬ g = xs + 1 + 1 := by omega
  by_cases hlt : i < n
  · obtain ⟨r, hr0⟩ : ∃ r, l[i]? = some r := ⟨_, List.getElem?_eq_getElem (by have := HN.out; omega)⟩
    have hq := HO.out.1 r hr0
    have hov := HFO.out.2.2 i r hr0 (Nat.le_refl _)
    obtain ⟨bb, o, hA, hb, hc⟩ := HS4.out.at_ hr0
    subst hA
    have hrm := List.mem_of_getElem? hr0
    obtain ⟨r1, r2⟩ := r
    have x0 := hc 0 (.int .i64 r1) rfl
    have x1 := hc 1 (.int .i64 r2) rfl
    simp only [← Nat.add_assoc, Nat.add_zero] at x0 x1
    have HQ : Hid (inB l a = decide (r1 ≤ a) ∧ ((r1, r2) : Rn) ∈ l ∧ a < rto (r1, r2)) := Lib.hid ⟨hq, hrm, hov⟩
    clear hc hr0 hq hov hrm
    have e1 : ((i : Int) == (n : Int)) = false := by simp; omega
    have e2 : (i : Int) < (n : Int) := by omega
    by_cases hra : a < r1
    · have e3 : decide (a < r1) = true := by simp; omega
      have e4 : r1 > a := hra
      have z0 := b3.frozen 0
      have z1 := b3.frozen 1
      have y0 : w4.cell? ⟨xs + 1 + 1, 0, none⟩ = some (.int .i64 0) := b3.cell 0
      have y1 : w4.cell? ⟨xs + 1 + 1, 1, none⟩ = some (.int .i64 0) := b3.cell 1
      go_upto_region 4 with fail
      go_quiet (fail)
      have k0 := ((b3.drewN nq).set_ 0 (.int .i64 0)).set_ 1 (.int .i64 0)
      have FW : Hid (Fine w (((w4.drewN nq).setCell ⟨xs + 1 + 1, 0, none⟩ (.int .i64 0)).setCell ⟨xs + 1 + 1, 1, none⟩ (.int .i64 0))) := Lib.hid (((F4.out.drewN nq).setCell (by show w.heap.size ≤ xs + 1 + 1; omega) _).setCell (by show w.heap.size ≤ xs + 1 + 1; omega) _)
      go_wp2_with fail
      have k1 := k0.cell 0
      have k2 := k0.cell 1
      exact bodyPost_ret (v := .tuple #[.agg #[.int .i64 0, .int .i64 0], .bool false]) (by simp [results, Try.results78, go_sem, k1, k2]) rfl ⟨0, 0, false, rfl, by rw [HQ.out.1]; simp; omega, (fun e => by cases e), FW.out⟩
    · have e3 : decide (a < r1) = false := by simp; omega
      have e4 : ¬ r1 > a := hra
      have z0 := b3.frozen 0
      have z1 := b3.frozen 1
      have y0 : w4.cell? ⟨xs + 1 + 1, 0, none⟩ = some (.int .i64 0) := b3.cell 0
      have y1 : w4.cell? ⟨xs + 1 + 1, 1, none⟩ = some (.int .i64 0) := b3.cell 1
      go_upto_region 4 with fail
      go_quiet (fail)
      have k0 := ((b3.drewN nq).set_ 0 (.int .i64 r1)).set_ 1 (.int .i64 r2)
      have FW : Hid (Fine w (((w4.drewN nq).setCell ⟨xs + 1 + 1, 0, none⟩ (.int .i64 r1)).setCell ⟨xs + 1 + 1, 1, none⟩ (.int .i64 r2))) := Lib.hid (((F4.out.drewN nq).setCell (by show w.heap.size ≤ xs + 1 + 1; omega) _).setCell (by show w.heap.size ≤ xs + 1 + 1; omega) _)
      go_wp2_with fail
      have k1 := k0.cell 0
      have k2 := k0.cell 1
      exact bodyPost_ret (v := .tuple #[.agg #[.int .i64 r1, .int .i64 r2], .bool true]) (by simp [results, Try.results78, go_sem, k1, k2]) rfl ⟨r1, r2, true, rfl, by rw [HQ.out.1]; simp; omega, (fun _ => ⟨HQ.out.2.1, hasR_iff.mpr ⟨by simp; omega, HQ.out.2.2⟩⟩), FW.out⟩
  · have hie : i = n := by omega
    have HQ := Lib.hid (HO.out.2 hie)
    subst hie
    have e1 : ((i : Int) == (i : Int)) = true := by simp
    have z0 := b3.frozen 0
    have z1 := b3.frozen 1
    have y0 : w4.cell? ⟨xs + 1 + 1, 0, none⟩ = some (.int .i64 0) := b3.cell 0
    have y1 : w4.cell? ⟨xs + 1 + 1, 1, none⟩ = some (.int .i64 0) := b3.cell 1
    go_upto_region 4 with fail
    go_quiet (fail)
    have k0 := ((b3.drewN nq).set_ 0 (.int .i64 0)).set_ 1 (.int .i64 0)
    have FW : Hid (Fine w (((w4.drewN nq).setCell ⟨xs + 1 + 1, 0, none⟩ (.int .i64 0)).setCell ⟨xs + 1 + 1, 1, none⟩ (.int .i64 0))) := Lib.hid (((F4.out.drewN nq).setCell (by show w.heap.size ≤ xs + 1 + 1; omega) _).setCell (by show w.heap.size ≤ xs + 1 + 1; omega) _)
    go_wp2_with fail
    have k1 := k0.cell 0
    have k2 := k0.cell 1
    exact bodyPost_ret (v := .tuple #[.agg #[.int .i64 0, .int .i64 0], .bool false]) (by simp [results, Try.results78, go_sem, k1, k2]) rfl ⟨0, 0, false, rfl, by rw [HQ.out], (fun e => by cases e), FW.out⟩
theorem has_any (g : Nat) (l : List Rn) (hT : Tidy l) (a : Int) (w : World) (h : SetR w g l) :
    Calls Try.prog 26 #[.pointer (some ⟨g, 0, none⟩), .int .i64 a] w fun r w' => r = .returned (.bool (inB l a)) ∧ Fine w w' := by
  have HR := Lib.hid (run_any g l hT a w h)
  clear h hT
  go_enter Try.func26, Try.ntmps26
  go_wp2_with fail
  refine HR.out.mono ?_
  rintro r w1 ⟨r1, r2, q, rfl, hq, _, f1⟩
  have F1 := Lib.hid f1; have HQ := Lib.hid hq
  clear f1 hq
  go_wp2_with fail
  go_ret
  exact ⟨by rw [HQ.out]; rfl, F1.out.alloc _⟩
theorem next_any (g : Nat) (l : List Rn) (hT : Tidy l) (f : Int) (hf : -9223372036854775808 ≤ f ∧ f ≤ 9223372036854775807) (w : World) (h : SetR w g l) :
    Calls Try.prog 27 #[.pointer (some ⟨g, 0, none⟩), .int .i64 f] w fun r w' => ∃ x, r = .returned (.int .i64 x) ∧ NextOf l f x ∧ Fine w w' := by
  have HR := Lib.hid (fun a => run_any g l hT a w h)
  have HT := Lib.hid hT
  clear h hT
  obtain ⟨m, hm⟩ : ∃ m, max f 0 = m := ⟨_, rfl⟩
  have HM := Lib.hid hm
  have e0 : (if f < 0 then 0 else f) = m := by rw [← hm]; split <;> omega
  clear hm
  go_enter Try.func27, Try.ntmps27
  go_wp2_with fail
  refine (HR.out m).mono ?_
  rintro r w1 ⟨r1, r2, q, rfl, hq, hrm, f1⟩
  have F1 := Lib.hid f1; have HQ := Lib.hid hq; have HRM := Lib.hid hrm
  clear f1 hq hrm e0
  cases q
  · go_wp2_with fail
    go_ret
    exact ⟨m, rfl, by rw [← HM.out]; exact NextOf.here (by rw [HM.out, ← HQ.out]), F1.out.alloc _⟩
  · have HR2 := Lib.hid (HRM.out rfl)
    clear HRM
    obtain ⟨s, hs⟩ : ∃ s, r1 + r2 = s := ⟨_, rfl⟩
    have hb := HT.out.ok _ HR2.out.1
    have hs2 : rto (r1, r2) = s := hs
    rw [hs2] at hb
    have hsb : -9223372036854775808 ≤ s ∧ s ≤ 9223372036854775807 := by dsimp only at hb; omega
    have HS := Lib.hid hs; have HS2 := Lib.hid hs2
    clear hb hs hs2
    go_wp2_with fail
    refine (to_any r1 r2 s HS.out hsb _).mono ?_
    rintro r w2 ⟨rfl, f2⟩
    have F2 := Lib.hid ((F1.out.alloc _).trans f2)
    clear f2
    go_wp2_with fail
    go_ret
    exact ⟨s, rfl, by rw [← HS2.out]; exact NextOf.there HT.out HR2.out.1 (by rw [HM.out]; exact HR2.out.2), F2.out⟩
end Go.Proofs.Ytnigfdldfmiaiaa
