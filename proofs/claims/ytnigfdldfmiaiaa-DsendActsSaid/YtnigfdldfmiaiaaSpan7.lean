/- Contracts: slices.Replace by one, in the middle; whole. -/
import Derived.Test.YtnigfdldfmiaiaaSpan6
namespace Go.Proofs.Ytnigfdldfmiaiaa
open Go.ChangeShapes Go.WideShapes Go.ChangeAt Go.RowKit
set_option linter.unusedVariables false
set_option linter.unusedSimpArgs false
theorem cutB' {P : Program} {t e : TypeId} {n bytes : Nat} (T : SliceTy P t e n bytes) (g len c i : Nat) (x : Int) (hx : x = (i : Int)) (hi : i ≤ len) (hc : len ≤ c) :
    ∃ p, (i < c ∧ p = i * n ∨ c = i ∧ p = 0) ∧ ∀ w, (Instr.sliceAt t (.slice (some ⟨g, 0, none⟩) len c) (some (.int .i64 x)) none none).run P w = .ok (.slice (some ⟨g, p, none⟩) (len - i) (c - i)) w := by
  by_cases h : i < c
  · exact ⟨_, .inl ⟨h, rfl⟩, cutB T g len c i x hx hi hc h⟩
  · refine ⟨0, .inr ⟨by omega, rfl⟩, fun w => ?_⟩
    have hci : c = i := by omega
    subst hx
    obtain ⟨i', hi', hz⟩ := Option.map_eq_some_iff.1 T.size
    simp only [Instr.sliceAt, Instr.slice, Sem.run_bind, run_underlying T.ht, Result.andThen_ok, Instr.sliceBounds, Sem.run_pure]
    rw [run_sliceBound (w := w) .i64 i len _ (by omega) (by omega)]
    simp [sizeOf, typeInfo, hi', hz, Result.andThen, hci, Go.WideShapes.add_plain]
set_option maxHeartbeats 2000000 in
set_option maxRecDepth 20000 in
theorem replace_mid (base g c : Nat) (l : List Rn) (i j : Nat) (hij : i < j) (hj : j < l.length) (hl : l.length ≤ 8589934592) (r : Rn) (q : Nat) (w : World) (hq : Blk w q 32 #[.int .i64 r.1, .int .i64 r.2]) (hqg : q ≠ g) (tot : Nat) (htot : i + 1 + (l.length - j) = tot) (h : Own layR 32 w base (.slice (some ⟨g, 0, none⟩) l.length c) l) :
    Calls Try.prog 74 #[.slice (some ⟨g, 0, none⟩) l.length c, .int .i64 i, .int .i64 j, .slice (some ⟨q, 0, none⟩) 1 1] w (RowOf base tot (.slice (some ⟨g, 0, none⟩) l.length c) (l.take i ++ r :: l.drop j) w) := by
  obtain ⟨g', cap', cur, e1, hbg, hbk, hle, hmax, hcs, htk⟩ := h.block (by omega)
  injection e1 with e1 e2 e3
  injection e1 with e1
  injection e1 with e1 _ _
  subst e1 e3
  obtain ⟨n, hn⟩ : ∃ n, l.length = n := ⟨_, rfl⟩
  have htl : (l.take i).length = i := by rw [List.length_take]; omega
  have hdl : (l.drop j).length = n - j := by rw [List.length_drop, hn]
  have hLl : cur.toList.length = c * 2 := by rw [Array.length_toList]; exact hcs
  obtain ⟨kz, hkz⟩ : ∃ x, n - tot = x := ⟨_, rfl⟩
  obtain ⟨L1, hL1⟩ : ∃ L, cur.toList.take (i * 2) ++ layR.flat [r] ++ cur.toList.drop (i * 2 + 1 * 2) = L := ⟨_, rfl⟩
  obtain ⟨L2, hL2⟩ : ∃ L, L1.take ((i + 1) * 2) ++ layR.flat (l.drop j) ++ L1.drop ((i + 1) * 2 + (l.drop j).length * 2) = L := ⟨_, rfl⟩
  have hnc : n * 2 ≤ c * 2 := Nat.mul_le_mul_right 2 (by omega)
  have key := fun (zs L3 : List Value) (hz : zs.length = kz * 2) (h3 : L3 = L2.take (tot * 2) ++ zs ++ L2.drop (tot * 2 + kz * 2)) => rep_flat (E := layR) (L := cur.toList) (xs := l) (i := i) (j := j) r htk hij (by omega) (by rw [hn, hLl]; exact hnc) L1 L2 L3 zs kz hL1.symm hL2.symm (by omega) hz (by rw [htot]; exact h3)
  have htot' := htot
  rw [hn] at hj hl h hle htot
  rw [hn]
  obtain ⟨k0, hk0⟩ : ∃ x, n - j = x := ⟨_, rfl⟩
  obtain ⟨k1, hk1⟩ : ∃ x, tot - i = x := ⟨_, rfl⟩
  obtain ⟨c0, hc0⟩ : ∃ x, c - i = x := ⟨_, rfl⟩
  obtain ⟨c1, hc1⟩ : ∃ x, c - (i + 1) = x := ⟨_, rfl⟩
  obtain ⟨cj, hcj⟩ : ∃ x, c - j = x := ⟨_, rfl⟩
  obtain ⟨ct, hct⟩ : ∃ x, c - tot = x := ⟨_, rfl⟩
  obtain ⟨p0, hp0⟩ : ∃ x, i * 2 = x := ⟨_, rfl⟩
  obtain ⟨p1, hp1⟩ : ∃ x, (i + 1) * 2 = x := ⟨_, rfl⟩
  obtain ⟨pj, hpj⟩ : ∃ x, j * 2 = x := ⟨_, rfl⟩
  obtain ⟨pt, hpt⟩ : ∃ x, tot * 2 = x := ⟨_, rfl⟩
  -- the copies
  obtain ⟨wa, hr1, ba, ka⟩ := run_copyM (w := w.drew) (E := layR) sliceR hbk.drew p0 k1 c0 ⟨q, 0, none⟩ 1 1 [r] (by show 1 = min 1 k1; omega) (fun x v hv => by
    rw [layR.flat_one] at hv
    rw [Go.WideShapes.add_plain, Nat.zero_add, hq.drew.cell x, ← Array.getElem?_toList]
    exact hv) (by rw [hcs]; simp; omega) 3
  rw [show [r].length * 2 = 1 * 2 from rfl, ← hp0, hL1] at ba
  have hl1 : L1.length = c * 2 := by
    rw [← hL1, List.length_append, List.length_append, List.length_take, List.length_drop, layR.flat_length, hLl]
    simp
    omega
  have hsrc : ∀ x v, (layR.flat (l.drop j))[x]? = some v → wa.drew.cell? (Addr.add ⟨g, pj, none⟩ x) = some v := by
    intro x v hv
    rw [Go.WideShapes.add_plain, ← hpj]
    have h1 := (key (List.replicate (kz * 2) (.int .i64 0)) _ (by simp) rfl).2.2.2.2.1 x v hv
    have h2 : wa.drew.cell? ⟨g, j * 2 + x, none⟩ = L1.toArray[j * 2 + x]? := ba.drew.cell _
    rw [h2, ← Array.getElem?_toList, List.toList_toArray]
    exact h1
  obtain ⟨wb, hr2, bb, kb⟩ := run_copyM (w := wa.drew) (E := layR) sliceR ba.drew p1 k0 c1 ⟨g, pj, none⟩ k0 cj (l.drop j) (by rw [hdl, hk0]; show k0 = min k0 k0; omega) hsrc (by rw [hdl, hk0, List.size_toArray, hl1]; omega) 3
  rw [List.toList_toArray, ← hp1, hL2] at bb
  have hl2 : L2.length = c * 2 := by rw [← hLl]; exact (key (List.replicate (kz * 2) (.int .i64 0)) _ (by simp) rfl).2.1
  obtain ⟨pt', hpt', q6⟩ := cutB' sliceR g n c tot (tot : Int) rfl (by omega) hle
  rw [hkz, hct] at q6
  have hpk : pt' + kz * 2 ≤ c * 2 := by omega
  obtain ⟨wc, zs, hr3, hz, bc, kc⟩ := run_clearM (n := 2) Try.underlying29 _ zeroR rfl zeroOne bb pt' kz (by rw [List.size_toArray, hl2]; exact hpk)
  rw [List.toList_toArray] at bc
  have hn1 : (l.take i ++ r :: l.drop j).length = tot := by rw [List.length_append, List.length_cons, htl, hdl]; omega
  have hfl : (L2.take pt' ++ zs ++ L2.drop (pt' + kz * 2)).length = c * 2 := by
    rw [List.length_append, List.length_append, List.length_take, List.length_drop, hz, hl2]
    omega
  have hft : (L2.take pt' ++ zs ++ L2.drop (pt' + kz * 2)).take (tot * 2) = layR.flat (l.take i ++ r :: l.drop j) := by
    rcases hpt' with ⟨_, e⟩ | ⟨e1, e2⟩
    · have h := (key zs _ hz rfl).2.2.2.2.2
      rw [htot'] at h
      rw [e]
      exact h
    · have hz0 : kz = 0 := by omega
      have hzs : zs = [] := List.eq_nil_of_length_eq_zero (by rw [hz, hz0])
      have h := (key [] L2 (by rw [hz0]; rfl) (by rw [hz0, Nat.zero_mul, Nat.add_zero, List.append_nil, List.take_append_drop])).2.2.2.2.2
      rw [htot'] at h
      rw [e2, hzs, hz0]
      simpa using h
  have ho : Own layR 32 wc base (.slice (some ⟨g, 0, none⟩) (l.take i ++ r :: l.drop j).length c) (l.take i ++ r :: l.drop j) := Own.make hbg bc (by rw [hn1]; omega) hmax (by rw [List.size_toArray]; exact hfl) (by rw [List.toList_toArray, hn1]; exact hft)
  rw [hn1] at ho
  have hS : ∀ {a b : World}, Kept (· = g) a b → Kept (fun k => (Value.slice (some ⟨g, 0, none⟩) n c).ownBlock = some k) a b := fun k => k.mono (fun x _ e => by rw [e]; rfl)
  have hk : Kept (fun k => (Value.slice (some ⟨g, 0, none⟩) n c).ownBlock = some k) w wc := ((((Kept.refl _ w).drew).trans (hS ka)).drew.trans (hS kb)).trans (hS kc)
  have HO := Lib.hid ho; have HK := Lib.hid hk
  have q0 := cutM sliceR g n c i j (i : Int) (j : Int) rfl rfl (by omega) (by omega) (by omega)
  have q1 := cutF sliceR g n c i (i : Int) rfl (by omega)
  have q2 := cutB sliceR g n c j (j : Int) rfl (by omega) (by omega) (by omega)
  rw [hpj, hk0, hcj] at q2
  have q3 := cutF sliceR g n c tot (tot : Int) rfl (by omega)
  have q4 := cutB sliceR g tot c i (i : Int) rfl (by omega) (by omega) (by omega)
  rw [hp0, hk1, hc0] at q4
  have q5 := cutB sliceR g tot c (i + 1) ((i : Int) + 1) (by simp) (by omega) (by omega) (by omega)
  rw [hp1, show tot - (i + 1) = k0 by omega, hc1] at q5
  have w1 : IntKind.i64.wrap ((i : Int) + 1) = (i : Int) + 1 := IntWalk.i64_in _ (by omega)
  have w2 : IntKind.i64.wrap ((i : Int) + 1 + (k0 : Int)) = (tot : Int) := by rw [show (i : Int) + 1 + (k0 : Int) = (tot : Int) by omega]; exact IntWalk.i64_in _ (by omega)
  have hne : ((i : Int) == (j : Int)) = false := by simp; omega
  have hne2 : ((j : Int) == (n : Int)) = false := by simp; omega
  have hng : ¬ (tot : Int) > (c : Int) := by omega
  have hle1 : (i : Int) + 1 ≤ (j : Int) := by omega
  generalize goInt ([r].length : Int) = gi1 at hr1
  generalize goInt ((l.drop j).length : Int) = gi2 at hr2
  clear ho hk hS key bc kb ka bb ba hL1 hL2 hsrc hz hn1 hl1 hl2 hkz hk0 hk1 hc0 hc1 hcj hct hp0 hp1 hpj hpt hbk htk hq hnc hLl htl hdl hcs hmax hbg h e2 hn hl hqg htot htot' kc hfl hft hpk hpt'
  go_enter Try.func74, Try.ntmps74
  go_upto_region 9 with (fail)
  go_still_tail 12, (by kernel_rfl)
  change wpList _ _ _ _ _ w.drew
  generalize w.drew = wd at hr1 ⊢
  go_upto_region 18 with (fail)
  go_still_tail 9, (by kernel_rfl)
  change wpList _ _ _ _ _ wa.drew
  generalize wa.drew = we at hr2 ⊢
  go_wp2_with fail
  go_ret
  exact ⟨some ⟨g, 0, none⟩, c, rfl, HO.out, HK.out, .inl rfl⟩
end Go.Proofs.Ytnigfdldfmiaiaa
