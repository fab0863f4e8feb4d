/- Contracts: slices.Insert of one, whole. -/
import Derived.Test.YtnigfdldfmiaiaaSpan4
namespace Go.Proofs.Ytnigfdldfmiaiaa
open Go.ChangeShapes Go.WideShapes Go.ChangeAt Go.RowKit
set_option linter.unusedVariables false
set_option linter.unusedSimpArgs false
set_option maxHeartbeats 2000000 in
set_option maxRecDepth 20000 in
/-- There is no room: a row of its own. -/
theorem insert_grow (base g c : Nat) (l : List Rn) (i : Nat) (hi : i < l.length) (hl : l.length ≤ 8589934592) (hfull : c < l.length + 1) (r : Rn) (q : Nat) (w : World) (hbw : base ≤ w.heap.size) (hq : Blk w q 32 #[.int .i64 r.1, .int .i64 r.2]) (h : Own layR 32 w base (.slice (some ⟨g, 0, none⟩) l.length c) l) :
    Calls Try.prog 89 #[.slice (some ⟨g, 0, none⟩) l.length c, .int .i64 i, .slice (some ⟨q, 0, none⟩) 1 1] w (RowOf base (l.length + 1) (.slice (some ⟨g, 0, none⟩) l.length c) (l.take i ++ r :: l.drop i) w) := by
  obtain ⟨g', cap', cur0, e1, hbg, hbk, hle, hmax, hcs, htk⟩ := h.block (by omega)
  injection e1 with e1 e2 e3
  injection e1 with e1
  injection e1 with e1 _ _
  subst e1 e3
  obtain ⟨n, hn⟩ : ∃ n, l.length = n := ⟨_, rfl⟩
  have hcl : (l.drop i).length = n - i := by rw [List.length_drop, hn]
  have htl : (l.take i).length = i := by rw [List.length_take]; omega
  have hrsI : RS layR w (some ⟨g, 0, none⟩) c (l.take i) := h.rs.1.front i (by omega)
  rw [hn] at hi hl hfull h hle
  rw [hn]
  have hcn : c = n := by omega
  obtain ⟨k0, hk0⟩ : ∃ x, n - i = x := ⟨_, rfl⟩
  obtain ⟨k1, hk1⟩ : ∃ x, n + 1 - i = x := ⟨_, rfl⟩
  obtain ⟨c0, hc0⟩ : ∃ x, c - i = x := ⟨_, rfl⟩
  obtain ⟨p0, hp0⟩ : ∃ x, i * 2 = x := ⟨_, rfl⟩
  obtain ⟨p1, hp1⟩ : ∃ x, (i + 1) * 2 = x := ⟨_, rfl⟩
  have q1 := cutB sliceR g n c i (i : Int) rfl (by omega) (by omega) (by omega)
  rw [hp0, hk0, hc0] at q1
  have q2 := cutF sliceR g n c i (i : Int) rfl (by omega)
  have w1 : IntKind.i64.wrap ((n : Int) + 1) = (n : Int) + 1 := IntWalk.i64_in _ (by omega)
  have w2 : IntKind.i64.wrap ((i : Int) + 1) = (i : Int) + 1 := IntWalk.i64_in _ (by omega)
  have w3 : IntKind.i64.wrap ((n : Int) + 1 - (i : Int)) = (k1 : Int) := by rw [show (n : Int) + 1 - (i : Int) = (k1 : Int) by omega]; exact IntWalk.i64_in _ (by omega)
  have hne : ((i : Int) == (n : Int)) = false := by simp; omega
  have hng : (n : Int) + 1 > (c : Int) := by omega
  have HNum := Lib.hid (show i < n ∧ n ≤ 8589934592 ∧ c < n + 1 ∧ n - i = k0 ∧ n + 1 - i = k1 ∧ c - i = c0 ∧ i * 2 = p0 ∧ (i + 1) * 2 = p1 ∧ c = n from ⟨hi, hl, hfull, hk0, hk1, hc0, hp0, hp1, hcn⟩)
  have HL := Lib.hid (And.intro hcl htl); have HRI := Lib.hid hrsI; have HBK := Lib.hid hbk; have HTK := Lib.hid htk; have HQ := Lib.hid hq; have HB := Lib.hid (And.intro hbw hbg); have HN := Lib.hid hn
  have k1b : Hid (0 < k1 ∧ c < i + k1 ∧ i + k1 ≤ 10000000000) := Lib.hid (by omega)
  clear hi hl hfull hk0 hk1 hc0 hp0 hp1 hcn hcl htl hrsI hbk htk hq hbw hbg hn h e2 hle hmax hcs
  go_enter Try.func89, Try.ntmps89
  go_upto_region 10 with (at_builtin; refine wpList_appZ rfl sliceR 3 Try.underlying3 (.tmp 34) (.tmp 39) rfl (some ⟨g, 0, none⟩) i c rfl (l.take i) HL.out.2.symm HRI.out k1 (k1 : Int) rfl rfl k1b.out.1 k1b.out.2.1 (by decide) k1b.out.2.2 ?_; intro wz cap cur bz hz1 hz2 hz3 hz4 fz; have HZ := Lib.hid (And.intro bz (And.intro hz1 (And.intro hz2 (And.intro hz3 (And.intro hz4 fz))))); clear bz hz1 hz2 hz3 hz4 fz)
  obtain ⟨hi, hl, hfull, hk0, hk1, hc0, hp0, hp1, hcn⟩ := HNum.out
  obtain ⟨hcl, htl⟩ := HL.out
  obtain ⟨hbw, hbg⟩ := HB.out
  have hbk := HBK.out; have htk := HTK.out; have hq := HQ.out; have hn := HN.out
  obtain ⟨bz, hz1, hz2, hz3, hz4, fz⟩ := HZ.out
  have hz1 : n + 1 ≤ cap := by omega
  have hik : i + k1 = n + 1 := by omega
  rw [hik]
  obtain ⟨s0, hs0⟩ : ∃ x, w.heap.size = x := ⟨_, rfl⟩
  rw [hs0] at bz ⊢
  have hgs : g < s0 := by rw [← hs0]; exact hbk.lt
  have hqs : q < s0 := by rw [← hs0]; exact hq.lt
  -- the first copy
  obtain ⟨wa, hr1, ba, ka⟩ := run_copyM (E := layR) sliceR bz p0 k1 (cap - i) ⟨q, 0, none⟩ 1 1 [r] (by show 1 = min 1 k1; omega) (fun j v hv => by
    rw [layR.flat_one] at hv
    rw [Go.WideShapes.add_plain, Nat.zero_add, (hq.fine fz).cell j, ← Array.getElem?_toList]
    exact hv) (by rw [hz3]; simp; omega) 3
  obtain ⟨L1, hL1⟩ : ∃ L, cur.toList.take p0 ++ layR.flat [r] ++ cur.toList.drop (p0 + [r].length * 2) = L := ⟨_, rfl⟩
  rw [hL1] at ba
  obtain ⟨L2, hL2⟩ : ∃ L, L1.take p1 ++ layR.flat (l.drop i) ++ L1.drop (p1 + (l.drop i).length * 2) = L := ⟨_, rfl⟩
  have key := grow_flat (E := layR) (L := cur.toList) (a := l.take i) (b := l.drop i) r (by rw [htl]; exact hz4) (by rw [htl, hcl, Array.length_toList, hz3]; exact Nat.mul_le_mul_right 2 (by omega)) L1 L2 (by rw [htl, hp0]; exact hL1.symm) (by rw [htl, hp1]; exact hL2.symm)
  have hbka : Blk wa g 32 cur0 := (hbk.fine fz).kept ka (by omega)
  have hsrc : ∀ j v, (layR.flat (l.drop i))[j]? = some v → wa.drew.cell? (Addr.add ⟨g, p0, none⟩ j) = some v := by
    intro j v hv
    rw [Go.WideShapes.add_plain]
    have h1 := cell_drop (E := layR) htk i hv
    rw [hp0] at h1
    have h2 : wa.drew.cell? ⟨g, p0 + j, none⟩ = cur0[p0 + j]? := hbka.cell _
    rw [h2, ← Array.getElem?_toList]
    exact h1
  -- the second copy
  obtain ⟨wb, hr2, bb, kb⟩ := run_copyM (E := layR) sliceR ba.drew p1 k0 (cap - (i + 1)) ⟨g, p0, none⟩ k0 c0 (l.drop i) (by rw [hcl, hk0]; show k0 = min k0 k0; omega) hsrc (by rw [hcl, hk0, List.size_toArray, key.1, Array.length_toList, hz3]; omega) 3
  rw [List.toList_toArray, hL2] at bb
  have hn1 : (l.take i ++ r :: l.drop i).length = n + 1 := by rw [List.length_append, List.length_cons, htl, hcl]; omega
  have ho : Own layR 32 wb base (.slice (some ⟨s0, 0, none⟩) (l.take i ++ r :: l.drop i).length cap) (l.take i ++ r :: l.drop i) := Own.make (by omega) bb (by rw [hn1]; omega) hz2 (by rw [List.size_toArray]; exact key.2.1.trans ((Array.length_toList).trans hz3)) (by
    rw [List.toList_toArray, hn1]
    have h := key.2.2
    rw [htl, hcl, show i + 1 + (n - i) = n + 1 by omega] at h
    exact h)
  rw [hn1] at ho
  have hk : Kept (fun k => (Value.slice (some ⟨g, 0, none⟩) n c).ownBlock = some k) w wb := Kept.of_fine (((fz.kept ka (fun x hx e => by omega)).drew).kept kb (fun x hx e => by omega))
  have q3 := cutB sliceR s0 (n + 1) cap i (i : Int) rfl (by omega) hz1 (by omega)
  rw [hp0, hk1] at q3
  have q4 := cutB sliceR s0 (n + 1) cap (i + 1) ((i : Int) + 1) (by simp) (by omega) hz1 (by omega)
  rw [hp1, show n + 1 - (i + 1) = k0 by omega] at q4
  obtain ⟨cA, hcA⟩ : ∃ x, cap - i = x := ⟨_, rfl⟩
  obtain ⟨cB, hcB⟩ : ∃ x, cap - (i + 1) = x := ⟨_, rfl⟩
  rw [hcA] at q3 hr1
  rw [hcB] at q4 hr2
  generalize goInt ([r].length : Int) = gi1 at hr1
  generalize goInt ((l.drop i).length : Int) = gi2 at hr2
  have HO := Lib.hid ho; have HK := Lib.hid hk
  have HS0 : Hid (∀ k, (Value.slice (some ⟨s0, 0, none⟩) (n + 1) cap).ownBlock = some k → w.heap.size ≤ k) := Lib.hid (fun k e => by have e : s0 = k := Option.some.inj e; omega)
  clear hik ho hk key hsrc hbka bb kb ba ka bz hL1 hL2 fz hz4 hq hbk htk hcA hcB hn1 hgs hqs hs0 hz1 hz2 hz3 hcn hk0 hk1 hc0 hp0 hp1 hbg hcl htl hn hfull hbw hi hl
  go_upto_region 11 with (fail)
  go_still_tail 8, (by kernel_rfl)
  change wpList _ _ _ _ _ wa.drew
  generalize wa.drew = wd at hr2 ⊢
  go_wp2_with fail
  go_ret
  exact ⟨some ⟨s0, 0, none⟩, cap, rfl, HO.out, HK.out, .inr HS0.out⟩
theorem insert_any (base : Nat) (A : Option Addr) (n c : Nat) (l : List Rn) (hn : n = l.length) (hl : n ≤ 8589934592) (i : Nat) (hi : i ≤ n) (r : Rn) (q : Nat) (w : World) (hbw : base ≤ w.heap.size) (hq : Blk w q 32 #[.int .i64 r.1, .int .i64 r.2]) (hqA : (Value.slice A n c).ownBlock ≠ some q) (h : Own layR 32 w base (.slice A n c) l) :
    Calls Try.prog 89 #[.slice A n c, .int .i64 i, .slice (some ⟨q, 0, none⟩) 1 1] w (RowOf base (n + 1) (.slice A n c) (l.take i ++ r :: l.drop i) w) := by
  by_cases hin : i = n
  · subst hin
    have e : l.take i ++ r :: l.drop i = l ++ [r] := by rw [hn, List.take_length, List.drop_length]
    rw [e]
    exact insert_end base A i c l hn hl r q w hq hbw h
  · obtain ⟨g, cap, cur, e1, _⟩ := h.block (by omega)
    injection e1 with e1 e2 e3
    subst e1 e2
    by_cases hroom : l.length + 1 ≤ c
    · exact insert_room base g c l i (by omega) hl hroom r q w hq (fun e => hqA (by rw [e]; rfl)) h
    · exact insert_grow base g c l i (by omega) hl (by omega) r q w hbw hq h
end Go.Proofs.Ytnigfdldfmiaiaa
