/- Contracts: sort.Search, the closures of Add and run. -/
import Derived.Test.YtnigfdldfmiaiaaSpan1
import Derived.Deep.RegionHeld3
import Derived.Deep.QuietTactic
namespace Go.Proofs.Ytnigfdldfmiaiaa
open Go.ChangeShapes Go.WideShapes Go.ChangeAt Go.RowKit
set_option linter.unusedVariables false
set_option linter.unusedSimpArgs false
/-- What sort.Search finds. -/
def Found (p : Nat → Bool) (n k : Nat) : Prop := k ≤ n ∧ (0 < k → p (k - 1) = false) ∧ (k < n → p k = true)
set_option maxHeartbeats 2000000 in
set_option maxRecDepth 20000 in
theorem search_any (F : Nat) (hF : F = 71 ∨ F = 73 ∨ F = 94) (c1 c2 : Value) (n : Nat) (hn : n ≤ 4294967296) (p : Nat → Bool) (w : World) (hp : ∀ (i : Nat) w', i < n → Fine w w' → Calls Try.prog F #[.int .i64 i, c1, c2] w' fun r w'' => r = .returned (.bool (p i)) ∧ Fine w' w'') :
    Calls Try.prog 70 #[.int .i64 n, .func (.func F) #[] #[c1, c2]] w fun r w' => ∃ k : Nat, r = .returned (.int .i64 k) ∧ Found p n k ∧ Fine w w' := by
  have HP := Lib.hid hp; clear hp
  go_enter Try.func70, Try.ntmps70
  go_wp2_with fail
  go_loopw [5, 6] (fun s5 s6 wr => ∃ i j : Nat, i ≤ j ∧ j ≤ n ∧ s5 = .int .i64 i ∧ s6 = .int .i64 j ∧ Hid (Fine w wr ∧ (0 < i → p (i - 1) = false) ∧ (j < n → p j = true))) (fun s5 s6 _ => (intOf s6).toNat - (intOf s5).toNat)
  case atStart => exact ⟨0, n, Nat.zero_le _, Nat.le_refl _, rfl, rfl, Lib.hid ⟨Fine.refl w, fun h => absurd h (by omega), fun h => absurd h (by omega)⟩⟩
  case round =>
    obtain ⟨i, j, hij, hj, rfl, rfl, HR⟩ := hrel
    by_cases hlt : i < j
    · have hlt2 : (i : Int) < (j : Int) := by omega
      go_upto_region 4 with (fail)
      obtain ⟨h, hh⟩ : ∃ h : Nat, (i + j) / 2 = h := ⟨_, rfl⟩
      have e : ((i : Int) + (j : Int)) / 2 = (h : Int) := by omega
      have hb : i ≤ h ∧ h < j := by omega
      rw [e]
      clear e hh hlt2
      rcases hF with rfl | rfl | rfl
      all_goals
        go_wp2_with fail
        refine (HP.out h wr (by omega) HR.out.1).mono ?_
        rintro x w2 ⟨rfl, f2⟩
        cases hph : p h
        · have HN : Hid (Fine w w2 ∧ (0 < h + 1 → p (h + 1 - 1) = false) ∧ (j < n → p j = true)) := Lib.hid ⟨HR.out.1.trans f2, fun _ => hph, HR.out.2.2⟩
          clear f2 hph
          go_wp2_with fail
          exact ⟨⟨h + 1, j, by omega, hj, by simp, rfl, HN⟩, by simp only [intOf]; omega⟩
        · have HN : Hid (Fine w w2 ∧ (0 < i → p (i - 1) = false) ∧ (h < n → p h = true)) := Lib.hid ⟨HR.out.1.trans f2, HR.out.2.1, fun _ => hph⟩
          clear f2 hph
          go_wp2_with fail
          exact ⟨⟨i, h, by omega, by omega, rfl, rfl, HN⟩, by simp only [intOf]; omega⟩
    · have hie : j = i := by omega
      subst hie
      go_wp2_with fail
      go_ret
      exact ⟨j, rfl, ⟨hj, HR.out.2⟩, HR.out.1⟩
/-- A set that may be read: its cell, its runs. -/
def SetR (w : World) (g : Nat) (l : List Rn) : Prop := ∃ A c, Blk w g 97 #[.slice A l.length c] ∧ RS layR w A c l
theorem SetR.fine {w w' : World} {g : Nat} {l : List Rn} (h : SetR w g l) (f : Fine w w') : SetR w' g l := by
  obtain ⟨A, c, h1, h2⟩ := h
  exact ⟨A, c, h1.fine f, h2.fine f⟩
def toB (l : List Rn) (a : Int) (i : Nat) : Bool := match l[i]? with | some r => decide (a ≤ rto r) | none => false
def fromB (l : List Rn) (t : Int) (i : Nat) : Bool := match l[i]? with | some r => decide (t < r.1) | none => false
def overB (l : List Rn) (n : Int) (i : Nat) : Bool := match l[i]? with | some r => decide (n < rto r) | none => false
set_option maxHeartbeats 2000000 in
set_option maxRecDepth 20000 in
theorem add1_any (l : List Rn) (hT : Tidy l) (i : Nat) (hi : i < l.length) (g xs xr : Nat) (a b : Int) (w : World) (hs : Blk w xs 24 #[.pointer (some ⟨g, 0, none⟩)]) (hr : Blk w xr 32 #[.int .i64 a, .int .i64 b]) (hg : SetR w g l) :
    Calls Try.prog 71 #[.int .i64 i, .pointer (some ⟨xs, 0, none⟩), .pointer (some ⟨xr, 0, none⟩)] w fun r w' => r = .returned (.bool (toB l a i)) ∧ Fine w w' := by
  obtain ⟨A, c, h1, h2⟩ := hg
  obtain ⟨r, hr0⟩ : ∃ r, l[i]? = some r := ⟨_, List.getElem?_eq_getElem hi⟩
  have hsm := hT.ok r (List.mem_of_getElem? hr0)
  have HE : Hid (toB l a i = decide (a ≤ rto r)) := Lib.hid (by unfold toB; rw [hr0])
  obtain ⟨bb, o, rfl, hb, hc⟩ := h2.at_ hr0
  have d0 := hc 0 (.int .i64 r.1) rfl
  have d1 := hc 1 (.int .i64 r.2) rfl
  simp only [← Nat.add_assoc, Nat.add_zero] at d0 d1
  obtain ⟨n, hn⟩ : ∃ n, l.length = n := ⟨_, rfl⟩
  rw [hn] at h1 hi
  have c0 : w.cell? ⟨xs, 0, none⟩ = some (.pointer (some ⟨g, 0, none⟩)) := hs.cell 0
  have c1 : w.cell? ⟨g, 0, none⟩ = some (.slice (some ⟨bb, o, none⟩) n c) := h1.cell 0
  have c2 : w.cell? ⟨xr, 0, none⟩ = some (.int .i64 a) := hr.cell 0
  obtain ⟨r1, hr1⟩ : ∃ x, r.1 = x := ⟨_, rfl⟩
  obtain ⟨r2, hr2⟩ : ∃ x, r.2 = x := ⟨_, rfl⟩
  obtain ⟨t, ht⟩ : ∃ x, rto r = x := ⟨_, rfl⟩
  rw [hr1] at d0
  rw [hr2] at d1
  have HT : Hid (r1 + r2 = t ∧ -9223372036854775808 ≤ t ∧ t ≤ 9223372036854775807) := Lib.hid (by rw [← hr1, ← hr2, ← ht]; unfold rto at hsm ht ⊢; omega)
  have HTE := Lib.hid ht
  have hK : ∀ w', Fine w w' → w'.cell? ⟨xs, 0, none⟩ = some (.pointer (some ⟨g, 0, none⟩)) ∧ w'.cell? ⟨g, 0, none⟩ = some (.slice (some ⟨bb, o, none⟩) n c) ∧ w'.cell? ⟨xr, 0, none⟩ = some (.int .i64 a) ∧ w'.cell? ⟨bb, o + i * 2, none⟩ = some (.int .i64 r1) ∧ w'.cell? ⟨bb, o + i * 2 + 1, none⟩ = some (.int .i64 r2) := fun w' f => ⟨(hs.fine f).cell 0, (h1.fine f).cell 0, (hr.fine f).cell 0, (f.cell (p := ⟨bb, o + i * 2, none⟩) hb).trans d0, (f.cell (p := ⟨bb, o + i * 2 + 1, none⟩) hb).trans d1⟩
  have HK := Lib.hid hK; clear hK
  clear hT hs hr h1 h2 hc hr0 hn hr1 hr2 ht hsm
  go_enter Try.func71, Try.ntmps71
  go_upto_region 1 with (fail)
  go_region_held3 (fun w' => w'.cell? ⟨xs, 0, none⟩ = some (.pointer (some ⟨g, 0, none⟩)) ∧ w'.cell? ⟨g, 0, none⟩ = some (.slice (some ⟨bb, o, none⟩) n c) ∧ w'.cell? ⟨xr, 0, none⟩ = some (.int .i64 a) ∧ w'.cell? ⟨bb, o + i * 2, none⟩ = some (.int .i64 r1) ∧ w'.cell? ⟨bb, o + i * 2 + 1, none⟩ = some (.int .i64 r2)) (first | (with_reducible exact ⟨c0, c1, c2, d0, d1⟩) | (exact HK.out _ (Fine.refl w).drew) | (exact HK.out _ fA) | (exact HK.out _ ((Fine.refl w).drew.trans fA))) ((go_at_call 72; refine (to_any r1 r2 t HT.out.1 HT.out.2 _).mono ?_; rintro x wA ⟨rfl, fA⟩))
  all_goals go_wp2_with fail
  all_goals go_ret
  all_goals exact ⟨by rw [HE.out, HTE.out]; rfl, (Fine.refl w).drew.trans fA⟩
set_option maxHeartbeats 2000000 in
set_option maxRecDepth 20000 in
theorem add2_any (l : List Rn) (hT : Tidy l) (a b t : Int) (ht : a + b = t) (htb : -9223372036854775808 ≤ t ∧ t ≤ 9223372036854775807) (i : Nat) (hi : i < l.length) (g xs xr : Nat) (w : World) (hs : Blk w xs 24 #[.pointer (some ⟨g, 0, none⟩)]) (hr : Blk w xr 32 #[.int .i64 a, .int .i64 b]) (hg : SetR w g l) :
    Calls Try.prog 73 #[.int .i64 i, .pointer (some ⟨xs, 0, none⟩), .pointer (some ⟨xr, 0, none⟩)] w fun r w' => r = .returned (.bool (fromB l t i)) ∧ Fine w w' := by
  obtain ⟨A, c, h1, h2⟩ := hg
  obtain ⟨r, hr0⟩ : ∃ r, l[i]? = some r := ⟨_, List.getElem?_eq_getElem hi⟩
  have hsm := hT.ok r (List.mem_of_getElem? hr0)
  have HE : Hid (fromB l t i = decide (t < r.1)) := Lib.hid (by unfold fromB; rw [hr0])
  obtain ⟨bb, o, rfl, hb, hc⟩ := h2.at_ hr0
  have d0 := hc 0 (.int .i64 r.1) rfl
  have d1 := hc 1 (.int .i64 r.2) rfl
  simp only [← Nat.add_assoc, Nat.add_zero] at d0 d1
  obtain ⟨n, hn⟩ : ∃ n, l.length = n := ⟨_, rfl⟩
  rw [hn] at h1 hi
  have c0 : w.cell? ⟨xs, 0, none⟩ = some (.pointer (some ⟨g, 0, none⟩)) := hs.cell 0
  have c1 : w.cell? ⟨g, 0, none⟩ = some (.slice (some ⟨bb, o, none⟩) n c) := h1.cell 0
  have c2 : w.cell? ⟨xr, 0, none⟩ = some (.int .i64 a) := hr.cell 0
  have c3 : w.cell? ⟨xr, 1, none⟩ = some (.int .i64 b) := hr.cell 1
  obtain ⟨r1, hr1⟩ : ∃ x, r.1 = x := ⟨_, rfl⟩
  obtain ⟨r2, hr2⟩ : ∃ x, r.2 = x := ⟨_, rfl⟩
  have HTT := Lib.hid ht; have HTB := Lib.hid htb
  rw [hr1] at d0
  rw [hr2] at d1
  have HTE := Lib.hid hr1
  have hK : ∀ w', Fine w w' → w'.cell? ⟨xs, 0, none⟩ = some (.pointer (some ⟨g, 0, none⟩)) ∧ w'.cell? ⟨g, 0, none⟩ = some (.slice (some ⟨bb, o, none⟩) n c) ∧ w'.cell? ⟨xr, 0, none⟩ = some (.int .i64 a) ∧ w'.cell? ⟨xr, 1, none⟩ = some (.int .i64 b) ∧ w'.cell? ⟨bb, o + i * 2, none⟩ = some (.int .i64 r1) ∧ w'.cell? ⟨bb, o + i * 2 + 1, none⟩ = some (.int .i64 r2) := fun w' f => ⟨(hs.fine f).cell 0, (h1.fine f).cell 0, (hr.fine f).cell 0, (hr.fine f).cell 1, (f.cell (p := ⟨bb, o + i * 2, none⟩) hb).trans d0, (f.cell (p := ⟨bb, o + i * 2 + 1, none⟩) hb).trans d1⟩
  have HK := Lib.hid hK; clear hK
  clear hT hs hr h1 h2 hc hr0 hn hr1 hr2 ht htb hsm
  go_enter Try.func73, Try.ntmps73
  go_upto_region 1 with (fail)
  go_region_held3 (fun w' => w'.cell? ⟨xs, 0, none⟩ = some (.pointer (some ⟨g, 0, none⟩)) ∧ w'.cell? ⟨g, 0, none⟩ = some (.slice (some ⟨bb, o, none⟩) n c) ∧ w'.cell? ⟨xr, 0, none⟩ = some (.int .i64 a) ∧ w'.cell? ⟨xr, 1, none⟩ = some (.int .i64 b) ∧ w'.cell? ⟨bb, o + i * 2, none⟩ = some (.int .i64 r1) ∧ w'.cell? ⟨bb, o + i * 2 + 1, none⟩ = some (.int .i64 r2)) (first | (with_reducible exact ⟨c0, c1, c2, c3, d0, d1⟩) | (exact HK.out _ (Fine.refl w).drew) | (exact HK.out _ fA) | (exact HK.out _ ((Fine.refl w).drew.trans fA))) ((go_at_call 72; refine (to_any a b t HTT.out HTB.out _).mono ?_; rintro x wA ⟨rfl, fA⟩))
  all_goals go_wp2_with fail
  all_goals go_ret
  all_goals exact ⟨by rw [HE.out, HTE.out]; rfl, (Fine.refl w).drew.trans fA⟩
set_option maxHeartbeats 2000000 in
set_option maxRecDepth 20000 in
theorem run1_any (l : List Rn) (hT : Tidy l) (i : Nat) (hi : i < l.length) (g xs xr : Nat) (a : Int) (w : World) (hs : Blk w xs 24 #[.pointer (some ⟨g, 0, none⟩)]) (hr : Blk w xr 3 #[.int .i64 a]) (hg : SetR w g l) :
    Calls Try.prog 94 #[.int .i64 i, .pointer (some ⟨xs, 0, none⟩), .pointer (some ⟨xr, 0, none⟩)] w fun r w' => r = .returned (.bool (overB l a i)) ∧ Fine w w' := by
  obtain ⟨A, c, h1, h2⟩ := hg
  obtain ⟨r, hr0⟩ : ∃ r, l[i]? = some r := ⟨_, List.getElem?_eq_getElem hi⟩
  have hsm := hT.ok r (List.mem_of_getElem? hr0)
  have HE : Hid (overB l a i = decide (a < rto r)) := Lib.hid (by unfold overB; rw [hr0])
  obtain ⟨bb, o, rfl, hb, hc⟩ := h2.at_ hr0
  have d0 := hc 0 (.int .i64 r.1) rfl
  have d1 := hc 1 (.int .i64 r.2) rfl
  simp only [← Nat.add_assoc, Nat.add_zero] at d0 d1
  obtain ⟨n, hn⟩ : ∃ n, l.length = n := ⟨_, rfl⟩
  rw [hn] at h1 hi
  have c0 : w.cell? ⟨xs, 0, none⟩ = some (.pointer (some ⟨g, 0, none⟩)) := hs.cell 0
  have c1 : w.cell? ⟨g, 0, none⟩ = some (.slice (some ⟨bb, o, none⟩) n c) := h1.cell 0
  have c2 : w.cell? ⟨xr, 0, none⟩ = some (.int .i64 a) := hr.cell 0
  obtain ⟨r1, hr1⟩ : ∃ x, r.1 = x := ⟨_, rfl⟩
  obtain ⟨r2, hr2⟩ : ∃ x, r.2 = x := ⟨_, rfl⟩
  obtain ⟨t, ht⟩ : ∃ x, rto r = x := ⟨_, rfl⟩
  rw [hr1] at d0
  rw [hr2] at d1
  have HT : Hid (r1 + r2 = t ∧ -9223372036854775808 ≤ t ∧ t ≤ 9223372036854775807) := Lib.hid (by rw [← hr1, ← hr2, ← ht]; unfold rto at hsm ht ⊢; omega)
  have HTE := Lib.hid ht
  have hK : ∀ w', Fine w w' → w'.cell? ⟨xs, 0, none⟩ = some (.pointer (some ⟨g, 0, none⟩)) ∧ w'.cell? ⟨g, 0, none⟩ = some (.slice (some ⟨bb, o, none⟩) n c) ∧ w'.cell? ⟨xr, 0, none⟩ = some (.int .i64 a) ∧ w'.cell? ⟨bb, o + i * 2, none⟩ = some (.int .i64 r1) ∧ w'.cell? ⟨bb, o + i * 2 + 1, none⟩ = some (.int .i64 r2) := fun w' f => ⟨(hs.fine f).cell 0, (h1.fine f).cell 0, (hr.fine f).cell 0, (f.cell (p := ⟨bb, o + i * 2, none⟩) hb).trans d0, (f.cell (p := ⟨bb, o + i * 2 + 1, none⟩) hb).trans d1⟩
  have HK := Lib.hid hK; clear hK
  clear hT hs hr h1 h2 hc hr0 hn hr1 hr2 ht hsm
  go_enter Try.func94, Try.ntmps94
  go_upto_region 1 with (fail)
  go_region_held3 (fun w' => w'.cell? ⟨xs, 0, none⟩ = some (.pointer (some ⟨g, 0, none⟩)) ∧ w'.cell? ⟨g, 0, none⟩ = some (.slice (some ⟨bb, o, none⟩) n c) ∧ w'.cell? ⟨xr, 0, none⟩ = some (.int .i64 a) ∧ w'.cell? ⟨bb, o + i * 2, none⟩ = some (.int .i64 r1) ∧ w'.cell? ⟨bb, o + i * 2 + 1, none⟩ = some (.int .i64 r2)) (first | (with_reducible exact ⟨c0, c1, c2, d0, d1⟩) | (exact HK.out _ (Fine.refl w).drew) | (exact HK.out _ fA) | (exact HK.out _ ((Fine.refl w).drew.trans fA))) ((go_at_call 72; refine (to_any r1 r2 t HT.out.1 HT.out.2 _).mono ?_; rintro x wA ⟨rfl, fA⟩))
  all_goals go_wp2_with fail
  all_goals go_ret
  all_goals exact ⟨by rw [HE.out, HTE.out]; rfl, (Fine.refl w).drew.trans fA⟩
end Go.Proofs.Ytnigfdldfmiaiaa
