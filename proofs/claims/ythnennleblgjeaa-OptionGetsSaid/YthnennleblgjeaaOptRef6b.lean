/- The laws of option: the document's Get (bad). (Printed by genrefget.py and splitrefget.py.) -/
import Derived.Test.YthnennleblgjeaaOptRef6
namespace Go.Proofs.Ythnennleblgjeaa
open Go.ChangeShapes Go.WideShapes Go.ChangeAt Go.RowKit
set_option linter.unusedVariables false
set_option linter.unusedSimpArgs false
attribute [local go_sem ↓ high] eq56b
set_option maxHeartbeats 4000000 in
set_option maxRecDepth 100000 in
theorem refGet_bad (A : Option Addr) (c : Nat) (xs : List Int) (hl : xs.length ≤ 10000000) (w : World) (h : BS w A c xs) (hne : xs ≠ []) (H0 : ¬ sizeK (num (xs.take 1)) = 0) (HSH : ¬ (xs.length : Int) < sizeK (num (xs.take 1))) (HRQ : refRightB (parseV (xs.take (sizeK (num (xs.take 1))).toNat)) = false) : Calls Try.prog 41 #[.slice A xs.length c] w (RGet xs w) := by
  have b2 : Blk (w.alloc (.cells #[.int .i64 0, .int .u64 0, .int .u64 0, .int .u32 0, .int .u32 0, .int .i64 0, .int .i64 0, .bool false, .bool false, .int .i64 0, .bool false, .int .i64 0, .int .i64 0, .bool false, .slice none 0 0, .int .i64 0] 68)) w.heap.size 68 #[.int .i64 0, .int .u64 0, .int .u64 0, .int .u32 0, .int .u32 0, .int .i64 0, .int .i64 0, .bool false, .bool false, .int .i64 0, .bool false, .int .i64 0, .int .i64 0, .bool false, .slice none 0 0, .int .i64 0] := Blk.new w 68 _
  have f1 : Fine w (w.alloc (.cells #[.int .i64 0, .int .u64 0, .int .u64 0, .int .u32 0, .int .u32 0, .int .i64 0, .int .i64 0, .bool false, .bool false, .int .i64 0, .bool false, .int .i64 0, .int .i64 0, .bool false, .slice none 0 0, .int .i64 0] 68)) := (Fine.refl w).alloc _
  have HB := Lib.hid h; clear h
  have hl0 : 0 < xs.length := List.length_pos_iff.2 hne
  obtain ⟨b, off, rfl, hb, _⟩ := HB.out.at_ (k := 0) hl0
  have hz0 : xs.getD 0 0 = num (xs.take 1) := by have := num_one (xs := xs) (i := 0) hl0; rw [List.drop_zero] at this; exact this.symm
  have ca : ∀ o, (w.alloc o).cell? ⟨b, off, none⟩ = some (.int .u8 (num (xs.take 1))) := fun o => by rw [← hz0]; exact (HB.out.fine ((Fine.refl w).alloc o)).cellAt 0 hl0
  have bk := HB.out.bytes.getD 0
  rw [hz0] at bk
  have hG : refGetR xs = refGetR xs := rfl
  conv at hG => rhs; unfold refGetR
  rw [if_neg hne] at hG
  have hpv := parseV_kind
  have hN : ¬ sizeK (num (xs.take 1)) = 0 → 1 ≤ num (xs.take 1) ∧ num (xs.take 1) ≤ 11 := fun hh => by
    by_cases h2 : num (xs.take 1) < 1 ∨ 11 < num (xs.take 1)
    · exact absurd (sizeK_out h2) hh
    · omega
  have hsz := fun hh => sizeK_width (hN hh)
  have HS := Lib.hid (fun w => size_any (num (xs.take 1)) w)
  obtain ⟨k, hk⟩ : ∃ k, num (xs.take 1) = k := ⟨_, rfl⟩
  have HKK := Lib.hid hk
  rw [hk] at ca bk hG hN hsz HS H0 HSH
  clear hk hz0
  have rk : IntKind.i64.wrap k = k := by rw [IntKind.wrap_i64]; omega
  obtain ⟨s, hs⟩ : ∃ s, sizeK k = s := ⟨_, rfl⟩
  rw [hs] at hG hN hsz HS H0 HSH
  have HSK := Lib.hid hs
  clear hs hpv
  have hl00 : ((xs.length : Int) == 0) = false := by simp; omega
  have hlc := HB.out.le
  go_enter Try.func41, Try.ntmps41
  go_wp2_with fail
  obtain ⟨x2, hx2⟩ : ∃ x2, w.heap.size = x2 := ⟨_, rfl⟩
  generalize (w.alloc (.cells #[.int .i64 0, .int .u64 0, .int .u64 0, .int .u32 0, .int .u32 0, .int .i64 0, .int .i64 0, .bool false, .bool false, .int .i64 0, .bool false, .int .i64 0, .int .i64 0, .bool false, .slice none 0 0, .int .i64 0] 68)) = w1 at b2 f1 ⊢
  rw [hx2] at b2 ⊢
  have hwx : w.heap.size ≤ x2 := Nat.le_of_eq hx2
  clear hx2 ca
  have B2 := Lib.hid b2; clear b2
  refine (HS.out w1).mono ?_
  rintro x w2 ⟨rfl, f2⟩
  have f02 := f1.trans f2
  have D2 := Lib.hid (B2.out.fine f2)
  clear f1 f2 B2 HS
  have h0 : ¬ s = 0 := H0
  have hsh : ¬ (xs.length : Int) < s := by omega
  clear H0 HSH
  rw [if_neg h0] at hG
  rw [if_neg hsh] at hG
  have hk11 := hN h0
  have hsw := hsz h0
  obtain ⟨n, hn⟩ : ∃ n, s.toNat = n := ⟨_, rfl⟩
  have hsn : s = (n : Int) := by omega
  rw [hn] at hG
  have HN0 : Hid ((sizeK (num (xs.take 1))).toNat = n) := Lib.hid (by rw [HKK.out, HSK.out, hn])
  subst hsn
  have hnx : n ≤ xs.length := by omega
  have hn1 : 1 ≤ n := by omega
  have hT1 : (xs.take n).take 1 = xs.take 1 := by rw [List.take_take, show min 1 n = 1 by omega]
  have hTne : xs.take n ≠ [] := by
    intro hh
    have := congrArg List.length hh
    rw [List.length_take, List.length_nil] at this
    omega
  have hV := parseV_ok (HB.out.bytes.take n) hTne
  have HTL : Hid (n = (xs.take n).length) := Lib.hid (by rw [List.length_take]; omega)
  have HT : Hid (∀ w', Fine w w' → BS w' (some ⟨b, off, none⟩) c (xs.take n)) := Lib.hid (fun w' f => (HB.out.fine f).front n hnx)
  have R1 := HB.out.run_front n hnx
  have hPP : (∀ w', BS w' (some ⟨b, off, none⟩) c (xs.take n) → Calls Try.prog 53 #[.slice (some ⟨b, off, none⟩) n c] w' (ParseOf (xs.take n) w')) := fun w' hb' => by
    have := parse_any (some ⟨b, off, none⟩) c (xs.take n) w' hb' (by rw [hT1, HKK.out]; exact hk11) (by rw [hT1, HKK.out, HSK.out, ← HTL.out])
    rwa [← HTL.out] at this
  have HP := Lib.hid hPP
  obtain ⟨AD, hR2, hBD⟩ := HB.out.run_behind n hnx
  have HBS : Hid (∀ w', Fine w w' → BS w' AD (c - n) (xs.drop n)) := Lib.hid (fun w' f => hBD w' (HB.out.fine f))
  unfold ParseOf at HP
  obtain ⟨V, hVV⟩ : ∃ V, parseV (xs.take n) = V := ⟨_, rfl⟩
  rw [HN0.out] at HRQ
  rw [hVV] at hG hV HP HRQ
  have HV := Lib.hid hV
  obtain ⟨q, hq⟩ : ∃ q, decide (optB V = xs.take n) = q := ⟨_, rfl⟩
  have hr := HRQ
  rw [hr, hq] at hG
  have HR := Lib.hid hr
  have HQ := Lib.hid hq
  have HG := Lib.hid hG
  have h0' : ((n : Int) == 0) = false := by simp; omega
  have hlt' : ¬ (xs.length : Int) < (n : Int) := hsh
  clear hG hN hsz hV hVV hr hq hk11 hsw hT1 hTne hPP hBD hn HKK HSK
  go_wp2_with fail
  refine (HP.out w2 (HT.out w2 f02)).mono ?_
  rintro x w3 ⟨rfl, f3⟩
  go_wp2_with fail
  have E4 : Blk (w3.alloc (.cells #[.int .i64 (V 0), .int .u64 (V 1), .int .u64 (V 2), .int .u32 (V 3), .int .u32 (V 4), .int .i64 (V 5), .int .i64 (V 6), .bool (decide (V 7 = 1)), .bool (decide (V 8 = 1)), .int .i64 (V 9), .bool (decide (V 10 = 1)), .int .i64 (V 11), .int .i64 (V 12), .bool (decide (V 13 = 1))] 56)) w3.heap.size 56 (optL V).toArray := Blk.new w3 56 _
  have F4 : Fine w (w3.alloc (.cells #[.int .i64 (V 0), .int .u64 (V 1), .int .u64 (V 2), .int .u32 (V 3), .int .u32 (V 4), .int .i64 (V 5), .int .i64 (V 6), .bool (decide (V 7 = 1)), .bool (decide (V 8 = 1)), .int .i64 (V 9), .bool (decide (V 10 = 1)), .int .i64 (V 11), .int .i64 (V 12), .bool (decide (V 13 = 1))] 56)) := (f02.trans f3).alloc _
  have D4 : Blk (w3.alloc (.cells #[.int .i64 (V 0), .int .u64 (V 1), .int .u64 (V 2), .int .u32 (V 3), .int .u32 (V 4), .int .i64 (V 5), .int .i64 (V 6), .bool (decide (V 7 = 1)), .bool (decide (V 8 = 1)), .int .i64 (V 9), .bool (decide (V 10 = 1)), .int .i64 (V 11), .int .i64 (V 12), .bool (decide (V 13 = 1))] 56)) x2 68 #[.int .i64 0, .int .u64 0, .int .u64 0, .int .u32 0, .int .u32 0, .int .i64 0, .int .i64 0, .bool false, .bool false, .int .i64 0, .bool false, .int .i64 0, .int .i64 0, .bool false, .slice none 0 0, .int .i64 0] := (D2.out.fine f3).alloc _
  obtain ⟨x4, hx4⟩ : ∃ x4, w3.heap.size = x4 := ⟨_, rfl⟩
  generalize (w3.alloc (.cells #[.int .i64 (V 0), .int .u64 (V 1), .int .u64 (V 2), .int .u32 (V 3), .int .u32 (V 4), .int .i64 (V 5), .int .i64 (V 6), .bool (decide (V 7 = 1)), .bool (decide (V 8 = 1)), .int .i64 (V 9), .bool (decide (V 10 = 1)), .int .i64 (V 11), .int .i64 (V 12), .bool (decide (V 13 = 1))] 56)) = w4 at E4 F4 D4 ⊢
  rw [hx4] at E4 ⊢
  have G4 := Lib.hid E4; clear E4
  have K4 := Lib.hid D4; clear D4
  have hx24 : x4 ≠ x2 := G4.out.ne_ K4.out (by decide)
  clear hx4
  have HK : Hid (∀ w', Fine w4 w' → (fun w' => w'.cell? ⟨x4, 0, none⟩ = some (.int .i64 (V 0)) ∧ w'.cell? ⟨x4, 1, none⟩ = some (.int .u64 (V 1)) ∧ w'.cell? ⟨x4, 2, none⟩ = some (.int .u64 (V 2)) ∧ w'.cell? ⟨x4, 3, none⟩ = some (.int .u32 (V 3)) ∧ w'.cell? ⟨x4, 4, none⟩ = some (.int .u32 (V 4)) ∧ w'.cell? ⟨x4, 5, none⟩ = some (.int .i64 (V 5)) ∧ w'.cell? ⟨x4, 6, none⟩ = some (.int .i64 (V 6)) ∧ w'.cell? ⟨x4, 7, none⟩ = some (.bool (decide (V 7 = 1))) ∧ w'.cell? ⟨x4, 8, none⟩ = some (.bool (decide (V 8 = 1))) ∧ w'.cell? ⟨x4, 9, none⟩ = some (.int .i64 (V 9)) ∧ w'.cell? ⟨x4, 10, none⟩ = some (.bool (decide (V 10 = 1))) ∧ w'.cell? ⟨x4, 11, none⟩ = some (.int .i64 (V 11)) ∧ w'.cell? ⟨x4, 12, none⟩ = some (.int .i64 (V 12)) ∧ w'.cell? ⟨x4, 13, none⟩ = some (.bool (decide (V 13 = 1)))) w') := Lib.hid (fun w' hk => by
    have b := G4.out.fine hk
    exact ⟨b.cell 0, b.cell 1, b.cell 2, b.cell 3, b.cell 4, b.cell 5, b.cell 6, b.cell 7, b.cell 8, b.cell 9, b.cell 10, b.cell 11, b.cell 12, b.cell 13⟩)
  have HG2 : Hid (refGetR xs = (zeroV, [], 4)) := Lib.hid (by rw [HG.out]; simp)
  go_cut [37] (fun s37 wx => s37 = .bool true ∧ Fine w4 wx)
  case first =>
    refine wp_region_noPanic ?_
    refine wp_region_held_drew (S := fun w' => w'.cell? ⟨x4, 0, none⟩ = some (.int .i64 (V 0)) ∧ w'.cell? ⟨x4, 1, none⟩ = some (.int .u64 (V 1)) ∧ w'.cell? ⟨x4, 2, none⟩ = some (.int .u64 (V 2)) ∧ w'.cell? ⟨x4, 3, none⟩ = some (.int .u32 (V 3)) ∧ w'.cell? ⟨x4, 4, none⟩ = some (.int .u32 (V 4)) ∧ w'.cell? ⟨x4, 5, none⟩ = some (.int .i64 (V 5)) ∧ w'.cell? ⟨x4, 6, none⟩ = some (.int .i64 (V 6)) ∧ w'.cell? ⟨x4, 7, none⟩ = some (.bool (decide (V 7 = 1))) ∧ w'.cell? ⟨x4, 8, none⟩ = some (.bool (decide (V 8 = 1))) ∧ w'.cell? ⟨x4, 9, none⟩ = some (.int .i64 (V 9)) ∧ w'.cell? ⟨x4, 10, none⟩ = some (.bool (decide (V 10 = 1))) ∧ w'.cell? ⟨x4, 11, none⟩ = some (.int .i64 (V 11)) ∧ w'.cell? ⟨x4, 12, none⟩ = some (.int .i64 (V 12)) ∧ w'.cell? ⟨x4, 13, none⟩ = some (.bool (decide (V 13 = 1)))) (by kernel_rfl) (HK.out _ (Fine.refl w4).drew) (fun hHeld => ?_)
    refine wpAnyH_take (i := 0) (v := .agg (optL V).toArray) rfl (by kernel_rfl) (by kernel_rfl) (by kernel_rfl) (fun _ _ _ h => h) (Or.inl ⟨by rfl, ?_⟩) hHeld ?_
    · intro w' hSw
      (try dsimp only at hSw)
      go_simp
    (try simp only [Act.put, List.setIfInBounds_toArray, List.set_cons_zero, List.set_cons_succ])
    refine wpAnyH_ready (rs := [1]) (by kernel_rfl) (by simp) ?_
    refine AllReadyH.cons rfl (fun K hK => ?_) AllReadyH.nil
    go_simp
    refine (refRight_any V HV.out _).mono ?_
    rintro x wA ⟨rfl, fA⟩
    rw [HR.out]
    refine hK.out _ _ (HK.out _ ((Fine.refl w4).drew.trans fA)) (fun hHeld2 => ?_)
    clear hK K hHeld
    (try simp only [Act.put, List.setIfInBounds_toArray, List.set_cons_zero, List.set_cons_succ])
    refine wpAnyH_take (i := 2) (v := .bool true) rfl (by kernel_rfl) (by kernel_rfl) (by kernel_rfl) (fun _ _ _ h => h) (Or.inl ⟨by rfl, fun w' hSw => (by go_simp)⟩) hHeld2 ?_
    (try simp only [Act.put, List.setIfInBounds_toArray, List.set_cons_zero, List.set_cons_succ])
    refine wpAnyH_take (i := 3) (v := .bool true) rfl (by kernel_rfl) (by kernel_rfl) (by kernel_rfl) (fun _ _ _ h => h) (Or.inl ⟨by rfl, fun w' hSw => (by go_simp)⟩) hHeld2 ?_
    (try simp only [Act.put, List.setIfInBounds_toArray, List.set_cons_zero, List.set_cons_succ])
    refine wpAnyH_take (i := 4) (v := undef) rfl (by kernel_rfl) (by kernel_rfl) (by kernel_rfl) (fun _ _ _ h => h) (Or.inr ⟨by rfl, rfl⟩) hHeld2 ?_
    (try simp only [Act.put, List.setIfInBounds_toArray, List.set_cons_zero, List.set_cons_succ])
    refine wpAnyH_take (i := 5) (v := undef) rfl (by kernel_rfl) (by kernel_rfl) (by kernel_rfl) (fun _ _ _ h => h) (Or.inr ⟨by rfl, rfl⟩) hHeld2 ?_
    (try simp only [Act.put, List.setIfInBounds_toArray, List.set_cons_zero, List.set_cons_succ])
    refine wpAnyH_take (i := 6) (v := undef) rfl (by kernel_rfl) (by kernel_rfl) (by kernel_rfl) (fun _ _ _ h => h) (Or.inr ⟨by rfl, rfl⟩) hHeld2 ?_
    (try simp only [Act.put, List.setIfInBounds_toArray, List.set_cons_zero, List.set_cons_succ])
    refine wpAnyH_take (i := 7) (v := undef) rfl (by kernel_rfl) (by kernel_rfl) (by kernel_rfl) (fun _ _ _ h => h) (Or.inr ⟨by rfl, rfl⟩) hHeld2 ?_
    (try simp only [Act.put, List.setIfInBounds_toArray, List.set_cons_zero, List.set_cons_succ])
    refine wpAnyH_take (i := 8) (v := undef) rfl (by kernel_rfl) (by kernel_rfl) (by kernel_rfl) (fun _ _ _ h => h) (Or.inr ⟨by rfl, rfl⟩) hHeld2 ?_
    (try simp only [Act.put, List.setIfInBounds_toArray, List.set_cons_zero, List.set_cons_succ])
    refine wpAnyH_take (i := 9) (v := undef) rfl (by kernel_rfl) (by kernel_rfl) (by kernel_rfl) (fun _ _ _ h => h) (Or.inr ⟨by rfl, rfl⟩) hHeld2 ?_
    (try simp only [Act.put, List.setIfInBounds_toArray, List.set_cons_zero, List.set_cons_succ])
    refine wpAnyH_take (i := 10) (v := undef) rfl (by kernel_rfl) (by kernel_rfl) (by kernel_rfl) (fun _ _ _ h => h) (Or.inr ⟨by rfl, rfl⟩) hHeld2 ?_
    (try simp only [Act.put, List.setIfInBounds_toArray, List.set_cons_zero, List.set_cons_succ])
    refine wpAnyH_take (i := 11) (v := .bool true) rfl (by kernel_rfl) (by kernel_rfl) (by kernel_rfl) (fun _ _ _ h => h) (Or.inl ⟨by rfl, fun w' hSw => (by go_simp)⟩) hHeld2 ?_
    (try simp only [Act.put, List.setIfInBounds_toArray, List.set_cons_zero, List.set_cons_succ])
    refine wpAnyH_done (by kernel_rfl) (NoPanic.normal ?_) _
    go_wp2_with fail
    go_meet
    exact ⟨rfl, (Fine.refl w4).drew.trans fA⟩
  case rest =>
  obtain ⟨rfl, fA⟩ := hcut
  have FA := F4.trans fA
  have DA := Lib.hid (K4.out.fine fA)
  have z0 : wc.cell? ⟨x2, 0, none⟩ = some (.int .i64 0) := DA.out.cell 0
  have z1 : wc.cell? ⟨x2, 1, none⟩ = some (.int .u64 0) := DA.out.cell 1
  have z2 : wc.cell? ⟨x2, 2, none⟩ = some (.int .u64 0) := DA.out.cell 2
  have z3 : wc.cell? ⟨x2, 3, none⟩ = some (.int .u32 0) := DA.out.cell 3
  have z4 : wc.cell? ⟨x2, 4, none⟩ = some (.int .u32 0) := DA.out.cell 4
  have z5 : wc.cell? ⟨x2, 5, none⟩ = some (.int .i64 0) := DA.out.cell 5
  have z6 : wc.cell? ⟨x2, 6, none⟩ = some (.int .i64 0) := DA.out.cell 6
  have z7 : wc.cell? ⟨x2, 7, none⟩ = some (.bool false) := DA.out.cell 7
  have z8 : wc.cell? ⟨x2, 8, none⟩ = some (.bool false) := DA.out.cell 8
  have z9 : wc.cell? ⟨x2, 9, none⟩ = some (.int .i64 0) := DA.out.cell 9
  have z10 : wc.cell? ⟨x2, 10, none⟩ = some (.bool false) := DA.out.cell 10
  have z11 : wc.cell? ⟨x2, 11, none⟩ = some (.int .i64 0) := DA.out.cell 11
  have z12 : wc.cell? ⟨x2, 12, none⟩ = some (.int .i64 0) := DA.out.cell 12
  have z13 : wc.cell? ⟨x2, 13, none⟩ = some (.bool false) := DA.out.cell 13
  have z14 : wc.cell? ⟨x2, 14, none⟩ = some (.slice none 0 0) := DA.out.cell 14
  have z15 : wc.cell? ⟨x2, 15, none⟩ = some (.int .i64 0) := DA.out.cell 15
  have y0 : wc.frozen? ⟨x2, 0, none⟩ = false := DA.out.frozen 0
  have y1 : wc.frozen? ⟨x2, 1, none⟩ = false := DA.out.frozen 1
  have y2 : wc.frozen? ⟨x2, 2, none⟩ = false := DA.out.frozen 2
  have y3 : wc.frozen? ⟨x2, 3, none⟩ = false := DA.out.frozen 3
  have y4 : wc.frozen? ⟨x2, 4, none⟩ = false := DA.out.frozen 4
  have y5 : wc.frozen? ⟨x2, 5, none⟩ = false := DA.out.frozen 5
  have y6 : wc.frozen? ⟨x2, 6, none⟩ = false := DA.out.frozen 6
  have y7 : wc.frozen? ⟨x2, 7, none⟩ = false := DA.out.frozen 7
  have y8 : wc.frozen? ⟨x2, 8, none⟩ = false := DA.out.frozen 8
  have y9 : wc.frozen? ⟨x2, 9, none⟩ = false := DA.out.frozen 9
  have y10 : wc.frozen? ⟨x2, 10, none⟩ = false := DA.out.frozen 10
  have y11 : wc.frozen? ⟨x2, 11, none⟩ = false := DA.out.frozen 11
  have y12 : wc.frozen? ⟨x2, 12, none⟩ = false := DA.out.frozen 12
  have y13 : wc.frozen? ⟨x2, 13, none⟩ = false := DA.out.frozen 13
  have y14 : wc.frozen? ⟨x2, 14, none⟩ = false := DA.out.frozen 14
  have y15 : wc.frozen? ⟨x2, 15, none⟩ = false := DA.out.frozen 15
  go_wp2_with fail
  exact bodyPost_ret (v := .agg #[.int .i64 0, .int .u64 0, .int .u64 0, .int .u32 0, .int .u32 0, .int .i64 0, .int .i64 0, .bool false, .bool false, .int .i64 0, .bool false, .int .i64 0, .int .i64 0, .bool false, .slice none 0 0, .int .i64 4]) (by simp [results, Try.results41, go_sem, z0, z1, z2, z3, z4, z5, z6, z7, z8, z9, z10, z11, z12, z13, z14, z15]) rfl (RGet.mk none 0 HG2.out rfl (BS.nil_ _) ((((((((((((((((FA.setCell hwx _).setCell hwx _).setCell hwx _).setCell hwx _).setCell hwx _).setCell hwx _).setCell hwx _).setCell hwx _).setCell hwx _).setCell hwx _).setCell hwx _).setCell hwx _).setCell hwx _).setCell hwx _).setCell hwx _).setCell hwx _))
end Go.Proofs.Ythnennleblgjeaa
