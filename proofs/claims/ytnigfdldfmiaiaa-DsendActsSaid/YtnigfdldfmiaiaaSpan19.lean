/- Contracts: Drop. -/
import Derived.Test.YtnigfdldfmiaiaaSpan18
import Derived.Deep.DeepCutAuto
import Derived.Test.YtnigfdldfmiaiaaQTail
import Derived.Deep.QuietTactic
import Derived.BigQuiet
namespace Go.Proofs.Ytnigfdldfmiaiaa
open Go.ChangeShapes Go.WideShapes Go.ChangeAt Go.RowKit
set_option linter.unusedVariables false
set_option linter.unusedSimpArgs false
/-- A region that reads and calls what only lays blocks, and then stores. -/
theorem wp_region_quiet_fine_tail {P : Program} {id : Nat} {Q : Exit → Act → World → Prop} {a : Act} {w : World} {l : List Oper} (n : Nat) (hm : P.follows .mixedOrders = true)
    (hB : (Region.lexB .any (l.take n).toArray && guardsB l n && backB (l.take n).toArray && decide (n < l.length) && Region.sinkB .any l.toArray n && Region.chainB .any l.toArray n && Region.seqB .any l.toArray (l.length - n) n ((Array.replicate n true) ++ (Array.replicate (l.length - n) false))) = true)
    (h : wpQuiet P (l.take n).toArray (fun w' => ∃ p : FineBy w, w' = p.W) (fun a' => ∀ w', (∃ p : FineBy w, w' = p.W) → wpList P l.toArray Q (l.drop n) a' w') (l.take n) a) : (Code.region id l.toArray true).wp P Q a w :=
  wp_region_quiet_tail n hm hB ⟨⟨w.drew, (Fine.refl w).drew⟩, rfl⟩ h
/-- What Drop answers. -/
def DropOf (base g : Nat) (v : Value) (l : List Rn) (b : Int) (w : World) (r : Ending) (w' : World) : Prop :=
  ∃ v', r = .returned (.int .i64 (total l - total (dropL l b))) ∧ SetA base w' g v' (dropL l b) ∧ Kept (fun k => k = g ∨ v.ownBlock = some k) w w' ∧ (v'.ownBlock = v.ownBlock ∨ ∀ k, v'.ownBlock = some k → w.heap.size ≤ k)
set_option maxHeartbeats 4000000 in
set_option maxRecDepth 20000 in
theorem drop_main (base g : Nat) (v : Value) (l : List Rn) (hT : Tidy l) (b : Int) (hb : -9223372036854775808 ≤ b ∧ b ≤ 9223372036854775807) (w : World) (hbw : base ≤ w.heap.size) (h : SetA base w g v l) :
    Calls Try.prog 22 #[.pointer (some ⟨g, 0, none⟩), .int .i64 b] w (DropOf base g v l b w) := by
  obtain ⟨xb, hxb⟩ : ∃ x, w.heap.size = x := ⟨_, rfl⟩
  have hw1 : Fine w (w.alloc (.cells #[.int .i64 b] 3)) := (Fine.refl w).alloc _
  have hbx := Blk.newAt (w := w) (t := 3) (cs := #[.int .i64 b]) hxb.symm
  have H := Lib.hid h; have HT := Lib.hid hT
  have hgx : g < xb := hxb ▸ h.lt
  have hvx : ∀ x, v.ownBlock = some x → x < xb := fun x hx => by
    obtain ⟨A, c, rfl, _, o, _⟩ := h
    exact hxb ▸ (o.lt x hx).2
  have HVX := Lib.hid hvx
  clear h hT hvx
  go_enter Try.func22, Try.ntmps22
  go_wp2_with fail
  generalize w.alloc (.cells #[.int .i64 b] 3) = w1 at hw1 hbx ⊢
  have HXB := Lib.hid hxb
  clear hxb
  refine (many_any g l HT.out w1 (H.out.fine hw1).set).mono ?_
  rintro x w2 ⟨rfl, f2⟩
  obtain ⟨was, hwas⟩ : ∃ t, total l = t := ⟨_, rfl⟩
  rw [hwas]
  have HW := Lib.hid hwas
  have F2 := Lib.hid (hw1.trans f2)
  have BX := Lib.hid (hbx.fine f2)
  clear hwas f2 hw1 hbx
  obtain ⟨A, c, hv, hbg, ho, hne⟩ := H.out.fine F2.out
  subst hv
  obtain ⟨n, hn⟩ : ∃ n, l.length = n := ⟨_, rfl⟩
  rw [hn] at hbg ho hne
  have c0 := hbg.cell1
  have c1 := hbg.frozen 0
  have HN := Lib.hid hn; have BG := Lib.hid hbg; have OW := Lib.hid ho; have HNE := Lib.hid hne
  have HOB : Hid (∀ k, (Value.slice A n c).ownBlock = some k → k < xb) := Lib.hid (fun k hk => HVX.out k (by rw [hn]; exact hk))
  have hnb : n ≤ 4294967296 := by have := HT.out.length_le; omega
  clear hn hbg ho hne
  go_wp2_with fail
  refine (delete_any base A n c l HN.out hnb HT.out b xb w2 (fun e => by have := HOB.out xb e; omega) BX.out OW.out).mono ?_
  rintro e w3 ⟨A', c', rfl, o3, k3, h3⟩
  obtain ⟨K, hK⟩ : ∃ K, keepB b l = K := ⟨_, rfl⟩
  rw [hK] at o3 ⊢
  obtain ⟨m, hm⟩ : ∃ m, K.length = m := ⟨_, rfl⟩
  rw [hK, hm] at h3
  rw [hm] at o3 ⊢
  have bg3 := BG.out.kept k3 (fun e => HNE.out e)
  have bx3 := BX.out.kept k3 (fun e => by have := HOB.out xb e; omega)
  have z0 := bg3.cell1
  have z1 := bg3.frozen 0
  have HK := Lib.hid hK; have HM := Lib.hid hm; have O3 := Lib.hid o3; have K3 := Lib.hid k3; have H3 := Lib.hid h3
  have BG3 := Lib.hid bg3; have BX3 := Lib.hid bx3
  clear hK hm o3 k3 h3 bg3 bx3 c0 c1
  go_upto_region 5 with fail
  have hng : ∀ k, (Value.slice A' m c').ownBlock = some k → k ≠ g := fun k hk e => by
    rcases H3.out with h | h
    · rw [h] at hk
      exact HNE.out (by rw [hk, e])
    · have h1 := h k hk
      have h2 := BG.out.lt
      omega
  have bg4 : Blk (w3.setCell ⟨g, 0, none⟩ (.slice A' m c')) g 97 #[.slice A' m c'] := BG3.out.set_ 0 (.slice A' m c')
  have bx4 := BX3.out.far (p := ⟨g, 0, none⟩) (by show xb ≠ g; omega) (.slice A' m c')
  have o4 := O3.out.kept (S := (· = g)) ((Kept.refl (· = g) w3).setIn (p := ⟨g, 0, none⟩) rfl (.slice A' m c')) hng
  have k4 : Kept (fun k => k = g ∨ (Value.slice A n c).ownBlock = some k) w (w3.setCell ⟨g, 0, none⟩ (.slice A' m c')) := ((Kept.of_fine F2.out).trans (K3.out.mono (fun x _ e => .inr e))).setIn (p := ⟨g, 0, none⟩) (.inl rfl) (.slice A' m c')
  have H4 : Hid ((Value.slice A' m c').ownBlock = (Value.slice A n c).ownBlock ∨ ∀ k, (Value.slice A' m c').ownBlock = some k → w.heap.size ≤ k) := Lib.hid (H3.out.imp id (fun h k hk => Nat.le_trans F2.out.size (h k hk)))
  generalize w3.setCell ⟨g, 0, none⟩ (.slice A' m c') = w4 at bg4 bx4 o4 k4 ⊢
  have y0 := bg4.cell1
  have BG4 := Lib.hid bg4; have BX4 := Lib.hid bx4; have O4 := Lib.hid o4; have K4 := Lib.hid k4; have NG := Lib.hid hng
  have HTK : Hid (Tidy K) := Lib.hid (HK.out ▸ keepB_tidy HT.out b)
  have ts : Hid ((0 ≤ was ∧ was ≤ 4294967296)) := Lib.hid (by rw [← HW.out]; exact ⟨total_nonneg HT.out, total_le HT.out⟩)
  clear bg4 bx4 o4 k4 hng z0 z1
  by_cases hm0 : m = 0
  · have hL : Hid (dropL l b = K) := Lib.hid (by
      have hnil : K = [] := List.eq_nil_of_length_eq_zero (HM.out.trans hm0)
      rw [dropL_keep, HK.out, hnil])
    have hg0 : ¬ (m : Int) > 0 := by omega
    have hg1 : ¬ 0 < m := by omega
    have hg2 : decide (0 < m) = false := by simp; omega
    clear hm0
    go_quiet (fail)
    go_wp2_with fail
    refine (many_any g K HTK.out _ ⟨A', c', (by rw [HM.out]; exact BG4.out.drewN _), (O4.out.fine ((Fine.refl w4).drewN _)).rs.1⟩).mono ?_
    rintro x w6 ⟨rfl, f6⟩
    obtain ⟨tot, htot⟩ : ∃ z, total K = z := ⟨_, rfl⟩
    have t1 := total_le HTK.out
    have t2 := total_nonneg HTK.out
    rw [htot] at t1 t2 ⊢
    have HTOT := Lib.hid htot
    have t3 := ts.out
    have e5 : IntKind.i64.wrap (was - tot) = was - tot := IntWalk.i64_in _ (by omega)
    have F6 := Lib.hid (((Fine.refl w4).drewN nq).trans f6)
    clear htot f6
    go_wp2_with fail
    go_ret
    exact ⟨.slice A' m c', by rw [hL.out, HTOT.out, HW.out]; rfl, by rw [hL.out]; exact ⟨A', c', by rw [HM.out], BG4.out.fine F6.out, O4.out.fine F6.out, fun e => NG.out g e rfl⟩, by rw [HN.out]; exact K4.out.trans (Kept.of_fine F6.out), by rw [HN.out]; exact H4.out⟩
  · obtain ⟨a, K', hKc⟩ : ∃ a K', K = a :: K' := by
      have h := HM.out
      cases K with
      | nil => exact absurd h.symm hm0
      | cons a K' => exact ⟨a, K', rfl⟩
    have hg0 : (m : Int) > 0 := by omega
    have hg1 : 0 < m := by omega
    have hg2 : decide (0 < m) = true := by simp; omega
    have h00 : K[0]? = some a := by rw [hKc]; rfl
    obtain ⟨bb, o, hA', _, hc⟩ := O4.out.rs.1.at_ h00
    subst hA'
    obtain ⟨a1, ha1⟩ : ∃ z, a.1 = z := ⟨_, rfl⟩
    obtain ⟨a2, ha2⟩ : ∃ z, a.2 = z := ⟨_, rfl⟩
    have x0 := hc 0 (.int .i64 a.1) rfl
    have x1 := hc 1 (.int .i64 a.2) rfl
    simp only [Nat.zero_mul, Nat.add_zero, Nat.zero_add] at x0 x1
    rw [ha1] at x0
    rw [ha2] at x1
    have xb0 := BX4.out.cell1
    have HKC := Lib.hid hKc
    have HA1 := Lib.hid ha1; have HA2 := Lib.hid ha2
    clear hc ha1 ha2 hKc h00 hm0
    by_cases hlt : a1 < b
    · have hlt2 : decide (a1 < b) = true := by simp; omega
      obtain ⟨g9, eg9, hg9⟩ := O4.out.head hg1
      injection eg9 with eg9
      injection eg9 with eg9 eo9 _
      subst eg9 eo9
      have hok := HTK.out.okAt (k := 0) (x := a) (by rw [HKC.out]; rfl)
      have hend := keepB_end (b := b) (l := l) (x := a) (by rw [HK.out, HKC.out]; simp)
      obtain ⟨s, hs⟩ : ∃ s, rto a = s := ⟨_, rfl⟩
      have hs2 : a1 + a2 = s := by rw [← hs, ← HA1.out, ← HA2.out]; rfl
      rw [hs] at hok hend
      rw [HA1.out] at hok
      have hsb : -9223372036854775808 ≤ s ∧ s ≤ 9223372036854775807 := by omega
      have e4 : IntKind.i64.wrap (s - b) = s - b := IntWalk.i64_in _ (by omega)
      clear hs
      go_quiet (fail)
      go_upto_region 6 with fail
      have FD := (Fine.refl w4).drewN nq
      have bg5 := BG4.out.fine FD
      have bx5 := BX4.out.fine FD
      have o5 := O4.out.fine FD
      have k5 := K4.out.trans (Kept.of_fine FD)
      have y0 := (FD.cell (lt_of_cellN x0)).trans x0
      have y1 := (FD.cell (lt_of_cellN x1)).trans x1
      generalize w4.drewN nq = w5 at bg5 bx5 o5 k5 y0 y1 ⊢
      have q0 : ∀ p : FineBy w5, p.W.cell? ⟨g, 0, none⟩ = some (.slice (some ⟨bb, 0, none⟩) m c') := fun p => (bg5.fine p.h).cell1
      have q1 : ∀ p : FineBy w5, p.W.cell? ⟨xb, 0, none⟩ = some (.int .i64 b) := fun p => (bx5.fine p.h).cell1
      have q2 : ∀ p : FineBy w5, p.W.cell? ⟨bb, 0, none⟩ = some (.int .i64 a1) := fun p => (p.h.cell (lt_of_cellN y0)).trans y0
      have q3 : ∀ p : FineBy w5, p.W.cell? ⟨bb, 1, none⟩ = some (.int .i64 a2) := fun p => (p.h.cell (lt_of_cellN y1)).trans y1
      have BG5 := Lib.hid bg5; have O5 := Lib.hid o5; have K5 := Lib.hid k5
      clear bg5 bx5 o5 k5 y0 y1 x0 x1 xb0 FD
      refine wp_region_quiet_fine_tail 16 (by kernel_rfl) (by kernel_rfl) ?_
      simp only [List.take_succ_cons, List.take_zero, List.drop_succ_cons, List.drop_zero]
      repeat (quiet_step (exact Calls.fine_of (to_any a1 a2 s hs2 hsb _)))
      refine wpQuiet_nil ?_
      intro wf hwf'
      have hwf := FineBy.of hwf'
      clear hwf'
      have bgf := BG5.out.fine hwf
      have of := O5.out.fine hwf
      have kf := K5.out.trans (Kept.of_fine hwf)
      have z0 := of.frozen 0
      have z1 := of.frozen 1
      have z2 : wf.cell? ⟨bb, 0, none⟩ = some (.int .i64 a1) := q2 ⟨wf, hwf⟩
      have z3 : wf.cell? ⟨bb, 1, none⟩ = some (.int .i64 a2) := q3 ⟨wf, hwf⟩
      have BGF := Lib.hid bgf; have OF := Lib.hid of; have KF := Lib.hid kf
      clear q0 q1 q2 q3 bgf of kf hwf
      go_upto_region 7 with fail
      have s1 := OF.out.stored (i := 0) (j := 0) (x := a) (y := (b, a2)) (by rw [HKC.out]; rfl) (by omega) (u := .int .i64 b) (by show [_, _] = [_, _]; rw [← HA2.out])
      have s2 := s1.stored (i := 0) (j := 1) (x := (b, a2)) (y := (b, s - b)) (by rw [HKC.out]; rfl) (by omega) (u := .int .i64 (s - b)) rfl
      have eL : (K.set 0 (b, a2)).set 0 (b, s - b) = (b, s - b) :: K' := by rw [HKC.out]; rfl
      rw [eL] at s2
      have hgb : g ≠ bb := fun e => NG.out bb rfl e.symm
      have bgz := (BGF.out.far (p := ⟨bb, 0, none⟩) hgb (.int .i64 b)).far (p := ⟨bb, 1, none⟩) hgb (.int .i64 (s - b))
      have hbbS : bb < w.heap.size → (bb = g ∨ (Value.slice A n c).ownBlock = some bb) := fun hlt => by
        rcases H4.out with h | h
        · exact .inr (h ▸ rfl)
        · have := h bb rfl
          omega
      have kz := (KF.out.setCell (p := ⟨bb, 0, none⟩) hbbS (.int .i64 b)).setCell (p := ⟨bb, 1, none⟩) hbbS (.int .i64 (s - b))
      have S2 : Hid (Own layR 32 ((wf.setCell ⟨bb, 0, none⟩ (.int .i64 b)).setCell ⟨bb, 1, none⟩ (.int .i64 (s - b))) base (.slice (some ⟨bb, 0, none⟩) m c') ((b, s - b) :: K')) := Lib.hid s2
      have BGZ : Hid (Blk ((wf.setCell ⟨bb, 0, none⟩ (.int .i64 b)).setCell ⟨bb, 1, none⟩ (.int .i64 (s - b))) g 97 #[.slice (some ⟨bb, 0, none⟩) m c']) := Lib.hid bgz
      have KZ := Lib.hid kz
      have hL : Hid (dropL l b = (b, s - b) :: K') := Lib.hid (by
        rw [dropL_keep, HK.out, HKC.out]
        show (if a.1 < b then _ else _) = _
        rw [if_pos (by rw [HA1.out]; exact hlt)]
        have : rto a = s := by unfold rto; rw [HA1.out, HA2.out]; exact hs2
        rw [this])
      have HTL : Hid (Tidy ((b, s - b) :: K')) := Lib.hid (hL.out ▸ (drop_law HT.out b).1)
      have HML : Hid (((b, s - b) :: K').length = m) := Lib.hid (by rw [← HM.out, HKC.out]; rfl)
      generalize (wf.setCell ⟨bb, 0, none⟩ (.int .i64 b)).setCell ⟨bb, 1, none⟩ (.int .i64 (s - b)) = wz at S2 BGZ KZ ⊢
      obtain ⟨LL, hLL⟩ : ∃ LL, (b, s - b) :: K' = LL := ⟨_, rfl⟩
      rw [hLL] at S2 hL HTL HML
      clear s1 s2 eL bgz kz z0 z1 z2 z3 hLL e4 y0
      go_wp2_with fail
      refine (many_any g LL HTL.out _ ⟨(some ⟨bb, 0, none⟩), c', (by rw [HML.out]; exact BGZ.out), S2.out.rs.1⟩).mono ?_
      rintro x w6 ⟨rfl, f6⟩
      obtain ⟨tot, htot⟩ : ∃ z, total LL = z := ⟨_, rfl⟩
      have t1 := total_le HTL.out
      have t2 := total_nonneg HTL.out
      rw [htot] at t1 t2 ⊢
      have HTOT := Lib.hid htot
      have t3 := ts.out
      have e5 : IntKind.i64.wrap (was - tot) = was - tot := IntWalk.i64_in _ (by omega)
      have F6 := Lib.hid f6
      clear htot f6
      go_wp2_with fail
      go_ret
      exact ⟨.slice (some ⟨bb, 0, none⟩) m c', by rw [hL.out, HTOT.out, HW.out]; rfl, by rw [hL.out]; exact ⟨(some ⟨bb, 0, none⟩), c', by rw [HML.out], BGZ.out.fine F6.out, S2.out.fine F6.out, fun e => NG.out g e rfl⟩, by rw [HN.out]; exact KZ.out.trans (Kept.of_fine F6.out), by rw [HN.out]; exact H4.out⟩
    · have hL : Hid (dropL l b = K) := Lib.hid (by
        rw [dropL_keep, HK.out, HKC.out]
        show (if a.1 < b then _ else _) = _
        rw [if_neg (by rw [HA1.out]; exact hlt)])
      have hlt2 : decide (a1 < b) = false := by simp; omega
      have hlt3 : b ≤ a1 := by omega
      clear hlt
      go_quiet (fail)
      go_wp2_with fail
      refine (many_any g K HTK.out _ ⟨(some ⟨bb, o, none⟩), c', (by rw [HM.out]; exact BG4.out.drewN _), (O4.out.fine ((Fine.refl w4).drewN _)).rs.1⟩).mono ?_
      rintro x w6 ⟨rfl, f6⟩
      obtain ⟨tot, htot⟩ : ∃ z, total K = z := ⟨_, rfl⟩
      have t1 := total_le HTK.out
      have t2 := total_nonneg HTK.out
      rw [htot] at t1 t2 ⊢
      have HTOT := Lib.hid htot
      have t3 := ts.out
      have e5 : IntKind.i64.wrap (was - tot) = was - tot := IntWalk.i64_in _ (by omega)
      have F6 := Lib.hid (((Fine.refl w4).drewN nq).trans f6)
      clear htot f6
      go_wp2_with fail
      go_ret
      exact ⟨.slice (some ⟨bb, o, none⟩) m c', by rw [hL.out, HTOT.out, HW.out]; rfl, by rw [hL.out]; exact ⟨(some ⟨bb, o, none⟩), c', by rw [HM.out], BG4.out.fine F6.out, O4.out.fine F6.out, fun e => NG.out g e rfl⟩, by rw [HN.out]; exact K4.out.trans (Kept.of_fine F6.out), by rw [HN.out]; exact H4.out⟩
end Go.Proofs.Ytnigfdldfmiaiaa
