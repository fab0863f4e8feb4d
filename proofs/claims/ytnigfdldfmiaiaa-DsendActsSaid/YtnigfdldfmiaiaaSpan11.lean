/- Contracts: Add. -/
import Derived.Test.YtnigfdldfmiaiaaSpan10
import Derived.Deep.DeepCutAuto
import Derived.Deep.RegionLaw
namespace Go.Proofs.Ytnigfdldfmiaiaa
open Go.ChangeShapes Go.WideShapes Go.ChangeAt Go.RowKit
set_option linter.unusedVariables false
set_option linter.unusedSimpArgs false
set_option maxHeartbeats 4000000 in
set_option maxRecDepth 20000 in
theorem add_main (base g : Nat) (v : Value) (l : List Rn) (hT : Tidy l) (f b a n : Int) (hf : -9223372036854775808 ≤ f ∧ f ≤ 9223372036854775807) (hb : -9223372036854775808 ≤ b ∧ b ≤ 9223372036854775807) (h0 : heldR f b = (a, n)) (ha : 0 ≤ a) (hn : 1 ≤ n) (hs : a + n ≤ 4294967296) (w : World) (hbw : base ≤ w.heap.size) (h : SetA base w g v l) :
    Calls Try.prog 20 #[.pointer (some ⟨g, 0, none⟩), .int .i64 f, .int .i64 b] w fun r w' => ∃ v' l', r = .returned (.int .i64 (total l' - total l)) ∧ Tidy l' ∧ (∀ m, inB l' m = (inB l m || hasR (a, n) m)) ∧ SetA base w' g v' l' ∧ Kept (fun k => k = g ∨ v.ownBlock = some k) w w' ∧ (v'.ownBlock = v.ownBlock ∨ ∀ k, v'.ownBlock = some k → w.heap.size ≤ k) := by
  obtain ⟨xs, hxs⟩ : ∃ x, w.heap.size = x := ⟨_, rfl⟩
  have hw1 : Fine w (w.alloc (.cells #[.pointer (some ⟨g, 0, none⟩)] 24)) := (Fine.refl w).alloc _
  have hbx := Blk.newAt (w := w) (t := 24) (cs := #[.pointer (some ⟨g, 0, none⟩)]) hxs.symm
  have H := Lib.hid h; have HT := Lib.hid hT
  have hgx : g < xs := hxs ▸ h.lt
  clear h hT
  go_enter Try.func20, Try.ntmps20
  go_wp2_with fail
  generalize w.alloc (.cells #[.pointer (some ⟨g, 0, none⟩)] 24) = w1 at hw1 hbx ⊢
  refine (held_any f b hf hb _).mono ?_
  rintro x w2 ⟨rfl, f2⟩
  rw [h0]
  have hb2 := hbx.fine f2
  have hw2 := hw1.trans f2
  obtain ⟨xr, hxr⟩ : ∃ x, w2.heap.size = x := ⟨_, rfl⟩
  have hxx : xs < xr := hxr ▸ hb2.lt
  go_upto_region 2 with fail
  have hw3 := (hw2.alloc (.cells #[.int .i64 a, .int .i64 n] 32))
  have c0 := (hb2.alloc (.cells #[.int .i64 a, .int .i64 n] 32))
  have hb4 : Blk (w2.alloc (.cells #[.int .i64 a, .int .i64 n] 32)) xr 32 #[.int .i64 a, .int .i64 n] := Blk.newAt hxr.symm
  generalize w2.alloc (.cells #[.int .i64 a, .int .i64 n] 32) = w3 at hw3 c0 hb4 ⊢
  have hS := H.out.fine hw3
  obtain ⟨A, c, hv, hbg, ho, hne⟩ := hS
  subst hv
  have BX := Lib.hid c0; have BR := Lib.hid hb4; have BG := Lib.hid hbg; have OW := Lib.hid ho; have F3 := Lib.hid hw3
  have c1 := hb4.cell 0
  have c2 := hb4.cell 1
  have d0 := hbg.cell1
  have c0 := c0.cell1
  clear hw2 hb2 f2 hxr hbx hw1 hb4 hbg ho hw3
  have HXS := Lib.hid hxs
  clear hxs
  obtain ⟨nl, hnl⟩ : ∃ nl, l.length = nl := ⟨_, rfl⟩
  rw [hnl] at d0
  go_wp2_with fail
  have hnlb : nl ≤ 4294967296 := by have := HT.out.length_le; omega
  have HSR : Hid (∀ w', Fine w3 w' → SetR w' g l) := Lib.hid (fun w' f => ⟨A, c, BG.out.fine f, OW.out.rs.1.fine f⟩)
  have HN := Lib.hid hnl
  have HNE := Lib.hid (hnl ▸ hne : (Value.slice A nl c).ownBlock ≠ some g)
  refine (many_any g l HT.out w3 (HSR.out w3 (Fine.refl _))).mono ?_
  rintro x w4 ⟨rfl, f4⟩
  obtain ⟨was, hwas⟩ : ∃ t, total l = t := ⟨_, rfl⟩
  rw [hwas]
  clear c0 d0
  have c0 := (BX.out.fine f4).cell1
  have d0 : w4.cell? ⟨g, 0, none⟩ = some (.slice A nl c) := (BG.out.fine f4).cell1.trans (by rw [HN.out])
  have HW := Lib.hid hwas
  have F4 := Lib.hid f4
  clear f4 c1 c2 hwas hnl
  go_wp2_with fail
  refine (search_any 71 (.inl rfl) _ _ nl hnlb (toB l a) w4 (fun i w' hi f => add1_any l HT.out i (by have := HN.out; omega) g xs xr a n w' (BX.out.fine (F4.out.trans f)) (BR.out.fine (F4.out.trans f)) (HSR.out w' (F4.out.trans f)))).mono ?_
  rintro x w5 ⟨i, rfl, fi, f5⟩
  have F5 := Lib.hid (F4.out.trans f5)
  have FI := Lib.hid (found_to HT.out HN.out fi)
  clear c0 d0 F4 f5 fi
  have c0 := (BX.out.fine F5.out).cell1
  have d0 : w5.cell? ⟨g, 0, none⟩ = some (.slice A nl c) := (BG.out.fine F5.out).cell1.trans (by rw [HN.out])
  go_wp2_with fail
  obtain ⟨t, ht⟩ : ∃ t, a + n = t := ⟨_, rfl⟩
  refine (search_any 73 (.inr (.inl rfl)) _ _ nl hnlb (fromB l t) w5 (fun i w' hi f => add2_any l HT.out a n t ht (by omega) i (by have := HN.out; omega) g xs xr w' (BX.out.fine (F5.out.trans f)) (BR.out.fine (F5.out.trans f)) (HSR.out w' (F5.out.trans f)))).mono ?_
  rintro x w6 ⟨j, rfl, fj, f6⟩
  have F6 := Lib.hid (F5.out.trans f6)
  have FJ := Lib.hid (found_from HT.out HN.out fj)
  clear c0 d0 F5 f6 fj
  have c0 := (BX.out.fine F6.out).cell1
  have d0 : w6.cell? ⟨g, 0, none⟩ = some (.slice A nl c) := (BG.out.fine F6.out).cell1.trans (by rw [HN.out])
  have AI := Lib.hid (add_idx HT.out (r := (a, n)) ha hn hs (by rw [HN.out]; exact FI.out.1) (by rw [HN.out]; exact FJ.out.1) FI.out.2.1 FI.out.2.2 (fun k x e h => by have h := FJ.out.2.1 k x e h; rw [← ht] at h; exact h) (fun k x e h => by have h := FJ.out.2.2 k x e h; rw [← ht] at h; exact h))
  have HOB : Hid (∀ k, (Value.slice A nl c).ownBlock = some k → k < w.heap.size) := Lib.hid (fun k hk => by
    obtain ⟨A0, c0', e0, _, o0, _⟩ := H.out
    exact (o0.lt k (by rw [HN.out]; exact hk)).2)
  by_cases hij : (i : Int) < (j : Int)
  · go_upto_region 8 with fail
    have hijn : i < j := by omega
    have hjn : j ≤ nl := FJ.out.1
    obtain ⟨j0, hj0⟩ : ∃ k, j = k + 1 := ⟨j - 1, by omega⟩
    obtain ⟨x, hx⟩ : ∃ x, l[i]? = some x := ⟨_, List.getElem?_eq_getElem (by have := HN.out; omega)⟩
    obtain ⟨y, hy⟩ : ∃ x, l[j0]? = some x := ⟨_, List.getElem?_eq_getElem (by have := HN.out; omega)⟩
    have HX := Lib.hid hx; have HY := Lib.hid hy
    have okx := HT.out.okAt hx
    have oky := HT.out.okAt hy
    obtain ⟨bb, o, hA, hb1, hc1⟩ := (OW.out.rs.1.fine F6.out).at_ hx
    obtain ⟨bb', o', hA', hb2, hc2⟩ := (OW.out.rs.1.fine F6.out).at_ hy
    rw [hA] at hA'
    injection hA' with hA'
    injection hA' with h1 h2 h3
    subst h1 h2
    clear h3
    have u0 := hc1 0 (.int .i64 x.1) rfl
    have v0 := hc2 0 (.int .i64 y.1) rfl
    have v1 := hc2 1 (.int .i64 y.2) rfl
    simp only [← Nat.add_assoc, Nat.add_zero] at u0 v0 v1
    obtain ⟨x1, hx1⟩ : ∃ z, x.1 = z := ⟨_, rfl⟩
    obtain ⟨y1, hy1⟩ : ∃ z, y.1 = z := ⟨_, rfl⟩
    obtain ⟨y2, hy2⟩ : ∃ z, y.2 = z := ⟨_, rfl⟩
    obtain ⟨ty, hty⟩ : ∃ z, rto y = z := ⟨_, rfl⟩
    have hty2 : y1 + y2 = ty := by rw [← hty, ← hy1, ← hy2]; rfl
    rw [hx1] at u0 okx
    rw [hy1] at v0 oky
    rw [hy2] at v1 oky
    rw [hty] at oky
    have r0 : w6.cell? ⟨xr, 0, none⟩ = some (.int .i64 a) := (BR.out.fine F6.out).cell 0
    have r1 : w6.cell? ⟨xr, 1, none⟩ = some (.int .i64 n) := (BR.out.fine F6.out).cell 1
    have q0 : ∀ p : FineBy w6, p.W.cell? ⟨xs, 0, none⟩ = some (.pointer (some ⟨g, 0, none⟩)) := fun p => (p.h.cell (lt_of_cellN c0)).trans c0
    have q1 : ∀ p : FineBy w6, p.W.cell? ⟨g, 0, none⟩ = some (.slice (some ⟨bb, o, none⟩) nl c) := fun p => (p.h.cell (lt_of_cellN d0)).trans (by rw [d0, hA])
    have q2 : ∀ p : FineBy w6, p.W.cell? ⟨xr, 0, none⟩ = some (.int .i64 a) := fun p => (p.h.cell (lt_of_cellN r0)).trans r0
    have q3 : ∀ p : FineBy w6, p.W.cell? ⟨xr, 1, none⟩ = some (.int .i64 n) := fun p => (p.h.cell (lt_of_cellN r1)).trans r1
    have q4 := fun p : FineBy w6 => (p.h.cell (lt_of_cellN u0)).trans u0
    have q5 := fun p : FineBy w6 => (p.h.cell (lt_of_cellN v0)).trans v0
    have q6 := fun p : FineBy w6 => (p.h.cell (lt_of_cellN v1)).trans v1
    have e1 : IntKind.i64.wrap ((j : Int) - 1) = (j0 : Int) := by rw [show (j : Int) - 1 = (j0 : Int) by omega]; exact IntWalk.i64_in _ (by omega)
    have e2 : (j : Int) - 1 = (j0 : Int) := by omega
    have e3 : IntKind.i64.wrap (j0 : Int) = (j0 : Int) := IntWalk.i64_in _ (by omega)
    have hj0n : j0 < nl := by omega
    have hin : i < nl := by omega
    clear c0 d0 u0 v0 v1 r0 r1 hc1 hc2 hb1 hb2 hx hy hj0
    refine wp_region_quiet_fine (by kernel_rfl) (by kernel_rfl) ?_
    repeat (quiet_step (first | exact Calls.fine_of (to_any a n t ht (by omega) _) | exact Calls.fine_of (to_any y1 y2 ty hty2 (by omega) _)))
    refine wpQuiet_nil ?_
    intro wf hwf'
    have hwf := FineBy.of hwf'
    clear hwf'
    obtain ⟨mf, hmf⟩ : ∃ z, (if x1 < a then x1 else a) = z := ⟨_, rfl⟩
    obtain ⟨mt, hmt⟩ : ∃ z, (if t < ty then ty else t) = z := ⟨_, rfl⟩
    obtain ⟨md, hmd⟩ : ∃ z, mt - mf = z := ⟨_, rfl⟩
    rw [hmf, hmt]
    have hmb : 0 ≤ md ∧ md ≤ 4294967296 := by
      have : 0 ≤ mf ∧ mf ≤ a := by rw [← hmf]; split <;> omega
      have : t ≤ mt ∧ mt ≤ 4294967296 := by rw [← hmt]; split <;> omega
      omega
    have e4 : IntKind.i64.wrap (mt - mf) = md := by rw [hmd]; exact IntWalk.i64_in _ (by omega)
    have BRf := BR.out.fine (F6.out.trans hwf)
    have z0 := BRf.frozen 0
    have z1 := BRf.frozen 1
    have z2 : wf.cell? ⟨xr, 0, none⟩ = some (.int .i64 a) := BRf.cell 0
    have z3 : wf.cell? ⟨xr, 1, none⟩ = some (.int .i64 n) := BRf.cell 1
    go_upto_region 10 with fail
    have hmf' : mf = min a x.1 := by rw [← hmf, hx1]; simp only [Int.min_def]; split <;> split <;> omega
    have hmt' : mt = max (rto (a, n)) (rto y) := by rw [← hmt, hty, show rto (a, n) = t from ht]; simp only [Int.max_def]; split <;> split <;> omega
    have hle : i ≤ j := by omega
    have hxg : xr ≠ g := by omega
    have kS : Kept (· = xr) wf ((wf.setCell ⟨xr, 0, none⟩ (.int .i64 mf)).setCell ⟨xr, 1, none⟩ (.int .i64 md)) := ((Kept.refl (· = xr) wf).setIn (p := ⟨xr, 0, none⟩) rfl _).setIn (p := ⟨xr, 1, none⟩) rfl _
    have BRk := (BRf.set_ 0 (.int .i64 mf)).set_ 1 (.int .i64 md)
    have FWk : Fine w ((wf.setCell ⟨xr, 0, none⟩ (.int .i64 mf)).setCell ⟨xr, 1, none⟩ (.int .i64 md)) := ((F3.out.trans (F6.out.trans hwf)).setCell (by show w.heap.size ≤ xr; have := HXS.out; omega) _).setCell (by show w.heap.size ≤ xr; have := HXS.out; omega) _
    have BXk := (BX.out.fine (F6.out.trans hwf)).kept kS (by omega)
    have BGk := (BG.out.fine (F6.out.trans hwf)).kept kS (fun e => hxg e.symm)
    have OWk := (OW.out.fine (F6.out.trans hwf)).kept kS (fun k hk e => by have := HOB.out k (by rw [← HN.out]; exact hk); have := HXS.out; omega)
    rw [HN.out] at BGk OWk
    generalize (wf.setCell ⟨xr, 0, none⟩ (.int .i64 mf)).setCell ⟨xr, 1, none⟩ (.int .i64 md) = wk at kS BRk FWk BXk BGk OWk ⊢
    clear q0 q1 q2 q3 q4 q5 q6 z0 z1 z2 z3 BRf kS
    have xsw : w.heap.size = xs := HXS.out
    have LW : Tidy (l.take i ++ (mf, md) :: l.drop j) ∧ ∀ m, inB (l.take i ++ (mf, md) :: l.drop j) m = (inB l m || hasR (a, n) m) := by have h := AI.out.2.2 x y mf mt hijn HX.out (by have := HY.out; rwa [show j - 1 = j0 by omega]) hmf' hmt'; rw [hmd] at h; exact h
    obtain ⟨L', hL'⟩ : ∃ L', l.take i ++ (mf, md) :: l.drop j = L' := ⟨_, rfl⟩
    rw [hL'] at LW
    have LW := Lib.hid LW
    obtain ⟨m', hm'⟩ : ∃ m', i + 1 + (nl - j) = m' := ⟨_, rfl⟩
    have hLl : L'.length = m' := by rw [← hL', ← hm', List.length_append, List.length_cons, List.length_take, List.length_drop, HN.out]; have := FI.out.1; omega
    obtain ⟨xq, hxq⟩ : ∃ x, wk.heap.size = x := ⟨_, rfl⟩
    have hsz : w.heap.size ≤ wk.heap.size := FWk.size
    have RP := Lib.hid (replace_any base A nl c l HN.out.symm (by have := HT.out.length_le; omega) i j hle FJ.out.1 (mf, md) xq ((wk.alloc (.cells #[.int .i64 mf, .int .i64 md] 32)).drew) (Nat.le_trans hbw (Nat.le_trans hsz ((Fine.refl wk).alloc _).drew.size)) ((Blk.newAt hxq.symm).drew) (fun e => by have := HOB.out xq e; omega) (OWk.alloc _).drew)
    rw [hL', hm'] at RP
    have cA : wk.drew.cell? ⟨xs, 0, none⟩ = some (.pointer (some ⟨g, 0, none⟩)) := BXk.drew.cell1
    have cB := ((BXk.alloc (.cells #[.int .i64 mf, .int .i64 md] 32)).drew).cell1
    have cC : wk.drew.cell? ⟨g, 0, none⟩ = some (.slice A nl c) := BGk.drew.cell1
    have cD := ((BGk.alloc (.cells #[.int .i64 mf, .int .i64 md] 32)).drew).cell1
    have cE : wk.drew.cell? ⟨xr, 0, none⟩ = some (.int .i64 mf) := BRk.drew.cell 0
    have cF : wk.drew.cell? ⟨xr, 1, none⟩ = some (.int .i64 md) := BRk.drew.cell 1
    have fA := BGk.drew.frozen 0
    have fB := ((BGk.alloc (.cells #[.int .i64 mf, .int .i64 md] 32)).drew).frozen 0
    have BXk := Lib.hid BXk; have BGk := Lib.hid BGk; have FWk := Lib.hid FWk
    have hgxs : g < wk.heap.size := BGk.out.lt
    clear BRk OWk hmf' hmt' hA e1 e2 e3 e4 okx oky hx1 hy1 hy2 hty hty2 hmf hmt hmd hmb hij
    go_region_law (go_simp; go_at_call 74; refine RP.out.mono ?_; rintro e w9 ⟨A9, c9, rfl, o9, k9, h9⟩; have K9 := Lib.hid k9; have O9 := Lib.hid o9; have H9 := Lib.hid h9; have B9 : Hid (Blk w9 xs 24 #[.pointer (some ⟨g, 0, none⟩)] ∧ Blk w9 g 97 #[.slice A nl c]) := Lib.hid ⟨(BXk.out.alloc _).drew.kept k9 (fun e => by have := HOB.out xs e; omega), (BGk.out.alloc _).drew.kept k9 (fun e => HNE.out e)⟩; have g0 := B9.out.1.cell1; have g1 := B9.out.2.cell1; have g2 := B9.out.2.frozen 0; clear k9 o9 h9)
    all_goals (
      have hgk : g < w.heap.size := by have := HXS.out; omega
      have hng9 : ∀ k, (Value.slice A9 m' c9).ownBlock = some k → k ≠ g := fun k hk e => by
        rcases H9.out with h | h
        · rw [h] at hk; exact HNE.out (by rw [hk, e])
        · have h1 := h k hk
          have h2 : wk.heap.size ≤ k := Nat.le_trans ((Fine.refl wk).alloc _).drew.size h1
          omega
      have bx := B9.out.1.far (by show xs ≠ g; omega) (.slice A9 m' c9) (p := ⟨g, 0, none⟩)
      have bg : Blk (w9.setCell ⟨g, 0, none⟩ (.slice A9 m' c9)) g 97 #[.slice A9 m' c9] := B9.out.2.set_ 0 (.slice A9 m' c9)
      have oo := O9.out.kept (S := (· = g)) ((Kept.refl (· = g) w9).setIn (p := ⟨g, 0, none⟩) rfl (.slice A9 m' c9)) hng9
      have kk : Kept (fun k => k = g ∨ (Value.slice A nl c).ownBlock = some k) w (w9.setCell ⟨g, 0, none⟩ (.slice A9 m' c9)) := ((Kept.of_fine (FWk.out.alloc _).drew).trans (K9.out.mono (fun x _ e => .inr e))).setIn (p := ⟨g, 0, none⟩) (.inl rfl) (.slice A9 m' c9)
      have H10 : Hid ((Value.slice A9 m' c9).ownBlock = (Value.slice A nl c).ownBlock ∨ ∀ k, (Value.slice A9 m' c9).ownBlock = some k → w.heap.size ≤ k) := Lib.hid (H9.out.imp id (fun h k hk => Nat.le_trans (Nat.le_trans hsz ((Fine.refl wk).alloc _).drew.size) (h k hk)))
      generalize w9.setCell ⟨g, 0, none⟩ (.slice A9 m' c9) = wz at bx bg oo kk ⊢
      have b0 := bx.cell1
      have OO := Lib.hid oo; have KK := Lib.hid kk; have BGZ := Lib.hid bg
      have HNG := Lib.hid hng9
      clear bx bg oo kk cA cB cC cD cE cF fA fB g0 g1 g2 hng9
      go_wp2_with fail
      refine (many_any g L' LW.out.1 wz ⟨A9, c9, hLl.symm ▸ BGZ.out, OO.out.rs.1⟩).mono ?_
      rintro x w11 ⟨rfl, f11⟩
      have t1 := total_le LW.out.1
      have t2 := total_nonneg LW.out.1
      have t3 := total_le HT.out
      have t4 := total_nonneg HT.out
      rw [HW.out] at t3 t4
      obtain ⟨tot, htot⟩ : ∃ z, total L' = z := ⟨_, rfl⟩
      have HTOT := Lib.hid htot
      rw [htot] at t1 t2
      rw [htot]
      have e5 : IntKind.i64.wrap (tot - was) = tot - was := IntWalk.i64_in _ (by omega)
      clear htot
      go_wp2_with fail
      go_ret
      exact ⟨.slice A9 m' c9, L', by rw [HTOT.out, HW.out]; rfl, LW.out.1, LW.out.2, ⟨A9, c9, by rw [hLl], BGZ.out.fine f11, OO.out.fine f11, fun e => HNG.out g e rfl⟩, by rw [HN.out]; exact KK.out.trans (Kept.of_fine f11), by rw [HN.out]; exact H10.out⟩)
  · have HEQ : Hid (i = j) := Lib.hid (by have := AI.out.1; omega)
    have hle : i ≤ j := AI.out.1
    go_upto_region 10 with fail
    have BRk := BR.out.fine F6.out
    have BXk := BX.out.fine F6.out
    have BGk := BG.out.fine F6.out
    have OWk := OW.out.fine F6.out
    have FWk := F3.out.trans F6.out
    rw [HN.out] at BGk OWk
    generalize w6 = wk at BRk BXk BGk OWk FWk ⊢
    have xsw : w.heap.size = xs := HXS.out
    have LW : Tidy (l.take i ++ (a, n) :: l.drop j) ∧ ∀ m, inB (l.take i ++ (a, n) :: l.drop j) m = (inB l m || hasR (a, n) m) := AI.out.2.1 HEQ.out
    obtain ⟨L', hL'⟩ : ∃ L', l.take i ++ (a, n) :: l.drop j = L' := ⟨_, rfl⟩
    rw [hL'] at LW
    have LW := Lib.hid LW
    obtain ⟨m', hm'⟩ : ∃ m', i + 1 + (nl - j) = m' := ⟨_, rfl⟩
    have hLl : L'.length = m' := by rw [← hL', ← hm', List.length_append, List.length_cons, List.length_take, List.length_drop, HN.out]; have := FI.out.1; omega
    obtain ⟨xq, hxq⟩ : ∃ x, wk.heap.size = x := ⟨_, rfl⟩
    have hsz : w.heap.size ≤ wk.heap.size := FWk.size
    have RP := Lib.hid (replace_any base A nl c l HN.out.symm (by have := HT.out.length_le; omega) i j hle FJ.out.1 (a, n) xq ((wk.alloc (.cells #[.int .i64 a, .int .i64 n] 32)).drew) (Nat.le_trans hbw (Nat.le_trans hsz ((Fine.refl wk).alloc _).drew.size)) ((Blk.newAt hxq.symm).drew) (fun e => by have := HOB.out xq e; omega) (OWk.alloc _).drew)
    rw [hL', hm'] at RP
    have cA : wk.drew.cell? ⟨xs, 0, none⟩ = some (.pointer (some ⟨g, 0, none⟩)) := BXk.drew.cell1
    have cB := ((BXk.alloc (.cells #[.int .i64 a, .int .i64 n] 32)).drew).cell1
    have cC : wk.drew.cell? ⟨g, 0, none⟩ = some (.slice A nl c) := BGk.drew.cell1
    have cD := ((BGk.alloc (.cells #[.int .i64 a, .int .i64 n] 32)).drew).cell1
    have cE : wk.drew.cell? ⟨xr, 0, none⟩ = some (.int .i64 a) := BRk.drew.cell 0
    have cF : wk.drew.cell? ⟨xr, 1, none⟩ = some (.int .i64 n) := BRk.drew.cell 1
    have fA := BGk.drew.frozen 0
    have fB := ((BGk.alloc (.cells #[.int .i64 a, .int .i64 n] 32)).drew).frozen 0
    have BXk := Lib.hid BXk; have BGk := Lib.hid BGk; have FWk := Lib.hid FWk
    have hgxs : g < wk.heap.size := BGk.out.lt
    clear BRk OWk hij
    go_region_law (go_simp; go_at_call 74; refine RP.out.mono ?_; rintro e w9 ⟨A9, c9, rfl, o9, k9, h9⟩; have K9 := Lib.hid k9; have O9 := Lib.hid o9; have H9 := Lib.hid h9; have B9 : Hid (Blk w9 xs 24 #[.pointer (some ⟨g, 0, none⟩)] ∧ Blk w9 g 97 #[.slice A nl c]) := Lib.hid ⟨(BXk.out.alloc _).drew.kept k9 (fun e => by have := HOB.out xs e; omega), (BGk.out.alloc _).drew.kept k9 (fun e => HNE.out e)⟩; have g0 := B9.out.1.cell1; have g1 := B9.out.2.cell1; have g2 := B9.out.2.frozen 0; clear k9 o9 h9)
    all_goals (
      have hgk : g < w.heap.size := by have := HXS.out; omega
      have hng9 : ∀ k, (Value.slice A9 m' c9).ownBlock = some k → k ≠ g := fun k hk e => by
        rcases H9.out with h | h
        · rw [h] at hk; exact HNE.out (by rw [hk, e])
        · have h1 := h k hk
          have h2 : wk.heap.size ≤ k := Nat.le_trans ((Fine.refl wk).alloc _).drew.size h1
          omega
      have bx := B9.out.1.far (by show xs ≠ g; omega) (.slice A9 m' c9) (p := ⟨g, 0, none⟩)
      have bg : Blk (w9.setCell ⟨g, 0, none⟩ (.slice A9 m' c9)) g 97 #[.slice A9 m' c9] := B9.out.2.set_ 0 (.slice A9 m' c9)
      have oo := O9.out.kept (S := (· = g)) ((Kept.refl (· = g) w9).setIn (p := ⟨g, 0, none⟩) rfl (.slice A9 m' c9)) hng9
      have kk : Kept (fun k => k = g ∨ (Value.slice A nl c).ownBlock = some k) w (w9.setCell ⟨g, 0, none⟩ (.slice A9 m' c9)) := ((Kept.of_fine (FWk.out.alloc _).drew).trans (K9.out.mono (fun x _ e => .inr e))).setIn (p := ⟨g, 0, none⟩) (.inl rfl) (.slice A9 m' c9)
      have H10 : Hid ((Value.slice A9 m' c9).ownBlock = (Value.slice A nl c).ownBlock ∨ ∀ k, (Value.slice A9 m' c9).ownBlock = some k → w.heap.size ≤ k) := Lib.hid (H9.out.imp id (fun h k hk => Nat.le_trans (Nat.le_trans hsz ((Fine.refl wk).alloc _).drew.size) (h k hk)))
      generalize w9.setCell ⟨g, 0, none⟩ (.slice A9 m' c9) = wz at bx bg oo kk ⊢
      have b0 := bx.cell1
      have OO := Lib.hid oo; have KK := Lib.hid kk; have BGZ := Lib.hid bg
      have HNG := Lib.hid hng9
      clear bx bg oo kk cA cB cC cD cE cF fA fB g0 g1 g2 hng9
      go_wp2_with fail
      refine (many_any g L' LW.out.1 wz ⟨A9, c9, hLl.symm ▸ BGZ.out, OO.out.rs.1⟩).mono ?_
      rintro x w11 ⟨rfl, f11⟩
      have t1 := total_le LW.out.1
      have t2 := total_nonneg LW.out.1
      have t3 := total_le HT.out
      have t4 := total_nonneg HT.out
      rw [HW.out] at t3 t4
      obtain ⟨tot, htot⟩ : ∃ z, total L' = z := ⟨_, rfl⟩
      have HTOT := Lib.hid htot
      rw [htot] at t1 t2
      rw [htot]
      have e5 : IntKind.i64.wrap (tot - was) = tot - was := IntWalk.i64_in _ (by omega)
      clear htot
      go_wp2_with fail
      go_ret
      exact ⟨.slice A9 m' c9, L', by rw [HTOT.out, HW.out]; rfl, LW.out.1, LW.out.2, ⟨A9, c9, by rw [hLl], BGZ.out.fine f11, OO.out.fine f11, fun e => HNG.out g e rfl⟩, by rw [HN.out]; exact KK.out.trans (Kept.of_fine f11), by rw [HN.out]; exact H10.out⟩)
end Go.Proofs.Ytnigfdldfmiaiaa
