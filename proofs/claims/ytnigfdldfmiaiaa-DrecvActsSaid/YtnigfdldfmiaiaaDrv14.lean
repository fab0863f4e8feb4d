/- The document's receiver: Put. -/
import Derived.Test.YtnigfdldfmiaiaaDrv13
namespace Go.Proofs.Ytnigfdldfmiaiaa
open Go.ChangeShapes Go.WideShapes Go.ChangeAt Go.RowKit Go.Maps
set_option linter.unusedVariables false
set_option linter.unusedSimpArgs false
section
variable {In : Int → Bool} {B : Int → Int} {rd nx e dsn : Int} {bs : List Int} {i : Nat}
theorem prI_zero : prI In rd nx e dsn 0 = In := funext fun m => by
  unfold prI
  rw [show (decide (dsn ≤ m) && decide (m < dsn + ((0 : Nat) : Int))) = false by simp]
  simp
theorem prV_zero : prV In rd nx e dsn bs 0 B = B := funext fun m => by
  unfold prV
  rw [show (decide (dsn ≤ m) && decide (m < dsn + ((0 : Nat) : Int))) = false by simp]
  simp
theorem prI_skip (h : tkB In rd nx e (dsn + i) = false) : prI In rd nx e dsn (i + 1) = prI In rd nx e dsn i := funext fun m => by
  unfold prI
  rw [pr_rng]
  by_cases hm : m = dsn + i
  · subst hm
    rw [h]; simp
  · rw [decide_eq_false hm, Bool.or_false]
theorem prV_skip (h : tkB In rd nx e (dsn + i) = false) : prV In rd nx e dsn bs (i + 1) B = prV In rd nx e dsn bs i B := funext fun m => by
  unfold prV
  rw [pr_rng]
  by_cases hm : m = dsn + i
  · subst hm
    rw [h]; simp
  · rw [decide_eq_false hm, Bool.or_false]
theorem pr_here : prI In rd nx e dsn i (dsn + i) = In (dsn + i) := by
  unfold prI
  rw [show decide (dsn + (i : Int) < dsn + (i : Int)) = false by simp]
  simp
theorem pr_take (h : tkB In rd nx e (dsn + i) = true) : prI In rd nx e dsn (i + 1) (dsn + i) = true ∧ prV In rd nx e dsn bs (i + 1) B (dsn + i) = bs.getD i 0 := by
  unfold prI prV
  rw [pr_rng, h]
  simp [show (dsn + (i : Int) - dsn).toNat = i by omega]
theorem pr_far {m : Int} (h : m ≠ dsn + i) : prI In rd nx e dsn (i + 1) m = prI In rd nx e dsn i m ∧ prV In rd nx e dsn bs (i + 1) B m = prV In rd nx e dsn bs i B m := by
  unfold prI prV
  rw [pr_rng, decide_eq_false h, Bool.or_false]
  exact ⟨rfl, rfl⟩
theorem prI_le {k : Int} (h : ∀ n, In n = true → n ≤ k) (hk : rd + 33 ≤ k) : ∀ n, prI In rd nx e dsn i n = true → n ≤ k := fun n hn => by
  unfold prI at hn
  rw [Bool.or_eq_true, Bool.and_eq_true] at hn
  rcases hn with hn | hn
  · exact h n hn
  · have := tkB_iff.mp hn.1
    omega
end
section
variable {G : Nat → Prop} {w : World} {x gi : Nat} {Ab Ai : Option Addr} {cb ci : Nat} {lb : List Int} {li : List Bool} {rd e : Int}
theorem ReX.putI (h : ReX G w x Ab cb (some ⟨gi, 0, none⟩) ci lb li rd e) {j : Nat} {b0 : Bool} (hj : li[j]? = some b0) (b : Bool) : ReX G (w.setCell ⟨gi, j, none⟩ (.bool b)) x Ab cb (some ⟨gi, 0, none⟩) ci lb (li.set j b) rd e := by
  have k : Kept (· = gi) w (w.setCell ⟨gi, j, none⟩ (.bool b)) := (Kept.refl (· = gi) w).setIn (p := ⟨gi, j, none⟩) rfl _
  have h1 := h.oi.stored (i := j) (j := 0) hj (by omega) (u := .bool b) (y := b) rfl
  have hbx := h.box.kept k (fun e => h.ni gi rfl e.symm)
  refine ⟨?_, h.ob.kept k (fun y hy e => (h.nb y hy).2 (by rw [e]; rfl)), ?_, h.gx, h.gb, ?_, fun y hy => Nat.lt_of_lt_of_le (h.lt y hy) k.size⟩
  · rw [List.length_set]; exact hbx
  · rw [List.length_set]
    simpa using h1
  · rw [List.length_set]; exact h.gi
theorem ReX.putB {gb : Nat} (h : ReX G w x (some ⟨gb, 0, none⟩) cb Ai ci lb li rd e) {j : Nat} {b0 : Int} (hj : lb[j]? = some b0) (b : Int) : ReX G (w.setCell ⟨gb, j, none⟩ (.int .u8 b)) x (some ⟨gb, 0, none⟩) cb Ai ci (lb.set j b) li rd e := by
  have k : Kept (· = gb) w (w.setCell ⟨gb, j, none⟩ (.int .u8 b)) := (Kept.refl (· = gb) w).setIn (p := ⟨gb, j, none⟩) rfl _
  have h1 := h.ob.stored (i := j) (j := 0) hj (by omega) (u := .int .u8 b) (y := b) rfl
  have hbx := h.box.kept k (fun e => (h.nb gb rfl).1 e.symm)
  refine ⟨?_, ?_, h.oi.kept k (fun y hy e => (h.nb gb rfl).2 (by rw [← e]; exact hy)), h.gx, ?_, h.gi, fun y hy => Nat.lt_of_lt_of_le (h.lt y hy) k.size⟩
  · rw [List.length_set]; exact hbx
  · rw [List.length_set]
    simpa using h1
  · rw [List.length_set]; exact h.gb
end
theorem tk_no {In : Int → Bool} {rd nx e m : Int} (h : ¬ (nx ≤ m ∧ m < rd + 33 ∧ (e = 0 ∨ m < e) ∧ In m = false)) : tkB In rd nx e m = false := by
  cases e5 : tkB In rd nx e m with
  | false => rfl
  | true => exact absurd (tkB_iff.mp e5) h
set_option maxHeartbeats 4000000 in
set_option maxRecDepth 20000 in
theorem reput_any {G : Nat → Prop} {x : Nat} {In : Int → Bool} {B : Int → Int} {rd nx e : Int} {k : Nat} (dsn : Int) (hd : -1000 ≤ dsn ∧ dsn ≤ 1099511627776) (hi : Inv In B rd nx e) (hk : k ≤ 900000) (bs : List Int) (n cB : Nat) (AB : Option Addr) (hn : bs.length = n) (hnb : n ≤ 100000) (w : World) (hrs : RS layB w AB cB bs) (hab : 0 < n → ∀ b o, AB = some ⟨b, o, none⟩ → ¬ G b) (h : ReS G w x In B rd e k) :
    Calls Try.prog 44 #[.pointer (some ⟨x, 0, none⟩), .int .i64 dsn, .slice AB n cB] w fun r w' => r = .returned (.int .i64 (cntP (fun j => tkB In rd nx e (dsn + j)) n)) ∧ (∃ G' k', ReS G' w' x (prI In rd nx e dsn n) (prV In rd nx e dsn bs n B) rd e k' ∧ k' ≤ 1000000 ∧ k' ≤ max k (rd + 33).toNat ∧ ∀ y, G' y → G y ∨ w.heap.size ≤ y) ∧ Kept G w w' := by
  have hrn := hi.rn; have hr0 := hi.r0; have hbig := hi.big; have hen := hi.en; have hnr := hi.nr
  have H := Lib.hid h; have HI := Lib.hid hi; have HN := Lib.hid hn; have HRS := Lib.hid hrs; have HAB := Lib.hid hab
  obtain ⟨ed, hed⟩ : ∃ z : Nat, rd + 33 = (z : Int) := ⟨(rd + 33).toNat, by omega⟩
  have HE := Lib.hid hed
  have hedb : ed ≤ 1000000 := by omega
  have hg0 : ¬ dsn < -1000 := by omega
  have he0 : 0 ≤ e := by omega
  clear h hi hn hrs hab hed hen
  go_enter Try.func44, Try.ntmps44
  go_wp2_with fail
  go_loopw [] (fun wr => Hid (∃ G2 k2, ReS G2 wr x In B rd e k2 ∧ k ≤ k2 ∧ k2 ≤ max k ed ∧ Kept G w wr ∧ (∀ y, G2 y → G y ∨ w.heap.size ≤ y))) (fun wr => ed - lenAt wr x)
  case atStart => exact Lib.hid ⟨G, k, H.out, Nat.le_refl _, by omega, Kept.refl _ _, fun y hy => .inl hy⟩
  case round =>
    obtain ⟨G2, k2, j1, j2, j3, j4, j5⟩ := hrel.out
    obtain ⟨Ab, cb, Ai, ci, hX, hkk⟩ := j1
    have HX := Lib.hid hX; have HKK := Lib.hid hkk; have J4 := Lib.hid j4; have J5 := Lib.hid j5
    have c1 : wr.cell? ⟨x, 1, none⟩ = some (.slice Ai k2 ci) := by have := hX.box.cell 1; rw [il_len] at this; exact this
    have HLA := Lib.hid (lenAt_eq c1)
    have q1 : ∀ p : FineBy wr, p.W.cell? ⟨x, 1, none⟩ = some (.slice Ai k2 ci) := fun p => by have := (HX.out.box.fine p.h).cell 1; rw [il_len] at this; exact this
    have HED : Hid (∀ p : FineBy wr, Calls Try.prog 81 #[.pointer (some ⟨x, 0, none⟩)] p.W fun r w' => r = .returned (.int .i64 (ed : Int)) ∧ Fine p.W w') := Lib.hid (fun p => by rw [← HE.out]; exact reedge_any p.W (by omega) ⟨Ab, cb, Ai, ci, HX.out.fine p.h, HKK.out⟩)
    clear j4 j5 hX hkk hrel c1
    go_upto_region 2 with fail
    refine wp_region_quiet_fine (by kernel_rfl) (by kernel_rfl) ?_
    repeat (quiet_step (exact Calls.fine_of (HED.out _)))
    refine wpQuiet_nil ?_
    intro wf hwf'
    have hwf := FineBy.of hwf'
    clear hwf' q1
    have X1 := Lib.hid (HX.out.fine hwf); have K1 := Lib.hid (J4.out.trans (Kept.of_fine hwf))
    clear hwf
    by_cases hlt : k2 < ed
    · have hlt2 : (k2 : Int) < (ed : Int) := by omega
      have hin0 : In ((k2 : Int) + 1) = false := by
        cases e : In ((k2 : Int) + 1) with
        | false => rfl
        | true => have := HKK.out _ e; omega
      have HI0 := Lib.hid hin0
      have c1 : wf.cell? ⟨x, 1, none⟩ = some (.slice Ai k2 ci) := by have := X1.out.box.cell 1; rw [il_len] at this; exact this
      have hil : Hid ((il In k2).length = k2) := Lib.hid (il_len In k2)
      have hbl : Hid ((bl In B k2).length = k2) := Lib.hid (bl_len In B k2)
      clear hin0
      go_upto_region 4 with (at_builtin; refine wpList_appE rfl sliceT (.tmp 22) (.tmp 23) rfl 0 (.slice Ai k2 ci) (il In k2) rfl (by have := (X1.out.fine ((Fine.refl wf).alloc (.cells #[.bool false] 4))).oi; rw [hil.out] at this; exact this) (some ⟨wf.heap.size, 0, none⟩) 1 1 [false] rfl rfl (RS.ofBlk (Blk.newAt rfl) rfl rfl (by unfold maxLen; omega)) (by rw [hil.out]; simp; omega) (by rw [hil.out]; simp; unfold maxLen; omega) (Nat.zero_le _) ?_; intro A3 c3 w3 ho3 kk3 gg3; have XA := Lib.hid (X1.out.fine ((Fine.refl wf).alloc (.cells #[.bool false] 4))); have K3 : Hid (Kept (fun y => (Value.slice Ai (il In k2).length ci).ownBlock = some y) (wf.alloc (.cells #[.bool false] 4)) w3) := Lib.hid (by rw [hil.out]; exact Kept.grown (Kept.refl _ _) gg3.out.1 (fun k hk _ => hk)); have bx3 := XA.out.box.kept K3.out (fun e => XA.out.ni x e rfl); have d1 := bx3.cell 1; have z1 := bx3.frozen 1; have BX3 := Lib.hid bx3; clear bx3)
      have XI : ReX (Grew G2 (wf.alloc (.cells #[.bool false] 4)) w3) (w3.setCell ⟨x, 1, none⟩ (.slice A3 ((il In k2).length + 1) c3)) x Ab cb A3 c3 (bl In B k2) (il In (k2 + 1)) rd e := by
        rw [il_succ, HI0.out]
        exact XA.out.moreI K3.out (by simp) ho3.out (gg3.out.2.imp (fun h => by rw [hil.out] at h ⊢; exact h) (fun h y hy => by have h2 := h.symm.trans hy; injection h2 with h2; omega))
      have sz1 := K1.out.size; have sz2 := ((Fine.refl wf).alloc (.cells #[.bool false] 4)).size
      have GI : ∀ y, Grew G2 (wf.alloc (.cells #[.bool false] 4)) w3 y → G y ∨ w.heap.size ≤ y := fun y hy => hy.elim (J5.out y) (fun h => .inr (by omega))
      have KI : Kept G w (w3.setCell ⟨x, 1, none⟩ (.slice A3 ((il In k2).length + 1) c3)) := ((K1.out.trans (Kept.of_fine ((Fine.refl wf).alloc _))).transG K3.out (fun _ _ h => h) (fun y hy e => (J5.out y (XA.out.gi y e)).elim id (fun h => by omega))).setCell (p := ⟨x, 1, none⟩) (fun hh => (J5.out x XA.out.gx).elim id (fun h => by have hh : x < w.heap.size := hh; omega)) _
      have hl1 : Hid (lenAt (w3.setCell ⟨x, 1, none⟩ (.slice A3 ((il In k2).length + 1) c3)) x = k2 + 1) := Lib.hid (by have := XI.box.cell 1; rw [il_len In (k2 + 1)] at this; exact lenAt_eq this)
      have XIH := Lib.hid XI; have GIH := Lib.hid GI; have KIH := Lib.hid KI
      clear XI GI KI sz1 sz2 gg3 kk3 ho3 K3 BX3 d1 z1 XA c1 J5 X1 K1
      generalize hW : w3.setCell ⟨x, 1, none⟩ (.slice A3 ((il In k2).length + 1) c3) = w4 at XIH KIH hl1 ⊢
      generalize Grew G2 (wf.alloc (.cells #[.bool false] 4)) w3 = G4 at XIH GIH
      clear hW
      have c0 : w4.cell? ⟨x, 0, none⟩ = some (.slice Ab k2 cb) := by have := XIH.out.box.cell 0; rw [bl_len] at this; exact this
      go_wp2_with (at_builtin; refine wpList_appE rfl sliceB (.tmp 31) (.tmp 32) rfl 0 (.slice Ab k2 cb) (bl In B k2) rfl (by have := (XIH.out.fine ((Fine.refl w4).alloc (.cells #[.int .u8 0] 5))).ob; rw [hbl.out] at this; exact this) (some ⟨w4.heap.size, 0, none⟩) 1 1 [0] rfl rfl (RS.ofBlk (Blk.newAt rfl) rfl rfl (by unfold maxLen; omega)) (by rw [hbl.out]; simp; omega) (by rw [hbl.out]; simp; unfold maxLen; omega) (Nat.zero_le _) ?_; intro A5 c5 w5 ho5 kk5 gg5; have XB := Lib.hid (XIH.out.fine ((Fine.refl w4).alloc (.cells #[.int .u8 0] 5))); have K5 : Hid (Kept (fun y => (Value.slice Ab (bl In B k2).length cb).ownBlock = some y) (w4.alloc (.cells #[.int .u8 0] 5)) w5) := Lib.hid (by rw [hbl.out]; exact Kept.grown (Kept.refl _ _) gg5.out.1 (fun k hk _ => hk)); have bx5 := XB.out.box.kept K5.out (fun e => (XB.out.nb x e).1 rfl); have d0 := bx5.cell 0; have z0 := bx5.frozen 0; clear bx5)
      have XJ : ReX (Grew G4 (w4.alloc (.cells #[.int .u8 0] 5)) w5) (w5.setCell ⟨x, 0, none⟩ (.slice A5 ((bl In B k2).length + 1) c5)) x A5 c5 A3 c3 (bl In B (k2 + 1)) (il In (k2 + 1)) rd e := by
        rw [bl_succ, HI0.out]
        exact XB.out.moreB K5.out (by simp) ho5.out (gg5.out.2.imp (fun h => by rw [hbl.out] at h ⊢; exact h) (fun h y hy => by have h2 := h.symm.trans hy; injection h2 with h2; omega))
      have sz1 := KIH.out.size; have sz2 := ((Fine.refl w4).alloc (.cells #[.int .u8 0] 5)).size
      have GJ : ∀ y, Grew G4 (w4.alloc (.cells #[.int .u8 0] 5)) w5 y → G y ∨ w.heap.size ≤ y := fun y hy => hy.elim (GIH.out y) (fun h => .inr (by omega))
      have KJ : Kept G w (w5.setCell ⟨x, 0, none⟩ (.slice A5 ((bl In B k2).length + 1) c5)) := ((KIH.out.trans (Kept.of_fine ((Fine.refl w4).alloc _))).transG K5.out (fun _ _ h => h) (fun y hy e => (GIH.out y (XB.out.gb y e)).elim id (fun h => by omega))).setCell (p := ⟨x, 0, none⟩) (fun hh => (GIH.out x XB.out.gx).elim id (fun h => by have hh : x < w.heap.size := hh; omega)) _
      have hl2 : lenAt (w5.setCell ⟨x, 0, none⟩ (.slice A5 ((bl In B k2).length + 1) c5)) x = k2 + 1 := by have := XJ.box.cell 1; rw [il_len In (k2 + 1)] at this; exact lenAt_eq this
      exact ⟨Lib.hid ⟨_, k2 + 1, ⟨A5, c5, A3, c3, XJ, fun n hn => by have := HKK.out n hn; omega⟩, by omega, by omega, KJ, GJ⟩, by rw [hl2, HLA.out]; omega⟩
    · obtain ⟨w1, hw1⟩ : ∃ w1, w1 = wf := ⟨_, rfl⟩
      subst hw1
      have hedk : rd + 33 ≤ (k2 : Int) := by have := HE.out; omega
      clear HX J4 HLA HED
      go_wp2_with fail
      have hg1 : ¬ dsn < -1000 := by omega
      simp only [decide_eq_false hlt, decide_eq_false hg1]
      go_loopw [7, 8] (fun s7 s8 wq => ∃ (i : Nat) (t : Int), i ≤ n ∧ s8 = .int .i64 i ∧ s7 = .int .i64 t ∧ (0 ≤ t ∧ t ≤ i) ∧ Hid (t = cntP (fun j => tkB In rd nx e (dsn + j)) i ∧ ReX G2 wq x Ab cb Ai ci (bl (prI In rd nx e dsn i) (prV In rd nx e dsn bs i B) k2) (il (prI In rd nx e dsn i) k2) rd e ∧ Kept G w wq)) (fun _ s8 _ => ((n : Int) - intOf s8).toNat)
      case atStart => exact ⟨0, 0, Nat.zero_le _, by simp, (by first | rfl | trivial), by omega, Lib.hid ⟨by rw [cntP_zero], by rw [prI_zero, prV_zero]; exact X1.out, K1.out⟩⟩
      case round =>
        obtain ⟨i, t, hi, rfl, rfl, ht, hI⟩ := hrel
        obtain ⟨i1, i2, i3⟩ := hI.out
        have C1 := Lib.hid i1; have Y1 := Lib.hid i2; have L1 := Lib.hid i3
        clear i1 i2 i3 hI X1 K1
        have e2 : IntKind.i64.wrap ((i : Int) + 1) = (i : Int) + 1 := IntWalk.i64_in _ (by omega)
        have e4 : IntKind.i64.wrap (t + 1) = t + 1 := IntWalk.i64_in _ (by omega)
        by_cases hlt : i < n
        · have hlt2 : (i : Int) < (n : Int) := by omega
          obtain ⟨m, hm⟩ : ∃ m, dsn + (i : Int) = m := ⟨_, rfl⟩
          have e1 : IntKind.i64.wrap (dsn + (i : Int)) = m := by rw [hm]; exact IntWalk.i64_in _ (by omega)
          have hmb : -1099511627776 ≤ m ∧ m ≤ 2199023255552 := by omega
          have HM := Lib.hid hm
          clear hm
          by_cases hm1 : m < 1
          · have YC := Y1; have LC := L1
            have HT : Hid (tkB In rd nx e (dsn + i) = false) := Lib.hid (by rw [HM.out]; exact tk_no (fun h => by omega))
            go_wp2_with fail
            exact ⟨⟨i + 1, t, hlt, by simp, (by first | rfl | trivial), by omega, Lib.hid ⟨by rw [cntP_succ, HT.out, ← C1.out]; simp, by rw [prI_skip HT.out, prV_skip HT.out]; exact YC.out, LC.out⟩⟩, by simp only [intOf]; omega⟩
          · have YS : ReS G2 wr x (prI In rd nx e dsn i) (prV In rd nx e dsn bs i B) rd e k2 := ⟨Ab, cb, Ai, ci, Y1.out, prI_le HKK.out hedk⟩
            have HED := Lib.hid (reedge_any wr (by omega) YS)
            rw [HE.out] at HED
            clear YS
            go_wp2_with fail
            refine HED.out.mono ?_
            rintro r w2 ⟨rfl, f2⟩
            have Y2 := Lib.hid (Y1.out.fine f2); have L2 := Lib.hid (L1.out.trans (Kept.of_fine f2))
            clear f2 HED
            by_cases hB : (ed : Int) ≤ m
            · have YC := Y2; have LC := L2
              have HT : Hid (tkB In rd nx e (dsn + i) = false) := Lib.hid (by rw [HM.out]; exact tk_no (fun h => by have := HE.out; omega))
              have hB' : m ≥ (ed : Int) := hB
              go_wp2_with fail
              exact ⟨⟨i + 1, t, hlt, by simp, (by first | rfl | trivial), by omega, Lib.hid ⟨by rw [cntP_succ, HT.out, ← C1.out]; simp, by rw [prI_skip HT.out, prV_skip HT.out]; exact YC.out, LC.out⟩⟩, by simp only [intOf]; omega⟩
            · have hB' : ¬ m ≥ (ed : Int) := hB
              obtain ⟨j, hj⟩ : ∃ j : Nat, (j : Int) + 1 = m := ⟨(m - 1).toNat, by omega⟩
              have hjk : j < k2 := by omega
              obtain ⟨gi, hgi, _, _⟩ := Y2.out.oi.head (by rw [il_len]; omega)
              subst hgi
              obtain ⟨_, _, hgi2, _, hc⟩ := Y2.out.oi.rs.1.at_ (il_at (prI In rd nx e dsn i) hjk)
              injection hgi2 with hgi2
              injection hgi2 with g1 g2
              subst g1 g2
              have d0 := hc 0 (.bool (prI In rd nx e dsn i ((j : Int) + 1))) rfl
              simp only [Nat.mul_one, Nat.add_zero, Nat.zero_add] at d0
              rw [hj, ← HM.out, pr_here, HM.out] at d0
              obtain ⟨q, hq⟩ : ∃ q, In m = q := ⟨_, rfl⟩
              rw [hq] at d0
              have HQ := Lib.hid hq
              have HJ := Lib.hid hj
              have e3 : IntKind.i64.wrap (m - 1) = (j : Int) := by rw [show m - 1 = (j : Int) by omega]; exact IntWalk.i64_in _ (by omega)
              have z0 := Y2.out.oi.frozen j
              have c3 : w2.cell? ⟨x, 3, none⟩ = some (.int .i64 e) := Y2.out.box.cell 3
              have c1 : w2.cell? ⟨x, 1, none⟩ = some (.slice (some ⟨gi, 0, none⟩) k2 ci) := by have := Y2.out.box.cell 1; rw [il_len] at this; exact this
              have key : ∀ K : Prop, (e = 0 → K) → (0 < e → m < e → K) → (0 < e → e ≤ m → K) → K := fun K a b c => by
                by_cases h0 : e = 0
                · exact a h0
                · rcases Int.lt_or_le m e with h9 | h9
                  · exact b (by omega) h9
                  · exact c (by omega) h9
              have KEY := Lib.hid key
              clear hc hq hj key Y1 L1
              refine KEY.out _ (fun p1 => ?_) (fun p1 p2 => ?_) (fun p1 p2 => ?_)
              · have q3 : ¬ e > 0 := by omega
                have q4 : decide (0 < e) = false := by simp; omega
                clear KEY
                have HP := Lib.hid p1
                clear p1
                cases q
                · go_upto_region 13 with fail
                  have hT : tkB In rd nx e m = true := tkB_iff.mpr ⟨by
                    rcases Int.lt_or_le m nx with h7 | h7
                    · have := HI.out.low m (by omega) h7
                      rw [HQ.out] at this
                      cases this
                    · exact h7, by have := HE.out; omega, by omega, HQ.out⟩
                  have HT : Hid (tkB In rd nx e (dsn + i) = true) := Lib.hid (by rw [HM.out]; exact hT)
                  have Z1 := Lib.hid (Y2.out.putI (j := j) (b0 := prI In rd nx e dsn i ((j : Int) + 1)) (il_at _ hjk) true)
                  have KZ : Hid (Kept G w (w2.setCell ⟨gi, j, none⟩ (.bool true))) := Lib.hid (L2.out.setCell (p := ⟨gi, j, none⟩) (fun hh => (J5.out gi (Y2.out.gi gi rfl)).elim id (fun h => by have hh : gi < w.heap.size := hh; omega)) _)
                  clear d0 z0 c1 c3 Y2 L2 hT
                  generalize w2.setCell ⟨gi, j, none⟩ (.bool true) = w4 at Z1 KZ ⊢
                  obtain ⟨gb, hgb, _, _⟩ := Z1.out.ob.head (by rw [bl_len]; omega)
                  subst hgb
                  have c0 : w4.cell? ⟨x, 0, none⟩ = some (.slice (some ⟨gb, 0, none⟩) k2 cb) := by have := Z1.out.box.cell 0; rw [bl_len] at this; exact this
                  obtain ⟨bb, o, hA, _, hcl⟩ := (HRS.out.kept KZ.out (HAB.out (by omega))).atI (i := i) (by rw [HN.out]; exact hlt)
                  obtain ⟨AB', hAB'⟩ : ∃ z, AB = z := ⟨_, rfl⟩
                  subst hA
                  obtain ⟨y, hy⟩ : ∃ y, bs.getD i 0 = y := ⟨_, rfl⟩
                  rw [hy] at hcl
                  have HY := Lib.hid hy
                  clear hy hAB'
                  go_still_tail 11, (by kernel_rfl)
                  change wpList _ _ _ _ _ w4.drew
                  have Z5 := Lib.hid (Z1.out.fine (Fine.refl w4).drew); have K5 := Lib.hid KZ.out.drew
                  generalize w4.drew = w5 at Z5 K5 ⊢
                  clear c0 hcl Z1 KZ
                  obtain ⟨_, _, hgb2, _, hc5⟩ := Z5.out.ob.rs.1.at_ (bl_at _ _ hjk)
                  injection hgb2 with hgb2
                  injection hgb2 with g1 g2
                  subst g1 g2
                  obtain ⟨old, hold⟩ : ∃ v, w5.cell? ⟨gb, j, none⟩ = some v := by
                    have := hc5 0 _ rfl
                    simp only [Nat.mul_one, Nat.add_zero, Nat.zero_add] at this
                    exact ⟨_, this⟩
                  have z5 := Z5.out.ob.frozen j
                  clear hc5
                  go_wp2_with fail
                  have Z6 := Z5.out.putB (j := j) (bl_at _ _ hjk) y
                  have PT := pr_take (bs := bs) (B := B) HT.out
                  have hij : ((j : Int) + 1) = dsn + i := by rw [HM.out, HJ.out]
                  refine ⟨⟨i + 1, t + 1, hlt, by simp, (by first | rfl | trivial), by omega, Lib.hid ⟨by rw [cntP_succ, HT.out, ← C1.out]; simp, ?_, K5.out.setCell (p := ⟨gb, j, none⟩) (fun hh => (J5.out gb (Z5.out.gb gb rfl)).elim id (fun h => by have hh : gb < w.heap.size := hh; omega)) _⟩⟩, by simp only [intOf]; omega⟩
                  rw [bl_set (prI In rd nx e dsn i) (prI In rd nx e dsn (i + 1)) (prV In rd nx e dsn bs i B) (prV In rd nx e dsn bs (i + 1) B) k2 j y (by rw [hij]; exact PT.1) (by rw [hij, ← HY.out]; exact PT.2) (fun z hz hzj => ⟨(pr_far (bs := bs) (B := B) (by omega)).1, fun _ => (pr_far (bs := bs) (B := B) (by omega)).2⟩), il_set (prI In rd nx e dsn i) (prI In rd nx e dsn (i + 1)) k2 j true (by rw [hij]; exact PT.1) (fun z hz hzj => (pr_far (bs := bs) (B := B) (by omega)).1)] at Z6
                  exact Z6
                · have HT : Hid (tkB In rd nx e (dsn + i) = false) := Lib.hid (by rw [HM.out]; exact tk_no (fun h => by rw [HQ.out] at h; exact absurd h.2.2.2 (by decide)))
                  have YC := Y2.out; have LC := L2.out
                  have YC := Lib.hid YC; have LC := Lib.hid LC
                  go_wp2_with fail
                  exact ⟨⟨i + 1, t, hlt, by simp, (by first | rfl | trivial), by omega, Lib.hid ⟨by rw [cntP_succ, HT.out, ← C1.out]; simp, by rw [prI_skip HT.out, prV_skip HT.out]; exact YC.out, LC.out⟩⟩, by simp only [intOf]; omega⟩
              · have q3 : e > 0 := p1
                have q5 : ¬ m ≥ e := by omega
                clear KEY
                cases q
                · go_upto_region 13 with fail
                  have hT : tkB In rd nx e m = true := tkB_iff.mpr ⟨by
                    rcases Int.lt_or_le m nx with h7 | h7
                    · have := HI.out.low m (by omega) h7
                      rw [HQ.out] at this
                      cases this
                    · exact h7, by have := HE.out; omega, by omega, HQ.out⟩
                  have HT : Hid (tkB In rd nx e (dsn + i) = true) := Lib.hid (by rw [HM.out]; exact hT)
                  have Z1 := Lib.hid (Y2.out.putI (j := j) (b0 := prI In rd nx e dsn i ((j : Int) + 1)) (il_at _ hjk) true)
                  have KZ : Hid (Kept G w (w2.setCell ⟨gi, j, none⟩ (.bool true))) := Lib.hid (L2.out.setCell (p := ⟨gi, j, none⟩) (fun hh => (J5.out gi (Y2.out.gi gi rfl)).elim id (fun h => by have hh : gi < w.heap.size := hh; omega)) _)
                  clear d0 z0 c1 c3 Y2 L2 hT
                  generalize w2.setCell ⟨gi, j, none⟩ (.bool true) = w4 at Z1 KZ ⊢
                  obtain ⟨gb, hgb, _, _⟩ := Z1.out.ob.head (by rw [bl_len]; omega)
                  subst hgb
                  have c0 : w4.cell? ⟨x, 0, none⟩ = some (.slice (some ⟨gb, 0, none⟩) k2 cb) := by have := Z1.out.box.cell 0; rw [bl_len] at this; exact this
                  obtain ⟨bb, o, hA, _, hcl⟩ := (HRS.out.kept KZ.out (HAB.out (by omega))).atI (i := i) (by rw [HN.out]; exact hlt)
                  obtain ⟨AB', hAB'⟩ : ∃ z, AB = z := ⟨_, rfl⟩
                  subst hA
                  obtain ⟨y, hy⟩ : ∃ y, bs.getD i 0 = y := ⟨_, rfl⟩
                  rw [hy] at hcl
                  have HY := Lib.hid hy
                  clear hy hAB'
                  go_still_tail 11, (by kernel_rfl)
                  change wpList _ _ _ _ _ w4.drew
                  have Z5 := Lib.hid (Z1.out.fine (Fine.refl w4).drew); have K5 := Lib.hid KZ.out.drew
                  generalize w4.drew = w5 at Z5 K5 ⊢
                  clear c0 hcl Z1 KZ
                  obtain ⟨_, _, hgb2, _, hc5⟩ := Z5.out.ob.rs.1.at_ (bl_at _ _ hjk)
                  injection hgb2 with hgb2
                  injection hgb2 with g1 g2
                  subst g1 g2
                  obtain ⟨old, hold⟩ : ∃ v, w5.cell? ⟨gb, j, none⟩ = some v := by
                    have := hc5 0 _ rfl
                    simp only [Nat.mul_one, Nat.add_zero, Nat.zero_add] at this
                    exact ⟨_, this⟩
                  have z5 := Z5.out.ob.frozen j
                  clear hc5
                  go_wp2_with fail
                  have Z6 := Z5.out.putB (j := j) (bl_at _ _ hjk) y
                  have PT := pr_take (bs := bs) (B := B) HT.out
                  have hij : ((j : Int) + 1) = dsn + i := by rw [HM.out, HJ.out]
                  refine ⟨⟨i + 1, t + 1, hlt, by simp, (by first | rfl | trivial), by omega, Lib.hid ⟨by rw [cntP_succ, HT.out, ← C1.out]; simp, ?_, K5.out.setCell (p := ⟨gb, j, none⟩) (fun hh => (J5.out gb (Z5.out.gb gb rfl)).elim id (fun h => by have hh : gb < w.heap.size := hh; omega)) _⟩⟩, by simp only [intOf]; omega⟩
                  rw [bl_set (prI In rd nx e dsn i) (prI In rd nx e dsn (i + 1)) (prV In rd nx e dsn bs i B) (prV In rd nx e dsn bs (i + 1) B) k2 j y (by rw [hij]; exact PT.1) (by rw [hij, ← HY.out]; exact PT.2) (fun z hz hzj => ⟨(pr_far (bs := bs) (B := B) (by omega)).1, fun _ => (pr_far (bs := bs) (B := B) (by omega)).2⟩), il_set (prI In rd nx e dsn i) (prI In rd nx e dsn (i + 1)) k2 j true (by rw [hij]; exact PT.1) (fun z hz hzj => (pr_far (bs := bs) (B := B) (by omega)).1)] at Z6
                  exact Z6
                · have HT : Hid (tkB In rd nx e (dsn + i) = false) := Lib.hid (by rw [HM.out]; exact tk_no (fun h => by rw [HQ.out] at h; exact absurd h.2.2.2 (by decide)))
                  have YC := Y2.out; have LC := L2.out
                  have YC := Lib.hid YC; have LC := Lib.hid LC
                  go_wp2_with fail
                  exact ⟨⟨i + 1, t, hlt, by simp, (by first | rfl | trivial), by omega, Lib.hid ⟨by rw [cntP_succ, HT.out, ← C1.out]; simp, by rw [prI_skip HT.out, prV_skip HT.out]; exact YC.out, LC.out⟩⟩, by simp only [intOf]; omega⟩
              · have q3 : e > 0 := p1
                have q5 : m ≥ e := p2
                have YC := Y2; have LC := L2
                have HT : Hid (tkB In rd nx e (dsn + i) = false) := Lib.hid (by rw [HM.out]; exact tk_no (fun h => by omega))
                clear KEY
                go_wp2_with fail
                exact ⟨⟨i + 1, t, hlt, by simp, (by first | rfl | trivial), by omega, Lib.hid ⟨by rw [cntP_succ, HT.out, ← C1.out]; simp, by rw [prI_skip HT.out, prV_skip HT.out]; exact YC.out, LC.out⟩⟩, by simp only [intOf]; omega⟩
        · have hie : i = n := by omega
          have hlt2 : ¬ (i : Int) < (n : Int) := by omega
          subst hie
          go_wp2_with fail
          go_ret
          exact ⟨by rw [C1.out]; rfl, ⟨G2, k2, ⟨Ab, cb, Ai, ci, Y1.out, prI_le HKK.out hedk⟩, by omega, by have := HE.out; omega, J5.out⟩, L1.out⟩
end Go.Proofs.Ytnigfdldfmiaiaa
