/- A flow: the answer to a dial. -/
import Derived.Test.YtjldgialhgfhmaaNg
import Derived.Test.YtjldgialhgfhmaaNh
namespace Go.Proofs.Ytjldgialhgfhmaa
set_option linter.unusedVariables false
set_option linter.unusedSimpArgs false
open Go.ChangeShapes Go.WideShapes Go.ChangeAt Go.RowKit Go.Maps
set_option linter.unusedVariables false
set_option linter.unusedSimpArgs false
/-- A box of what was heard, handed out. -/
def HeardV (fr : Bool) (e : Ending) : Prop := ∃ o fi re de A n c, e = .returned (.agg (hv o fi re de fr (.slice A n c)))
theorem acks_out (S : Fl) (a t : Int) : (S.acks a t).out = S.out := by
  unfold Fl.acks Fl.went
  split
  · rfl
  · rw [(wentAll_is t _ _).2.2.2.1]
    have h1 : ∀ T : Fl, (T.renew t).out = T.out := fun T => by unfold Fl.renew; split <;> rfl
    have h2 : ∀ T : Fl, (T.sampled t).out = T.out := fun T => by unfold Fl.sampled; split <;> rfl
    rw [h1, h2]
section
variable {F : Nat → Prop} {w w' w0 : World} {f x : Nat} {S S' : Fl} {fr : Bool}
theorem HeardOf.open_ {w1 : World} (hx : ¬ F x) (hxl : x < w.heap.size) (h : HeardOf F f x S fr w w1) : HeardOf F f x S fr w (w1.setCell ⟨x, 0, none⟩ (.bool true)) := by
  obtain ⟨F1, o, fi, re, de, v, j1, j2, j3, j4⟩ := h
  have k : Kept (· = x) w1 (w1.setCell ⟨x, 0, none⟩ (.bool true)) := (Kept.refl (· = x) w1).setIn (p := ⟨x, 0, none⟩) rfl _
  have hx1 : ¬ F1 x := fun h => (j4 x h).elim hx (fun h => by omega)
  exact ⟨F1, true, fi, re, de, v, j1.kept k (fun b hb e => hx1 (by have e : b = x := e; rw [← e]; exact hb)), j2.set_ 0 (.bool true), j3.trans (k.mono (fun y _ e => .inr e)), j4⟩
theorem HeardOf.cell0 {w1 : World} (h : HeardOf F f x S fr w w1) : w1.frozen? ⟨x, 0, none⟩ = false ∧ ∃ b, w1.cell? ⟨x, 0, none⟩ = some (.bool b) := by
  obtain ⟨F1, o, fi, re, de, v, j1, j2, j3, j4⟩ := h
  exact ⟨j2.frozen 0, o, j2.cell 0⟩
set_option maxHeartbeats 4000000 in
set_option maxRecDepth 20000 in
theorem dialed_any (tick : Int) (ht : 0 ≤ tick ∧ tick ≤ 1099511627776) (hok : S.Ok) (hs : -1099511627776 ≤ S.since ∧ S.since ≤ 1099511627776) (s : Sg) (h : FlS F w f S) :
    Calls Try.prog 76 #[.pointer (some ⟨f, 0, none⟩), .agg s.cells.toArray, .int .i64 tick] w fun e w' => HeardV false e ∧ FlOf F f (S.dialed ⟨s.seq, s.ack, s.syn, s.acks, s.fin, s.xs⟩ tick) w w' := by
  have HOK := Lib.hid hok; have HSI := Lib.hid hs
  obtain ⟨src, dst, sp, dp, seq, ack, syn, acks, fin, rst, win, oA, ol, oc, dA, dl, dc, xs⟩ := s
  have HF : Hid (∀ b, F b → b < w.heap.size) := Lib.hid h.lt
  show Calls Try.prog 76 #[.pointer (some ⟨f, 0, none⟩), .agg #[.int .i64 src, .int .i64 dst, .int .i64 sp, .int .i64 dp, .int .u32 seq, .int .u32 ack, .bool syn, .bool acks, .bool fin, .bool rst, .int .i64 win, .slice oA ol oc, .slice dA dl dc], .int .i64 tick] w _
  obtain ⟨x4, hx4⟩ : ∃ x, w.heap.size = x := ⟨_, rfl⟩
  have b4 := Blk.newAt (w := w) (t := 89) (cs := #[.int .i64 src, .int .i64 dst, .int .i64 sp, .int .i64 dp, .int .u32 seq, .int .u32 ack, .bool syn, .bool acks, .bool fin, .bool rst, .int .i64 win, .slice oA ol oc, .slice dA dl dc]) hx4.symm
  have f4 := (Fine.refl w).alloc (.cells #[.int .i64 src, .int .i64 dst, .int .i64 sp, .int .i64 dp, .int .u32 seq, .int .u32 ack, .bool syn, .bool acks, .bool fin, .bool rst, .int .i64 win, .slice oA ol oc, .slice dA dl dc] 89)
  have hsz : (w.alloc (.cells #[.int .i64 src, .int .i64 dst, .int .i64 sp, .int .i64 dp, .int .u32 seq, .int .u32 ack, .bool syn, .bool acks, .bool fin, .bool rst, .int .i64 win, .slice oA ol oc, .slice dA dl dc] 89)).heap.size = x4 + 1 := by simp [hx4]
  have b6 := Blk.newAt (w := w.alloc (.cells #[.int .i64 src, .int .i64 dst, .int .i64 sp, .int .i64 dp, .int .u32 seq, .int .u32 ack, .bool syn, .bool acks, .bool fin, .bool rst, .int .i64 win, .slice oA ol oc, .slice dA dl dc] 89)) (t := 97) (cs := #[.bool false, .bool false, .bool false, .bool false, .bool false, .slice none 0 0]) (g := x4 + 1) hsz.symm
  have f6 := f4.alloc (.cells #[.bool false, .bool false, .bool false, .bool false, .bool false, .slice none 0 0] 97)
  have b4' := b4.fine ((Fine.refl (w.alloc (.cells #[.int .i64 src, .int .i64 dst, .int .i64 sp, .int .i64 dp, .int .u32 seq, .int .u32 ack, .bool syn, .bool acks, .bool fin, .bool rst, .int .i64 win, .slice oA ol oc, .slice dA dl dc] 89))).alloc (.cells #[.bool false, .bool false, .bool false, .bool false, .bool false, .slice none 0 0] 97))
  have HX4 := Lib.hid hx4
  have H0 := Lib.hid h
  clear h hok hs b4 f4
  obtain ⟨ee, hee⟩ : ∃ z, S.e = z := ⟨_, rfl⟩
  have HEE := Lib.hid hee
  clear hee
  obtain ⟨ok, hokk⟩ : ∃ z, decide (syn = true ∧ acks = true ∧ ack = ee) = z := ⟨_, rfl⟩
  have HOKK := Lib.hid hokk
  clear hokk
  go_enter Try.func76, Try.ntmps76
  go_upto_region 1 with fail
  generalize (w.alloc (.cells #[.int .i64 src, .int .i64 dst, .int .i64 sp, .int .i64 dp, .int .u32 seq, .int .u32 ack, .bool syn, .bool acks, .bool fin, .bool rst, .int .i64 win, .slice oA ol oc, .slice dA dl dc] 89)).alloc (.cells #[.bool false, .bool false, .bool false, .bool false, .bool false, .slice none 0 0] 97) = w1 at b4' b6 f6 ⊢
  have B4 := Lib.hid b4'; have B6 := Lib.hid b6; have F1 := Lib.hid f6; have H1 := Lib.hid (H0.out.fine f6)
  clear b4' b6 f6 hsz hx4 H0
  obtain ⟨x6, hx6⟩ : ∃ z, x4 + 1 = z := ⟨_, rfl⟩
  rw [hx6] at B6 ⊢
  have HX6 := Lib.hid hx6
  clear hx6
  obtain ⟨q, hq0, hqe⟩ : ∃ q, w1.cell? ⟨f, 0, none⟩ = some (.pointer (some ⟨q, 0, none⟩)) ∧ ∀ w2, Fine w1 w2 → w2.cell? ⟨f, 0, none⟩ = some (.pointer (some ⟨q, 0, none⟩)) ∧ Calls Try.prog 33 #[.pointer (some ⟨q, 0, none⟩)] w2 fun e w3 => e = .returned (.int .u32 ee) ∧ w2 = w3 := by
    obtain ⟨q, A, c, ros, Q, D, hX⟩ := H1.out
    exact ⟨q, hX.box.cell 0, fun w2 f2 => ⟨(hX.box.fine f2).cell 0, by have := end_same q Q S.ps S.e w2 (hX.que.fine f2); rw [HEE.out] at this; exact this⟩⟩
  have HQE := Lib.hid hqe
  clear hqe
  go_cut [27] (fun s27 wx => s27 = .bool (!ok) ∧ Hid (Fine w1 wx))
  case first =>
    have q5 : ∀ p : FineBy w1, p.W.cell? ⟨x4, 5, none⟩ = some (.int .u32 ack) := fun p => (B4.out.fine p.h).cell 5
    have q6 : ∀ p : FineBy w1, p.W.cell? ⟨x4, 6, none⟩ = some (.bool syn) := fun p => (B4.out.fine p.h).cell 6
    have q7 : ∀ p : FineBy w1, p.W.cell? ⟨x4, 7, none⟩ = some (.bool acks) := fun p => (B4.out.fine p.h).cell 7
    have q0 : ∀ p : FineBy w1, p.W.cell? ⟨f, 0, none⟩ = some (.pointer (some ⟨q, 0, none⟩)) := fun p => (HQE.out p.W p.h).1
    have QE : Hid (∀ p : FineBy w1, Calls Try.prog 33 #[.pointer (some ⟨q, 0, none⟩)] p.W fun r w'' => r = .returned (.int .u32 ee) ∧ Fine p.W w'') := Lib.hid (fun p => ((HQE.out p.W p.h).2).mono (fun e w h => ⟨h.1, by rw [← h.2]; exact Fine.refl _⟩))
    clear hq0
    cases syn with
    | false =>
      have e : Hid (ok = false) := Lib.hid (by rw [← HOKK.out]; simp)
      refine wp_region_quiet_fine (by kernel_rfl) (by kernel_rfl) ?_
      repeat (go_big_quiet_step (exact Calls.fine_of (QE.out _)))
      refine wpQuiet_nil ?_
      intro wf hwf'
      have hwf := Lib.hid (FineBy.of hwf')
      clear hwf' q5 q6 q7 q0 QE
      go_wp2_with fail
      go_meet
      exact ⟨by rw [e.out]; rfl, hwf⟩
    | true =>
      cases acks with
      | false =>
        have e : Hid (ok = false) := Lib.hid (by rw [← HOKK.out]; simp)
        refine wp_region_quiet_fine (by kernel_rfl) (by kernel_rfl) ?_
        repeat (go_big_quiet_step (exact Calls.fine_of (QE.out _)))
        refine wpQuiet_nil ?_
        intro wf hwf'
        have hwf := Lib.hid (FineBy.of hwf')
        clear hwf' q5 q6 q7 q0 QE
        go_wp2_with fail
        go_meet
        exact ⟨by rw [e.out]; rfl, hwf⟩
      | true =>
        by_cases hack : ack = ee
        · have g : (ack != ee) = false := by simpa using hack
          have e : Hid (ok = true) := Lib.hid (by rw [← HOKK.out]; simp [hack])
          clear hack
          refine wp_region_quiet_fine (by kernel_rfl) (by kernel_rfl) ?_
          repeat (go_big_quiet_step (exact Calls.fine_of (QE.out _)))
          refine wpQuiet_nil ?_
          intro wf hwf'
          have hwf := Lib.hid (FineBy.of hwf')
          clear hwf' q5 q6 q7 q0 QE
          go_wp2_with fail
          go_meet
          exact ⟨by rw [e.out]; rfl, hwf⟩
        · have g : (ack != ee) = true := by simpa using hack
          have e : Hid (ok = false) := Lib.hid (by rw [← HOKK.out]; simp [hack])
          clear hack
          refine wp_region_quiet_fine (by kernel_rfl) (by kernel_rfl) ?_
          repeat (go_big_quiet_step (exact Calls.fine_of (QE.out _)))
          refine wpQuiet_nil ?_
          intro wf hwf'
          have hwf := Lib.hid (FineBy.of hwf')
          clear hwf' q5 q6 q7 q0 QE
          go_wp2_with fail
          go_meet
          exact ⟨by rw [e.out]; rfl, hwf⟩
  case rest =>
  obtain ⟨rfl, HF2⟩ := hcut
  obtain ⟨w2, hw2⟩ : ∃ z, z = wc := ⟨_, rfl⟩
  subst hw2
  have B4b := Lib.hid (B4.out.fine HF2.out); have B6b := Lib.hid (B6.out.fine HF2.out); have F2 := Lib.hid (F1.out.trans HF2.out); have H2 := Lib.hid (H1.out.fine HF2.out)
  clear hq0 HQE B4 B6 F1 H1 HF2
  have hx6w : Hid (w.heap.size ≤ x6) := Lib.hid (by have := HX6.out; have := HX4.out; omega)
  cases ok with
  | false =>
    have HD : Hid (S.dialed ⟨seq, ack, syn, acks, fin, xs⟩ tick = S) := Lib.hid (by
      unfold Fl.dialed
      exact if_neg (fun h => by have h2 := of_decide_eq_false HOKK.out; exact h2 ⟨h.1, h.2.1, h.2.2.trans HEE.out⟩))
    have e0 : w2.cell? ⟨x6, 0, none⟩ = some (.bool false) := B6b.out.cell 0
    have e1 : w2.cell? ⟨x6, 1, none⟩ = some (.bool false) := B6b.out.cell 1
    have e2 : w2.cell? ⟨x6, 2, none⟩ = some (.bool false) := B6b.out.cell 2
    have e3 : w2.cell? ⟨x6, 3, none⟩ = some (.bool false) := B6b.out.cell 3
    have e4 : w2.cell? ⟨x6, 4, none⟩ = some (.bool false) := B6b.out.cell 4
    have e5 : w2.cell? ⟨x6, 5, none⟩ = some (.slice none 0 0) := B6b.out.cell 5
    have z0 := B6b.out.frozen 0
    have z1 := B6b.out.frozen 1
    have z2 := B6b.out.frozen 2
    have z3 := B6b.out.frozen 3
    have z4 := B6b.out.frozen 4
    have z5 := B6b.out.frozen 5
    have BF := Lib.hid (B6b.out.six97 rfl false false false false false (.slice none 0 0))
    go_wp2_with fail
    exact bodyPost_ret (results_cell_row rfl _ _ x6 97 _ (0, 0) _ rfl BF.out.1 Try.underlying97 rfl size97) rfl ⟨⟨_, _, _, _, _, _, _, rfl⟩, by rw [HD.out]; exact FlOf.side (FlOf.self H2.out (Fine.refl w2)) HF.out F2.out hx6w.out B6b.out.lt BF.out.2⟩
  | true =>
    have hokt : syn = true ∧ acks = true ∧ ack = ee := of_decide_eq_true HOKK.out
    obtain ⟨rfl, rfl, rfl⟩ := hokt
    have HD : Hid (S.dialed ⟨seq, ack, true, true, fin, xs⟩ tick = ({ S.acks ack tick with st := 3, rcv := onN seq 1 } : Fl).tell) := Lib.hid (by
      unfold Fl.dialed
      exact if_pos ⟨rfl, rfl, HEE.out.symm⟩)
    have b7 := Blk.newAt (w := w2) (t := 97) (cs := #[.bool false, .bool false, .bool false, .bool false, .bool false, .slice none 0 0]) (g := w2.heap.size) rfl
    have f7 := (Fine.refl w2).alloc (.cells #[.bool false, .bool false, .bool false, .bool false, .bool false, .slice none 0 0] 97)
    have hsz7 : w2.heap.size < (w2.alloc (.cells #[.bool false, .bool false, .bool false, .bool false, .bool false, .slice none 0 0] 97)).heap.size := b7.lt
    obtain ⟨x7, hx7⟩ : ∃ z, w2.heap.size = z := ⟨_, rfl⟩
    rw [hx7] at b7 hsz7
    have HX7 := Lib.hid hx7
    have hx47 : Hid (x4 ≠ x7) := Lib.hid (fun e => by have := B4b.out.lt; omega)
    go_upto_region 4 with fail
    generalize w2.alloc (.cells #[.bool false, .bool false, .bool false, .bool false, .bool false, .slice none 0 0] 97) = w3 at b7 f7 hsz7 ⊢
    have F3 := Lib.hid (F2.out.trans f7); have B43 := Lib.hid (B4b.out.fine f7); have B63 := Lib.hid (B6b.out.fine f7); have HS7 := Lib.hid hsz7
    have hx7F : Hid (¬ F x7) := Lib.hid (fun h => by have := HF.out x7 h; have := F2.out.size; omega)
    have H3 : Hid (HeardOf F f x7 S false w3 w3) := Lib.hid ⟨F, false, false, false, false, ⟨none, 0, 0⟩, H2.out.fine f7, b7, Kept.refl _ _, fun b hb => .inl hb⟩
    have hx67 : Hid (x6 ≠ x7) := Lib.hid (fun e => by have := B6b.out.lt; omega)
    have hx7w : Hid (w.heap.size ≤ x7) := Lib.hid (by have := F2.out.size; omega)
    clear b7 f7 hsz7 hx7 H2 B6b B4b
    obtain ⟨q, hq0, hqa⟩ := ackgo tick ht HOK.out HSI.out ack hx7F.out HS7.out H3.out
    have hable : S.ackable ack := by unfold Fl.ackable; rw [HEE.out]; omega
    have HACK := Lib.hid ((hqa w3.drew (Fine.refl w3).drew).1 hable)
    have d4 : w3.cell? ⟨x4, 4, none⟩ = some (.int .u32 seq) := B43.out.cell 4
    have d5 : w3.cell? ⟨x4, 5, none⟩ = some (.int .u32 ack) := B43.out.cell 5
    clear hqa hable
    go_cut [8] (fun s8 wx => ∃ lA lc n, s8 = .slice lA n lc ∧ Hid (Calls Try.prog 79 #[.pointer (some ⟨f, 0, none⟩), .slice lA n lc, .int .i64 tick, .pointer (some ⟨x7, 0, none⟩)] wx fun e w' => e = .returned (.tuple #[]) ∧ HeardOf F f x7 (S.acks ack tick) false w3 w'))
    case first =>
      go_region_law (first | (go_simp; go_at_call 30; refine HACK.out.mono ?_; rintro e wE ⟨lA, lc, n, rfl, h9⟩))
      all_goals
        have H9 := Lib.hid (h9 wE (Fine.refl wE))
        clear h9
        go_wp2_with fail
        go_meet
        exact ⟨lA, lc, n, rfl, H9⟩
    case rest =>
    obtain ⟨lA, lc, n, rfl, HW⟩ := hcut
    clear hq0 d4 d5 HACK
    go_wp2_with fail
    refine HW.out.mono ?_
    rintro e w5 ⟨rfl, h5⟩
    have H5 := Lib.hid h5
    have K5 := Lib.hid (by obtain ⟨F1, o, fi, re, de, v, j1, j2, j3, j4⟩ := h5; exact j3 : Kept (fun b => F b ∨ b = x7) w3 w5)
    have B45 := Lib.hid (B43.out.kept K5.out (fun h => h.elim (fun h => by have := HF.out x4 h; have := HX4.out; omega) hx47.out))
    obtain ⟨S5, hS5⟩ : ∃ z, S.acks ack tick = z := ⟨_, rfl⟩
    rw [hS5] at H5 HD
    have HO5 : Hid (S5.out.length ≤ 90000) := Lib.hid (by rw [← hS5, acks_out]; exact HOK.out.o)
    clear h5 hS5 HW B43
    go_upto_region 6 with fail
    obtain ⟨c5, c6, z5, z6, cx4, zx4, zx1, bx1, cx1⟩ := H5.out.cells
    clear cx4 zx4 zx1 cx1
    have d4 : w5.cell? ⟨x4, 4, none⟩ = some (.int .u32 seq) := B45.out.cell 4
    obtain ⟨r1, hr1⟩ : ∃ z, onN seq 1 = z := ⟨_, rfl⟩
    have e1 : IntKind.u32.wrap (seq + 1) = r1 := by rw [← hr1, IntKind.wrap_u32]; rfl
    rw [hr1] at HD
    clear hr1
    obtain ⟨st5, hst5⟩ : ∃ z, S5.st = z := ⟨_, rfl⟩
    obtain ⟨rc5, hrc5⟩ : ∃ z, S5.rcv = z := ⟨_, rfl⟩
    rw [hst5] at c5
    rw [hrc5] at c6
    clear hst5 hrc5
    go_cut [] (fun wx => Hid (HeardOf F f x7 ({ S5 with st := 3, rcv := r1 } : Fl) false w3 wx ∧ Kept (· = f) w5 wx))
    case first =>
      have HR := Lib.hid (((H5.out.fine (Fine.refl w5).drew).st 3 hx7F.out HS7.out).rcv r1 hx7F.out HS7.out)
      have HR' := Lib.hid (((H5.out.fine (Fine.refl w5).drew).rcv r1 hx7F.out HS7.out).st 3 hx7F.out HS7.out)
      go_region_law (fail)
      all_goals
        go_wp2_with fail
        go_meet
      all_goals
        first
        | exact Lib.hid ⟨HR.out, (((Kept.of_fine (Fine.refl w5).drew : Kept (· = f) w5 w5.drew).setIn (p := ⟨f, 5, none⟩) rfl _).setIn (p := ⟨f, 6, none⟩) rfl _)⟩
        | exact Lib.hid ⟨HR'.out, (((Kept.of_fine (Fine.refl w5).drew : Kept (· = f) w5 w5.drew).setIn (p := ⟨f, 6, none⟩) rfl _).setIn (p := ⟨f, 5, none⟩) rfl _)⟩
    case rest =>
    obtain ⟨w6, hw6⟩ : ∃ z, z = wc := ⟨_, rfl⟩
    subst hw6
    have H6 := Lib.hid hcut.out.1
    clear hcut c5 c6 z5 z6 d4 e1 H5 B45 K5
    obtain ⟨zo, bo, co⟩ := H6.out.cell0
    have H7 := Lib.hid (H6.out.open_ hx7F.out HS7.out)
    go_upto_region 8 with fail
    clear zo co
    generalize w6.setCell ⟨x7, 0, none⟩ (.bool true) = w7 at H7 ⊢
    go_wp2_with fail
    refine (tell_flow (by show S5.out.length ≤ 100000; have := HO5.out; omega) hx7F.out HS7.out H7.out).mono ?_
    rintro e w8 ⟨rfl, h8⟩
    have H8 := Lib.hid h8
    have B68 : Hid (Blk w8 x6 97 #[.bool false, .bool false, .bool false, .bool false, .bool false, .slice none 0 0]) := Lib.hid (by
      obtain ⟨F1, o, fi, re, de, v, j1, j2, j3, j4⟩ := h8
      exact B63.out.kept j3 (fun h => h.elim (fun h => by have := HF.out x6 h; have := hx6w.out; omega) hx67.out))
    obtain ⟨o, fi, re, de, vA, vn, vc, b8⟩ : ∃ o fi re de vA vn vc, Blk w8 x7 97 (hv o fi re de false (.slice vA vn vc)) := by obtain ⟨F1, o, fi, re, de, v, j1, j2, j3, j4⟩ := h8; exact ⟨o, fi, re, de, v.A, v.n, v.c, j2⟩
    have y0 : w8.cell? ⟨x7, 0, none⟩ = some (.bool o) := b8.cell 0
    have y1 : w8.cell? ⟨x7, 1, none⟩ = some (.bool fi) := b8.cell 1
    have y2 : w8.cell? ⟨x7, 2, none⟩ = some (.bool re) := b8.cell 2
    have y3 : w8.cell? ⟨x7, 3, none⟩ = some (.bool de) := b8.cell 3
    have y4 : w8.cell? ⟨x7, 4, none⟩ = some (.bool false) := b8.cell 4
    have y5 : w8.cell? ⟨x7, 5, none⟩ = some (.slice vA vn vc) := b8.cell 5
    have e0 : w8.cell? ⟨x6, 0, none⟩ = some (.bool false) := B68.out.cell 0
    have e1 : w8.cell? ⟨x6, 1, none⟩ = some (.bool false) := B68.out.cell 1
    have e2 : w8.cell? ⟨x6, 2, none⟩ = some (.bool false) := B68.out.cell 2
    have e3 : w8.cell? ⟨x6, 3, none⟩ = some (.bool false) := B68.out.cell 3
    have e4 : w8.cell? ⟨x6, 4, none⟩ = some (.bool false) := B68.out.cell 4
    have e5 : w8.cell? ⟨x6, 5, none⟩ = some (.slice none 0 0) := B68.out.cell 5
    have z0 := B68.out.frozen 0
    have z1 := B68.out.frozen 1
    have z2 := B68.out.frozen 2
    have z3 := B68.out.frozen 3
    have z4 := B68.out.frozen 4
    have z5 := B68.out.frozen 5
    have BF := Lib.hid (B68.out.six97 rfl o fi re de false (.slice vA vn vc))
    clear h8 b8
    go_wp2_with fail
    exact bodyPost_ret (results_cell_row rfl _ _ x6 97 _ (0, 0) _ rfl BF.out.1 Try.underlying97 rfl size97) rfl ⟨⟨_, _, _, _, _, _, _, rfl⟩, by rw [HD.out]; exact HeardOf.done HF.out F3.out hx7w.out hx6w.out B63.out.lt H8.out BF.out.2⟩
end
end Go.Proofs.Ytjldgialhgfhmaa
