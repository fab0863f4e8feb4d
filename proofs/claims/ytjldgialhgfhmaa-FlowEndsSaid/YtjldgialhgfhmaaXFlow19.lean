/- A flow: Hear. -/
import Derived.Test.YtjldgialhgfhmaaXFlow18
namespace Go.Proofs.Ytjldgialhgfhmaa
set_option linter.unusedVariables false
set_option linter.unusedSimpArgs false
open Go.ChangeShapes Go.WideShapes Go.ChangeAt Go.RowKit Go.Maps
set_option linter.unusedVariables false
set_option linter.unusedSimpArgs false
section
variable {F : Nat → Prop} {w w' w0 : World} {f x : Nat} {S S' : Fl} {fr : Bool}
theorem again_flow {w1 : World} (tick : Int) (ht : 0 ≤ tick ∧ tick ≤ 1099511627776) (hok : S.Ok) (hx : ¬ F x) (hxl : x < w.heap.size) (h : HeardOf F f x S fr w w1) : Calls Try.prog 77 #[.pointer (some ⟨f, 0, none⟩), .int .i64 tick] w1 fun e w' => e = .returned (.tuple #[]) ∧ HeardOf F f x (S.again tick) fr w w' := by
  obtain ⟨F1, o, fi, re, de, v, j1, j2, j3, j4⟩ := h
  refine (again_any tick ht hok j1).mono ?_
  rintro e w2 ⟨h1, F2, k1, k2, k3⟩
  refine ⟨h1, F2, o, fi, re, de, v, k1, j2.kept k2 (fun h => (j4 x h).elim hx (fun h => by omega)), j3.transG k2 (fun _ _ h => h) (fun y hy h => (j4 y h).elim .inl (fun h => by omega)), fun b hb => ?_⟩
  rcases k3 b hb with h | h
  · exact j4 b h
  · exact .inr (Nat.le_trans j3.size h)
theorem over_flow {w1 : World} (h : HeardOf F f x S fr w w1) : Calls Try.prog 73 #[.pointer (some ⟨f, 0, none⟩)] w1 fun e w' => e = .returned (.bool (decide (10 ≤ S.st))) ∧ Fine w1 w' := by
  obtain ⟨F1, o, fi, re, de, v, j1, j2, j3, j4⟩ := h
  exact over_same j1
theorem takes_flow {w1 : World} (tick : Int) (ht : 0 ≤ tick ∧ tick ≤ 1099511627776) (hno : S.out.length ≤ 90000) (s : Sg) (hxl : x < w.heap.size) (hx : ¬ F x) (hdn : s.dl = s.xs.length) (hdl : s.dl ≤ 1000) (h : HeardOf F f x S false w w1) :
    Calls Try.prog 80 #[.pointer (some ⟨f, 0, none⟩), .agg s.cells.toArray, .int .i64 tick, .pointer (some ⟨x, 0, none⟩)] w1 fun e w' => e = .returned (.tuple #[]) ∧ HeardOf F f x (S.takes ⟨s.seq, s.ack, s.syn, s.acks, s.fin, s.xs⟩ tick).1 (S.takes ⟨s.seq, s.ack, s.syn, s.acks, s.fin, s.xs⟩ tick).2 w w' := by
  obtain ⟨F1, o, fi, re, de, v, j1, j2, j3, j4⟩ := h
  have hx1 : ¬ F1 x := fun h => (j4 x h).elim hx (fun h => by omega)
  refine (takes_any tick ht hno s (Nat.lt_of_lt_of_le hxl j3.size) hx1 hdn hdl j2 j1).mono ?_
  rintro e w2 ⟨h1, F2, o2, fi2, re2, de2, v2, k1, k2, k3, k4⟩
  refine ⟨h1, F2, o2, fi2, re2, de2, v2, k1, k2, j3.transG k3 (fun _ _ h => h) (fun y hy h => ?_), fun b hb => ?_⟩
  · rcases h with h | h
    · exact (j4 y h).elim .inl (fun h => by omega)
    · exact .inr h
  · rcases k4 b hb with h | h
    · exact j4 b h
    · exact .inr (Nat.le_trans j3.size h)
set_option maxHeartbeats 4000000 in
set_option maxRecDepth 20000 in
theorem hear_any (tick : Int) (ht : 0 ≤ tick ∧ tick ≤ 1099511627776) (hok : S.Ok) (hs : -1099511627776 ≤ S.since ∧ S.since ≤ 1099511627776) (s : Sg) (hdn : s.dl = s.xs.length) (hdl : s.dl ≤ 1000) (hrst : s.rst = false) (h : FlS F w f S) :
    Calls Try.prog 55 #[.pointer (some ⟨f, 0, none⟩), .agg s.cells.toArray, .int .i64 tick] w fun e w' => HeardV (S.hear ⟨s.seq, s.ack, s.syn, s.acks, s.fin, s.xs⟩ tick).2 e ∧ FlOf F f (S.hear ⟨s.seq, s.ack, s.syn, s.acks, s.fin, s.xs⟩ tick).1 w w' := by
  by_cases h10 : 10 ≤ S.st
  · refine (hear_over s tick w h h10).mono ?_
    rintro e w' ⟨rfl, hf⟩
    have e : S.hear ⟨s.seq, s.ack, s.syn, s.acks, s.fin, s.xs⟩ tick = (S, false) := by unfold Fl.hear; exact if_pos h10
    rw [e]
    exact ⟨⟨_, _, _, _, _, _, _, rfl⟩, FlOf.self h hf⟩
  have HOK := Lib.hid hok; have HSI := Lib.hid hs
  obtain ⟨src, dst, sp, dp, seq, ack, syn, acks, fin, rst, win, oA, ol, oc, dA, dl, dc, xs⟩ := s
  have hrst : rst = false := hrst
  subst hrst
  have HDN : Hid (dl = xs.length) := Lib.hid hdn
  have HDL : Hid (dl ≤ 1000) := Lib.hid hdl
  have HF : Hid (∀ b, F b → b < w.heap.size) := Lib.hid h.lt
  have HH10 : Hid (S.st < 10) := Lib.hid (by omega)
  show Calls Try.prog 55 #[.pointer (some ⟨f, 0, none⟩), .agg #[.int .i64 src, .int .i64 dst, .int .i64 sp, .int .i64 dp, .int .u32 seq, .int .u32 ack, .bool syn, .bool acks, .bool fin, .bool false, .int .i64 win, .slice oA ol oc, .slice dA dl dc], .int .i64 tick] w fun e w' => HeardV (S.hear ⟨seq, ack, syn, acks, fin, xs⟩ tick).2 e ∧ FlOf F f (S.hear ⟨seq, ack, syn, acks, fin, xs⟩ tick).1 w w'
  obtain ⟨x4, hx4⟩ : ∃ x, w.heap.size = x := ⟨_, rfl⟩
  have b4 := Blk.newAt (w := w) (t := 89) (cs := #[.int .i64 src, .int .i64 dst, .int .i64 sp, .int .i64 dp, .int .u32 seq, .int .u32 ack, .bool syn, .bool acks, .bool fin, .bool false, .int .i64 win, .slice oA ol oc, .slice dA dl dc]) hx4.symm
  have f4 := (Fine.refl w).alloc (.cells #[.int .i64 src, .int .i64 dst, .int .i64 sp, .int .i64 dp, .int .u32 seq, .int .u32 ack, .bool syn, .bool acks, .bool fin, .bool false, .int .i64 win, .slice oA ol oc, .slice dA dl dc] 89)
  have hsz : (w.alloc (.cells #[.int .i64 src, .int .i64 dst, .int .i64 sp, .int .i64 dp, .int .u32 seq, .int .u32 ack, .bool syn, .bool acks, .bool fin, .bool false, .int .i64 win, .slice oA ol oc, .slice dA dl dc] 89)).heap.size = x4 + 1 := by simp [hx4]
  have b6 := Blk.newAt (w := w.alloc (.cells #[.int .i64 src, .int .i64 dst, .int .i64 sp, .int .i64 dp, .int .u32 seq, .int .u32 ack, .bool syn, .bool acks, .bool fin, .bool false, .int .i64 win, .slice oA ol oc, .slice dA dl dc] 89)) (t := 97) (cs := #[.bool false, .bool false, .bool false, .bool false, .bool false, .slice none 0 0]) (g := x4 + 1) hsz.symm
  have f6 := f4.alloc (.cells #[.bool false, .bool false, .bool false, .bool false, .bool false, .slice none 0 0] 97)
  have hsz2 : ((w.alloc (.cells #[.int .i64 src, .int .i64 dst, .int .i64 sp, .int .i64 dp, .int .u32 seq, .int .u32 ack, .bool syn, .bool acks, .bool fin, .bool false, .int .i64 win, .slice oA ol oc, .slice dA dl dc] 89)).alloc (.cells #[.bool false, .bool false, .bool false, .bool false, .bool false, .slice none 0 0] 97)).heap.size = x4 + 2 := by simp [hx4]
  have b7 := Blk.newAt (w := (w.alloc (.cells #[.int .i64 src, .int .i64 dst, .int .i64 sp, .int .i64 dp, .int .u32 seq, .int .u32 ack, .bool syn, .bool acks, .bool fin, .bool false, .int .i64 win, .slice oA ol oc, .slice dA dl dc] 89)).alloc (.cells #[.bool false, .bool false, .bool false, .bool false, .bool false, .slice none 0 0] 97)) (t := 97) (cs := #[.bool false, .bool false, .bool false, .bool false, .bool false, .slice none 0 0]) (g := x4 + 2) hsz2.symm
  have f7 := f6.alloc (.cells #[.bool false, .bool false, .bool false, .bool false, .bool false, .slice none 0 0] 97)
  have b4' := b4.fine (((Fine.refl (w.alloc (.cells #[.int .i64 src, .int .i64 dst, .int .i64 sp, .int .i64 dp, .int .u32 seq, .int .u32 ack, .bool syn, .bool acks, .bool fin, .bool false, .int .i64 win, .slice oA ol oc, .slice dA dl dc] 89))).alloc (.cells #[.bool false, .bool false, .bool false, .bool false, .bool false, .slice none 0 0] 97)).alloc (.cells #[.bool false, .bool false, .bool false, .bool false, .bool false, .slice none 0 0] 97))
  have b6' := b6.fine ((Fine.refl ((w.alloc (.cells #[.int .i64 src, .int .i64 dst, .int .i64 sp, .int .i64 dp, .int .u32 seq, .int .u32 ack, .bool syn, .bool acks, .bool fin, .bool false, .int .i64 win, .slice oA ol oc, .slice dA dl dc] 89)).alloc (.cells #[.bool false, .bool false, .bool false, .bool false, .bool false, .slice none 0 0] 97))).alloc (.cells #[.bool false, .bool false, .bool false, .bool false, .bool false, .slice none 0 0] 97))
  have HX4 := Lib.hid hx4
  have H0 := Lib.hid h
  clear h hok hs b4 f4 b6 f6 hdn hdl h10
  go_enter Try.func55, Try.ntmps55
  go_upto_region 2 with fail
  generalize ((w.alloc (.cells #[.int .i64 src, .int .i64 dst, .int .i64 sp, .int .i64 dp, .int .u32 seq, .int .u32 ack, .bool syn, .bool acks, .bool fin, .bool false, .int .i64 win, .slice oA ol oc, .slice dA dl dc] 89)).alloc (.cells #[.bool false, .bool false, .bool false, .bool false, .bool false, .slice none 0 0] 97)).alloc (.cells #[.bool false, .bool false, .bool false, .bool false, .bool false, .slice none 0 0] 97) = w3 at b4' b6' b7 f7 ⊢
  obtain ⟨x6, hx6⟩ : ∃ z, x4 + 1 = z := ⟨_, rfl⟩
  obtain ⟨x7, hx7⟩ : ∃ z, x4 + 2 = z := ⟨_, rfl⟩
  rw [hx6] at b6' ⊢
  rw [hx7] at b7 ⊢
  have F3 := Lib.hid f7; have B43 := Lib.hid b4'; have B63 := Lib.hid b6'
  have HS7 : Hid (x7 < w3.heap.size) := Lib.hid b7.lt
  have hx7F : Hid (¬ F x7) := Lib.hid (fun h => by have := HF.out x7 h; have := HX4.out; omega)
  have H3 : Hid (HeardOf F f x7 S false w3 w3) := Lib.hid ⟨F, false, false, false, false, ⟨none, 0, 0⟩, H0.out.fine f7, b7, Kept.refl _ _, fun b hb => .inl hb⟩
  have hx67 : Hid (x6 ≠ x7) := Lib.hid (by omega)
  have hx47 : Hid (x4 ≠ x7) := Lib.hid (by omega)
  have hx7w : Hid (w.heap.size ≤ x7) := Lib.hid (by have := HX4.out; omega)
  have hx6w : Hid (w.heap.size ≤ x6) := Lib.hid (by have := HX4.out; omega)
  have hx4w : Hid (w.heap.size ≤ x4) := Lib.hid (by have := HX4.out; omega)
  have H03 := Lib.hid (H0.out.fine f7)
  clear b4' b6' b7 f7 hsz hsz2 hx4 hx6 hx7 H0
  have HOV := Lib.hid (over_flow H3.out)
  rw [decide_eq_false (by have := HH10.out; omega)] at HOV
  go_wp2_with fail
  refine HOV.out.mono ?_
  rintro e w4 ⟨rfl, f4⟩
  have H4 := Lib.hid (H3.out.fine f4); have B44 := Lib.hid (B43.out.fine f4); have F34 := Lib.hid f4; have H04 := Lib.hid (H03.out.fine f4)
  clear f4 HOV
  obtain ⟨st, hst⟩ : ∃ z, S.st = z := ⟨_, rfl⟩
  have HST := Lib.hid hst
  have c5 : w4.cell? ⟨f, 5, none⟩ = some (.int .i64 st) := by rw [← hst]; exact H4.out.cells.1
  obtain ⟨rcv, hrcv⟩ : ∃ z, S.rcv = z := ⟨_, rfl⟩
  have HRC := Lib.hid hrcv
  have c6 : w4.cell? ⟨f, 6, none⟩ = some (.int .u32 rcv) := by rw [← hrcv]; exact H4.out.cells.2.1
  clear hst hrcv H3
  have d0 : w4.cell? ⟨x4, 0, none⟩ = some (.int .i64 src) := B44.out.cell 0
  have d1 : w4.cell? ⟨x4, 1, none⟩ = some (.int .i64 dst) := B44.out.cell 1
  have d2 : w4.cell? ⟨x4, 2, none⟩ = some (.int .i64 sp) := B44.out.cell 2
  have d3 : w4.cell? ⟨x4, 3, none⟩ = some (.int .i64 dp) := B44.out.cell 3
  have d4 : w4.cell? ⟨x4, 4, none⟩ = some (.int .u32 seq) := B44.out.cell 4
  have d5 : w4.cell? ⟨x4, 5, none⟩ = some (.int .u32 ack) := B44.out.cell 5
  have d6 : w4.cell? ⟨x4, 6, none⟩ = some (.bool syn) := B44.out.cell 6
  have d7 : w4.cell? ⟨x4, 7, none⟩ = some (.bool acks) := B44.out.cell 7
  have d8 : w4.cell? ⟨x4, 8, none⟩ = some (.bool fin) := B44.out.cell 8
  have d9 : w4.cell? ⟨x4, 9, none⟩ = some (.bool false) := B44.out.cell 9
  have d10 : w4.cell? ⟨x4, 10, none⟩ = some (.int .i64 win) := B44.out.cell 10
  have d11 : w4.cell? ⟨x4, 11, none⟩ = some (.slice oA ol oc) := B44.out.cell 11
  have d12 : w4.cell? ⟨x4, 12, none⟩ = some (.slice dA dl dc) := B44.out.cell 12
  by_cases h1 : st = 1
  · subst h1
    have HD : Hid (S.hear ⟨seq, ack, syn, acks, fin, xs⟩ tick = (S.dialed ⟨seq, ack, syn, acks, fin, xs⟩ tick, false)) := Lib.hid (by unfold Fl.hear; rw [if_neg (by have := HH10.out; omega), if_pos HST.out])
    have HDI : Hid (Calls Try.prog 76 #[.pointer (some ⟨f, 0, none⟩), .agg #[.int .i64 src, .int .i64 dst, .int .i64 sp, .int .i64 dp, .int .u32 seq, .int .u32 ack, .bool syn, .bool acks, .bool fin, .bool false, .int .i64 win, .slice oA ol oc, .slice dA dl dc], .int .i64 tick] w4 fun e w' => HeardV false e ∧ FlOf F f (S.dialed ⟨seq, ack, syn, acks, fin, xs⟩ tick) w4 w') := Lib.hid (dialed_any tick ht HOK.out HSI.out ⟨src, dst, sp, dp, seq, ack, syn, acks, fin, false, win, oA, ol, oc, dA, dl, dc, xs⟩ H04.out)
    go_wp2_with fail
    refine HDI.out.mono ?_
    rintro e w5 ⟨⟨o, fi, re, de, vA, vn, vc, rfl⟩, h5⟩
    have H5 := Lib.hid h5
    have B65 := Lib.hid (FlOf.box H5.out HF.out hx6w.out (B63.out.fine F34.out))
    have F4 := Lib.hid (F3.out.trans F34.out)
    clear h5 HDI d0 d1 d2 d3 d4 d5 d6 d7 d8 d9 d10 d11 d12 c5 c6
    have e0 : w5.cell? ⟨x6, 0, none⟩ = some (.bool false) := B65.out.cell 0
    have e1 : w5.cell? ⟨x6, 1, none⟩ = some (.bool false) := B65.out.cell 1
    have e2 : w5.cell? ⟨x6, 2, none⟩ = some (.bool false) := B65.out.cell 2
    have e3 : w5.cell? ⟨x6, 3, none⟩ = some (.bool false) := B65.out.cell 3
    have e4 : w5.cell? ⟨x6, 4, none⟩ = some (.bool false) := B65.out.cell 4
    have e5 : w5.cell? ⟨x6, 5, none⟩ = some (.slice none 0 0) := B65.out.cell 5
    have z0 := B65.out.frozen 0
    have z1 := B65.out.frozen 1
    have z2 := B65.out.frozen 2
    have z3 := B65.out.frozen 3
    have z4 := B65.out.frozen 4
    have z5 := B65.out.frozen 5
    have BF := Lib.hid (B65.out.six97 rfl o fi re de false (.slice vA vn vc))
    go_wp2_with fail
    exact bodyPost_ret (results_cell_row rfl _ _ x6 97 _ (0, 0) _ rfl BF.out.1 Try.underlying97 rfl size97) rfl ⟨by rw [HD.out]; exact ⟨_, _, _, _, _, _, _, rfl⟩, by rw [HD.out]; exact FlOf.side H5.out HF.out F4.out hx6w.out (Nat.lt_of_lt_of_le B63.out.lt F34.out.size) BF.out.2⟩
  · have g1 : (st == 1) = false := by simpa using h1
    have hn1 : Hid (¬ S.st = 1) := Lib.hid (by rw [HST.out]; exact h1)
    obtain ⟨ag, hag⟩ : ∃ z, decide (syn = true ∧ st = 2 ∧ acks = false ∧ onN seq 1 = rcv) = z := ⟨_, rfl⟩
    have HAG := Lib.hid hag
    clear hag h1
    go_upto_region 8 with fail
    clear g1
    go_cut [30] (fun s30 wx => s30 = .bool ag ∧ Hid (Fine w4 wx))
    case first =>
      have e1 : IntKind.u32.wrap (seq + 1) = onN seq 1 := by rw [IntKind.wrap_u32]; rfl
      obtain ⟨sq1, hsq1⟩ : ∃ z, onN seq 1 = z := ⟨_, rfl⟩
      rw [hsq1] at e1
      have HSQ := Lib.hid hsq1
      clear hsq1
      by_cases hs1 : syn = true
      · subst hs1
        by_cases h2 : st = 2
        · subst h2
          cases acks with
          | true =>
            have e : Hid (ag = false) := Lib.hid (by rw [← HAG.out]; simp)
            go_quiet (fail)
            go_wp2_with fail
            go_meet
            exact ⟨by rw [e.out], Lib.hid ((Fine.refl w4).drewN _)⟩
          | false =>
            by_cases h4 : sq1 = rcv
            · have e : Hid (ag = true) := Lib.hid (by rw [← HAG.out, HSQ.out]; simp [h4])
              have g : (sq1 == rcv) = true := by simpa using h4
              clear h4
              go_quiet (fail)
              go_wp2_with fail
              go_meet
              exact ⟨by rw [e.out], Lib.hid ((Fine.refl w4).drewN _)⟩
            · have e : Hid (ag = false) := Lib.hid (by rw [← HAG.out, HSQ.out]; simp [h4])
              have g : (sq1 == rcv) = false := by simpa using h4
              clear h4
              go_quiet (fail)
              go_wp2_with fail
              go_meet
              exact ⟨by rw [e.out], Lib.hid ((Fine.refl w4).drewN _)⟩
        · have e : Hid (ag = false) := Lib.hid (by rw [← HAG.out]; simp [h2])
          have g2 : (st == 2) = false := by simpa using h2
          clear h2
          go_quiet (fail)
          go_wp2_with fail
          go_meet
          exact ⟨by rw [e.out], Lib.hid ((Fine.refl w4).drewN _)⟩
      · have hs0 : syn = false := by simpa using hs1
        subst hs0
        have e : Hid (ag = false) := Lib.hid (by rw [← HAG.out]; simp)
        clear hs1
        go_quiet (fail)
        go_wp2_with fail
        go_meet
        exact ⟨by rw [e.out], Lib.hid ((Fine.refl w4).drewN _)⟩
    case rest =>
    obtain ⟨rfl, HF5⟩ := hcut
    obtain ⟨w5, hw5⟩ : ∃ z, z = wc := ⟨_, rfl⟩
    subst hw5
    have H5 := Lib.hid (H4.out.fine HF5.out); have B45 := Lib.hid (B44.out.fine HF5.out)
    clear d0 d1 d2 d3 d4 d5 d6 d7 d8 d9 d10 d11 d12 c5 c6 H4 B44 HF5
    cases ag with
    | true =>
      have hcond := of_decide_eq_true HAG.out
      have HD : Hid (S.hear ⟨seq, ack, syn, acks, fin, xs⟩ tick = (S.again tick, false)) := Lib.hid (by
        unfold Fl.hear
        rw [if_neg (by have := HH10.out; omega), if_neg hn1.out]
        exact if_pos ⟨hcond.1, HST.out.trans hcond.2.1, hcond.2.2.1, hcond.2.2.2.trans HRC.out.symm⟩)
      clear hcond
      go_wp2_with fail
      refine (again_flow tick ht HOK.out hx7F.out HS7.out H5.out).mono ?_
      rintro e w8 ⟨rfl, h8⟩
      have H8 := Lib.hid h8
      clear h8 H5 B45
      obtain ⟨frv, hfrv⟩ : ∃ z, false = z := ⟨_, rfl⟩
      rw [hfrv] at H8 HD
      clear hfrv
      have B68 : Hid (Blk w8 x6 97 #[.bool false, .bool false, .bool false, .bool false, .bool false, .slice none 0 0]) := Lib.hid (by
        obtain ⟨F1, o, fi, re, de, v, j1, j2, j3, j4⟩ := H8.out
        exact B63.out.kept j3 (fun h => h.elim (fun h => by have := HF.out x6 h; have := hx6w.out; omega) hx67.out))
      obtain ⟨o, fi, re, de, vA, vn, vc, b8⟩ : ∃ o fi re de vA vn vc, Blk w8 x7 97 (hv o fi re de frv (.slice vA vn vc)) := by obtain ⟨F1, o, fi, re, de, v, j1, j2, j3, j4⟩ := H8.out; exact ⟨o, fi, re, de, v.A, v.n, v.c, j2⟩
      have y0 : w8.cell? ⟨x7, 0, none⟩ = some (.bool o) := b8.cell 0
      have y1 : w8.cell? ⟨x7, 1, none⟩ = some (.bool fi) := b8.cell 1
      have y2 : w8.cell? ⟨x7, 2, none⟩ = some (.bool re) := b8.cell 2
      have y3 : w8.cell? ⟨x7, 3, none⟩ = some (.bool de) := b8.cell 3
      have y4 : w8.cell? ⟨x7, 4, none⟩ = some (.bool frv) := b8.cell 4
      have y5 : w8.cell? ⟨x7, 5, none⟩ = some (.slice vA vn vc) := b8.cell 5
      have e0 : w8.cell? ⟨x6, 0, none⟩ = some (.bool false) := B68.out.cell 0
      have e1 : w8.cell? ⟨x6, 1, none⟩ = some (.bool false) := B68.out.cell 1
      have e2 : w8.cell? ⟨x6, 2, none⟩ = some (.bool false) := B68.out.cell 2
      have e3 : w8.cell? ⟨x6, 3, none⟩ = some (.bool false) := B68.out.cell 3
      have e4 : w8.cell? ⟨x6, 4, none⟩ = some (.bool false) := B68.out.cell 4
      have e5 : w8.cell? ⟨x6, 5, none⟩ = some (.slice none 0 0) := B68.out.cell 5
      have z0 := B68.out.frozen 0
      have z1 := B68.out.frozen 1
      have z2 := B68.out.frozen 2
      have z3 := B68.out.frozen 3
      have z4 := B68.out.frozen 4
      have z5 := B68.out.frozen 5
      have BF := Lib.hid (B68.out.six97 rfl o fi re de frv (.slice vA vn vc))
      clear b8
      go_wp2_with fail
      exact bodyPost_ret (results_cell_row rfl _ _ x6 97 _ (0, 0) _ rfl BF.out.1 Try.underlying97 rfl size97) rfl ⟨by rw [HD.out]; exact ⟨_, _, _, _, _, _, _, rfl⟩, by rw [HD.out]; exact HeardOf.done HF.out F3.out hx7w.out hx6w.out B63.out.lt H8.out BF.out.2⟩
    | false =>
      have hcond : Hid (¬ (syn = true ∧ S.st = 2 ∧ acks = false ∧ onN seq 1 = S.rcv)) := Lib.hid (fun h => (of_decide_eq_false HAG.out) ⟨h.1, HST.out.symm.trans h.2.1, h.2.2.1, h.2.2.2.trans HRC.out⟩)
      have d6 : w5.cell? ⟨x4, 6, none⟩ = some (.bool syn) := B45.out.cell 6
      have d7 : w5.cell? ⟨x4, 7, none⟩ = some (.bool acks) := B45.out.cell 7
      cases syn with
      | true =>
        have HD : Hid (S.hear ⟨seq, ack, true, acks, fin, xs⟩ tick = (S.tell, false)) := Lib.hid (by
          unfold Fl.hear
          rw [if_neg (by have := HH10.out; omega), if_neg hn1.out, if_neg hcond.out]
          exact if_pos rfl)
        go_wp2_with fail
        refine (tell_flow (by have := HOK.out.o; omega) hx7F.out HS7.out H5.out).mono ?_
        rintro e w8 ⟨rfl, h8⟩
        have H8 := Lib.hid h8
        clear h8 H5 B45 d6 d7
        obtain ⟨frv, hfrv⟩ : ∃ z, false = z := ⟨_, rfl⟩
        rw [hfrv] at H8 HD
        clear hfrv
        have B68 : Hid (Blk w8 x6 97 #[.bool false, .bool false, .bool false, .bool false, .bool false, .slice none 0 0]) := Lib.hid (by
          obtain ⟨F1, o, fi, re, de, v, j1, j2, j3, j4⟩ := H8.out
          exact B63.out.kept j3 (fun h => h.elim (fun h => by have := HF.out x6 h; have := hx6w.out; omega) hx67.out))
        obtain ⟨o, fi, re, de, vA, vn, vc, b8⟩ : ∃ o fi re de vA vn vc, Blk w8 x7 97 (hv o fi re de frv (.slice vA vn vc)) := by obtain ⟨F1, o, fi, re, de, v, j1, j2, j3, j4⟩ := H8.out; exact ⟨o, fi, re, de, v.A, v.n, v.c, j2⟩
        have y0 : w8.cell? ⟨x7, 0, none⟩ = some (.bool o) := b8.cell 0
        have y1 : w8.cell? ⟨x7, 1, none⟩ = some (.bool fi) := b8.cell 1
        have y2 : w8.cell? ⟨x7, 2, none⟩ = some (.bool re) := b8.cell 2
        have y3 : w8.cell? ⟨x7, 3, none⟩ = some (.bool de) := b8.cell 3
        have y4 : w8.cell? ⟨x7, 4, none⟩ = some (.bool frv) := b8.cell 4
        have y5 : w8.cell? ⟨x7, 5, none⟩ = some (.slice vA vn vc) := b8.cell 5
        have e0 : w8.cell? ⟨x6, 0, none⟩ = some (.bool false) := B68.out.cell 0
        have e1 : w8.cell? ⟨x6, 1, none⟩ = some (.bool false) := B68.out.cell 1
        have e2 : w8.cell? ⟨x6, 2, none⟩ = some (.bool false) := B68.out.cell 2
        have e3 : w8.cell? ⟨x6, 3, none⟩ = some (.bool false) := B68.out.cell 3
        have e4 : w8.cell? ⟨x6, 4, none⟩ = some (.bool false) := B68.out.cell 4
        have e5 : w8.cell? ⟨x6, 5, none⟩ = some (.slice none 0 0) := B68.out.cell 5
        have z0 := B68.out.frozen 0
        have z1 := B68.out.frozen 1
        have z2 := B68.out.frozen 2
        have z3 := B68.out.frozen 3
        have z4 := B68.out.frozen 4
        have z5 := B68.out.frozen 5
        have BF := Lib.hid (B68.out.six97 rfl o fi re de frv (.slice vA vn vc))
        clear b8
        go_wp2_with fail
        exact bodyPost_ret (results_cell_row rfl _ _ x6 97 _ (0, 0) _ rfl BF.out.1 Try.underlying97 rfl size97) rfl ⟨by rw [HD.out]; exact ⟨_, _, _, _, _, _, _, rfl⟩, by rw [HD.out]; exact HeardOf.done HF.out F3.out hx7w.out hx6w.out B63.out.lt H8.out BF.out.2⟩
      | false =>
        obtain ⟨S1, hS1⟩ : ∃ z, (if acks = true ∧ S.ackable ack then S.acks ack tick else S) = z := ⟨_, rfl⟩
        have HD0 : Hid (S.hear ⟨seq, ack, false, acks, fin, xs⟩ tick = S1.takesIf ⟨seq, ack, false, acks, fin, xs⟩ tick) := Lib.hid (by
          unfold Fl.hear
          rw [if_neg (by have := HH10.out; omega), if_neg hn1.out, if_neg hcond.out, if_neg (by simp), ← hS1])
        have HS1 := Lib.hid hS1
        have HO1 : Hid (S1.out.length ≤ 90000) := Lib.hid (by
          rw [← hS1]
          split
          · rw [acks_out]; exact HOK.out.o
          · exact HOK.out.o)
        clear hS1
        go_upto_if 66 with (fail)
        clear d6
        go_cut [] (fun wx => Hid (HeardOf F f x7 S1 false w3 wx))
        case first =>
          cases acks with
          | false =>
            go_wp2_with fail
            go_meet
            exact Lib.hid (by have e := HS1.out; simp at e; rw [← e]; exact H5.out)
          | true =>
            obtain ⟨q, hq0, hqa⟩ := ackgo tick ht HOK.out HSI.out ack hx7F.out HS7.out H5.out
            have d5 : w5.cell? ⟨x4, 5, none⟩ = some (.int .u32 ack) := B45.out.cell 5
            by_cases hab : S.ackable ack
            · have e1 : Hid (S1 = S.acks ack tick) := Lib.hid (by rw [← HS1.out]; exact if_pos ⟨rfl, hab⟩)
              have HACK := Lib.hid ((hqa w5.drew (Fine.refl w5).drew).1 hab)
              clear hqa hab d7
              go_upto_region 15 with fail
              go_cut [8, 9] (fun s8 s9 wx => ∃ lA lc n, s8 = .slice lA n lc ∧ s9 = .bool true ∧ Hid (Calls Try.prog 79 #[.pointer (some ⟨f, 0, none⟩), .slice lA n lc, .int .i64 tick, .pointer (some ⟨x7, 0, none⟩)] wx fun e w' => e = .returned (.tuple #[]) ∧ HeardOf F f x7 (S.acks ack tick) false w3 w'))
              case first =>
                go_region_law (first | (go_simp; go_at_call 30; refine HACK.out.mono ?_; rintro e wE ⟨lA, lc, n, rfl, h9⟩))
                all_goals
                  have H9 := Lib.hid (h9 wE (Fine.refl wE))
                  clear h9
                  go_wp2_with fail
                  go_meet
                  exact ⟨lA, lc, n, rfl, rfl, H9⟩
              case rest =>
              obtain ⟨lA, lc, n, rfl, rfl, HW⟩ := hcut
              clear hq0 d5 HACK
              go_wp2_with fail
              refine HW.out.mono ?_
              rintro e w6 ⟨rfl, h6⟩
              have H6 := Lib.hid h6
              clear h6 HW
              go_wp2_with fail
              go_meet
              exact Lib.hid (by rw [e1.out]; exact H6.out)
            · have e1 : Hid (S1 = S) := Lib.hid (by rw [← HS1.out]; exact if_neg (fun h => hab h.2))
              have HACK := Lib.hid ((hqa w5.drew (Fine.refl w5).drew).2.1 hab)
              clear hqa hab d7
              go_upto_region 15 with fail
              go_cut [8, 9] (fun s8 s9 wx => s8 = .slice none 0 0 ∧ s9 = .bool false ∧ Hid (HeardOf F f x7 S false w3 wx))
              case first =>
                go_region_law (first | (go_simp; go_at_call 30; refine HACK.out.mono ?_; rintro e wE ⟨rfl, h9⟩))
                all_goals
                  have H9 := Lib.hid h9
                  clear h9
                  go_wp2_with fail
                  go_meet
                  exact ⟨rfl, rfl, H9⟩
              case rest =>
              obtain ⟨rfl, rfl, H6⟩ := hcut
              clear hq0 d5 HACK
              go_wp2_with fail
              go_meet
              exact Lib.hid (by rw [e1.out]; exact H6.out)
        case rest =>
        obtain ⟨w6, hw6⟩ : ∃ z, z = wc := ⟨_, rfl⟩
        subst hw6
        have H6 := hcut
        clear hcut d7 H5
        have B46 : Hid (Blk w6 x4 89 #[.int .i64 src, .int .i64 dst, .int .i64 sp, .int .i64 dp, .int .u32 seq, .int .u32 ack, .bool false, .bool acks, .bool fin, .bool false, .int .i64 win, .slice oA ol oc, .slice dA dl dc]) := Lib.hid (by
          obtain ⟨F1, o, fi, re, de, v, j1, j2, j3, j4⟩ := H6.out
          exact B43.out.kept j3 (fun h => h.elim (fun h => by have := HF.out x4 h; have := hx4w.out; omega) hx47.out))
        obtain ⟨s1, hs1⟩ : ∃ z, S1.st = z := ⟨_, rfl⟩
        have HST1 := Lib.hid hs1
        have HOV := Lib.hid (over_flow H6.out)
        rw [hs1] at HOV
        clear hs1 B45
        by_cases hov : 10 ≤ s1
        · have g := decide_eq_true hov
          rw [g] at HOV
          have HD : Hid (S.hear ⟨seq, ack, false, acks, fin, xs⟩ tick = (S1, false)) := Lib.hid (by rw [HD0.out]; unfold Fl.takesIf; exact if_neg (by rw [HST1.out]; omega))
          clear g hov
          go_wp2_with fail
          refine HOV.out.mono ?_
          rintro e w8 ⟨rfl, f8⟩
          have H8 := Lib.hid (H6.out.fine f8)
          clear f8 H6 HOV B46
          obtain ⟨frv, hfrv⟩ : ∃ z : Bool, z = false := ⟨_, rfl⟩
          have H8 : Hid (HeardOf F f x7 S1 frv w3 w8) := Lib.hid (by rw [hfrv]; exact H8.out)
          have HD : Hid (S.hear ⟨seq, ack, false, acks, fin, xs⟩ tick = (S1, frv)) := Lib.hid (by rw [HD.out, hfrv])
          clear hfrv
          have B68 : Hid (Blk w8 x6 97 #[.bool false, .bool false, .bool false, .bool false, .bool false, .slice none 0 0]) := Lib.hid (by
            obtain ⟨F1, o, fi, re, de, v, j1, j2, j3, j4⟩ := H8.out
            exact B63.out.kept j3 (fun h => h.elim (fun h => by have := HF.out x6 h; have := hx6w.out; omega) hx67.out))
          obtain ⟨o, fi, re, de, vA, vn, vc, b8⟩ : ∃ o fi re de vA vn vc, Blk w8 x7 97 (hv o fi re de frv (.slice vA vn vc)) := by obtain ⟨F1, o, fi, re, de, v, j1, j2, j3, j4⟩ := H8.out; exact ⟨o, fi, re, de, v.A, v.n, v.c, j2⟩
          have y0 : w8.cell? ⟨x7, 0, none⟩ = some (.bool o) := b8.cell 0
          have y1 : w8.cell? ⟨x7, 1, none⟩ = some (.bool fi) := b8.cell 1
          have y2 : w8.cell? ⟨x7, 2, none⟩ = some (.bool re) := b8.cell 2
          have y3 : w8.cell? ⟨x7, 3, none⟩ = some (.bool de) := b8.cell 3
          have y4 : w8.cell? ⟨x7, 4, none⟩ = some (.bool frv) := b8.cell 4
          have y5 : w8.cell? ⟨x7, 5, none⟩ = some (.slice vA vn vc) := b8.cell 5
          have e0 : w8.cell? ⟨x6, 0, none⟩ = some (.bool false) := B68.out.cell 0
          have e1 : w8.cell? ⟨x6, 1, none⟩ = some (.bool false) := B68.out.cell 1
          have e2 : w8.cell? ⟨x6, 2, none⟩ = some (.bool false) := B68.out.cell 2
          have e3 : w8.cell? ⟨x6, 3, none⟩ = some (.bool false) := B68.out.cell 3
          have e4 : w8.cell? ⟨x6, 4, none⟩ = some (.bool false) := B68.out.cell 4
          have e5 : w8.cell? ⟨x6, 5, none⟩ = some (.slice none 0 0) := B68.out.cell 5
          have z0 := B68.out.frozen 0
          have z1 := B68.out.frozen 1
          have z2 := B68.out.frozen 2
          have z3 := B68.out.frozen 3
          have z4 := B68.out.frozen 4
          have z5 := B68.out.frozen 5
          have BF := Lib.hid (B68.out.six97 rfl o fi re de frv (.slice vA vn vc))
          clear b8
          go_wp2_with fail
          exact bodyPost_ret (results_cell_row rfl _ _ x6 97 _ (0, 0) _ rfl BF.out.1 Try.underlying97 rfl size97) rfl ⟨by rw [HD.out]; exact ⟨_, _, _, _, _, _, _, rfl⟩, by rw [HD.out]; exact HeardOf.done HF.out F3.out hx7w.out hx6w.out B63.out.lt H8.out BF.out.2⟩
        · have g := decide_eq_false hov
          rw [g] at HOV
          by_cases h2 : s1 = 2
          · have HD : Hid (S.hear ⟨seq, ack, false, acks, fin, xs⟩ tick = (S1, false)) := Lib.hid (by rw [HD0.out]; unfold Fl.takesIf; exact if_neg (by rw [HST1.out]; omega))
            subst h2
            clear g hov
            go_wp2_with fail
            refine HOV.out.mono ?_
            rintro e w8 ⟨rfl, f8⟩
            have H8 := Lib.hid (H6.out.fine f8)
            have c5 : w8.cell? ⟨f, 5, none⟩ = some (.int .i64 2) := by rw [← HST1.out]; exact H8.out.cells.1
            clear f8 H6 HOV B46
            obtain ⟨frv, hfrv⟩ : ∃ z : Bool, z = false := ⟨_, rfl⟩
            have H8 : Hid (HeardOf F f x7 S1 frv w3 w8) := Lib.hid (by rw [hfrv]; exact H8.out)
            have HD : Hid (S.hear ⟨seq, ack, false, acks, fin, xs⟩ tick = (S1, frv)) := Lib.hid (by rw [HD.out, hfrv])
            clear hfrv
            have B68 : Hid (Blk w8 x6 97 #[.bool false, .bool false, .bool false, .bool false, .bool false, .slice none 0 0]) := Lib.hid (by
              obtain ⟨F1, o, fi, re, de, v, j1, j2, j3, j4⟩ := H8.out
              exact B63.out.kept j3 (fun h => h.elim (fun h => by have := HF.out x6 h; have := hx6w.out; omega) hx67.out))
            obtain ⟨o, fi, re, de, vA, vn, vc, b8⟩ : ∃ o fi re de vA vn vc, Blk w8 x7 97 (hv o fi re de frv (.slice vA vn vc)) := by obtain ⟨F1, o, fi, re, de, v, j1, j2, j3, j4⟩ := H8.out; exact ⟨o, fi, re, de, v.A, v.n, v.c, j2⟩
            have y0 : w8.cell? ⟨x7, 0, none⟩ = some (.bool o) := b8.cell 0
            have y1 : w8.cell? ⟨x7, 1, none⟩ = some (.bool fi) := b8.cell 1
            have y2 : w8.cell? ⟨x7, 2, none⟩ = some (.bool re) := b8.cell 2
            have y3 : w8.cell? ⟨x7, 3, none⟩ = some (.bool de) := b8.cell 3
            have y4 : w8.cell? ⟨x7, 4, none⟩ = some (.bool frv) := b8.cell 4
            have y5 : w8.cell? ⟨x7, 5, none⟩ = some (.slice vA vn vc) := b8.cell 5
            have e0 : w8.cell? ⟨x6, 0, none⟩ = some (.bool false) := B68.out.cell 0
            have e1 : w8.cell? ⟨x6, 1, none⟩ = some (.bool false) := B68.out.cell 1
            have e2 : w8.cell? ⟨x6, 2, none⟩ = some (.bool false) := B68.out.cell 2
            have e3 : w8.cell? ⟨x6, 3, none⟩ = some (.bool false) := B68.out.cell 3
            have e4 : w8.cell? ⟨x6, 4, none⟩ = some (.bool false) := B68.out.cell 4
            have e5 : w8.cell? ⟨x6, 5, none⟩ = some (.slice none 0 0) := B68.out.cell 5
            have z0 := B68.out.frozen 0
            have z1 := B68.out.frozen 1
            have z2 := B68.out.frozen 2
            have z3 := B68.out.frozen 3
            have z4 := B68.out.frozen 4
            have z5 := B68.out.frozen 5
            have BF := Lib.hid (B68.out.six97 rfl o fi re de frv (.slice vA vn vc))
            clear b8
            go_wp2_with fail
            exact bodyPost_ret (results_cell_row rfl _ _ x6 97 _ (0, 0) _ rfl BF.out.1 Try.underlying97 rfl size97) rfl ⟨by rw [HD.out]; exact ⟨_, _, _, _, _, _, _, rfl⟩, by rw [HD.out]; exact HeardOf.done HF.out F3.out hx7w.out hx6w.out B63.out.lt H8.out BF.out.2⟩
          · have g2 : (s1 != 2) = true := by simpa using h2
            have HD : Hid (S.hear ⟨seq, ack, false, acks, fin, xs⟩ tick = S1.takes ⟨seq, ack, false, acks, fin, xs⟩ tick) := Lib.hid (by rw [HD0.out]; unfold Fl.takesIf; exact if_pos (by rw [HST1.out]; omega))
            clear g hov
            go_upto_if 91 with (go_at_call 73; refine HOV.out.mono ?_; rintro e w7 ⟨rfl, f7⟩; have H7 := Lib.hid (H6.out.fine f7); have B47 := Lib.hid (B46.out.fine f7); have c5 : w7.cell? ⟨f, 5, none⟩ = some (.int .i64 s1) := (by rw [← HST1.out]; exact H7.out.cells.1); clear f7)
            clear c5 HOV B46
            have d0 : w7.cell? ⟨x4, 0, none⟩ = some (.int .i64 src) := B47.out.cell 0
            have d1 : w7.cell? ⟨x4, 1, none⟩ = some (.int .i64 dst) := B47.out.cell 1
            have d2 : w7.cell? ⟨x4, 2, none⟩ = some (.int .i64 sp) := B47.out.cell 2
            have d3 : w7.cell? ⟨x4, 3, none⟩ = some (.int .i64 dp) := B47.out.cell 3
            have d4 : w7.cell? ⟨x4, 4, none⟩ = some (.int .u32 seq) := B47.out.cell 4
            have d5 : w7.cell? ⟨x4, 5, none⟩ = some (.int .u32 ack) := B47.out.cell 5
            have d6 : w7.cell? ⟨x4, 6, none⟩ = some (.bool false) := B47.out.cell 6
            have d7 : w7.cell? ⟨x4, 7, none⟩ = some (.bool acks) := B47.out.cell 7
            have d8 : w7.cell? ⟨x4, 8, none⟩ = some (.bool fin) := B47.out.cell 8
            have d9 : w7.cell? ⟨x4, 9, none⟩ = some (.bool false) := B47.out.cell 9
            have d10 : w7.cell? ⟨x4, 10, none⟩ = some (.int .i64 win) := B47.out.cell 10
            have d11 : w7.cell? ⟨x4, 11, none⟩ = some (.slice oA ol oc) := B47.out.cell 11
            have d12 : w7.cell? ⟨x4, 12, none⟩ = some (.slice dA dl dc) := B47.out.cell 12
            have HT : Hid (Calls Try.prog 80 #[.pointer (some ⟨f, 0, none⟩), .agg #[.int .i64 src, .int .i64 dst, .int .i64 sp, .int .i64 dp, .int .u32 seq, .int .u32 ack, .bool false, .bool acks, .bool fin, .bool false, .int .i64 win, .slice oA ol oc, .slice dA dl dc], .int .i64 tick, .pointer (some ⟨x7, 0, none⟩)] w7 fun e w' => e = .returned (.tuple #[]) ∧ HeardOf F f x7 (S1.takes ⟨seq, ack, false, acks, fin, xs⟩ tick).1 (S1.takes ⟨seq, ack, false, acks, fin, xs⟩ tick).2 w3 w') := Lib.hid (takes_flow tick ht HO1.out ⟨src, dst, sp, dp, seq, ack, false, acks, fin, false, win, oA, ol, oc, dA, dl, dc, xs⟩ HS7.out hx7F.out HDN.out HDL.out H7.out)
            go_wp2_with fail
            refine HT.out.mono ?_
            rintro e w8 ⟨rfl, h8⟩
            have H8 := Lib.hid h8
            clear h8 H6 H7 HT d0 d1 d2 d3 d4 d5 d6 d7 d8 d9 d10 d11 d12 B47 g2
            obtain ⟨⟨ST, frv⟩, hfrv⟩ : ∃ z, S1.takes ⟨seq, ack, false, acks, fin, xs⟩ tick = z := ⟨_, rfl⟩
            rw [hfrv] at H8 HD
            clear hfrv
            have B68 : Hid (Blk w8 x6 97 #[.bool false, .bool false, .bool false, .bool false, .bool false, .slice none 0 0]) := Lib.hid (by
              obtain ⟨F1, o, fi, re, de, v, j1, j2, j3, j4⟩ := H8.out
              exact B63.out.kept j3 (fun h => h.elim (fun h => by have := HF.out x6 h; have := hx6w.out; omega) hx67.out))
            obtain ⟨o, fi, re, de, vA, vn, vc, b8⟩ : ∃ o fi re de vA vn vc, Blk w8 x7 97 (hv o fi re de frv (.slice vA vn vc)) := by obtain ⟨F1, o, fi, re, de, v, j1, j2, j3, j4⟩ := H8.out; exact ⟨o, fi, re, de, v.A, v.n, v.c, j2⟩
            have y0 : w8.cell? ⟨x7, 0, none⟩ = some (.bool o) := b8.cell 0
            have y1 : w8.cell? ⟨x7, 1, none⟩ = some (.bool fi) := b8.cell 1
            have y2 : w8.cell? ⟨x7, 2, none⟩ = some (.bool re) := b8.cell 2
            have y3 : w8.cell? ⟨x7, 3, none⟩ = some (.bool de) := b8.cell 3
            have y4 : w8.cell? ⟨x7, 4, none⟩ = some (.bool frv) := b8.cell 4
            have y5 : w8.cell? ⟨x7, 5, none⟩ = some (.slice vA vn vc) := b8.cell 5
            have e0 : w8.cell? ⟨x6, 0, none⟩ = some (.bool false) := B68.out.cell 0
            have e1 : w8.cell? ⟨x6, 1, none⟩ = some (.bool false) := B68.out.cell 1
            have e2 : w8.cell? ⟨x6, 2, none⟩ = some (.bool false) := B68.out.cell 2
            have e3 : w8.cell? ⟨x6, 3, none⟩ = some (.bool false) := B68.out.cell 3
            have e4 : w8.cell? ⟨x6, 4, none⟩ = some (.bool false) := B68.out.cell 4
            have e5 : w8.cell? ⟨x6, 5, none⟩ = some (.slice none 0 0) := B68.out.cell 5
            have z0 := B68.out.frozen 0
            have z1 := B68.out.frozen 1
            have z2 := B68.out.frozen 2
            have z3 := B68.out.frozen 3
            have z4 := B68.out.frozen 4
            have z5 := B68.out.frozen 5
            have BF := Lib.hid (B68.out.six97 rfl o fi re de frv (.slice vA vn vc))
            clear b8
            go_wp2_with fail
            exact bodyPost_ret (results_cell_row rfl _ _ x6 97 _ (0, 0) _ rfl BF.out.1 Try.underlying97 rfl size97) rfl ⟨by rw [HD.out]; exact ⟨_, _, _, _, _, _, _, rfl⟩, by rw [HD.out]; exact HeardOf.done HF.out F3.out hx7w.out hx6w.out B63.out.lt H8.out BF.out.2⟩
end
end Go.Proofs.Ytjldgialhgfhmaa
