/- A flow that is over; Answer; the law FlowOver. -/
import Derived.Test.YtjldgialhgfhmaaFlow8
namespace Go.Proofs.Ytjldgialhgfhmaa
open Go.ChangeShapes Go.WideShapes Go.ChangeAt Go.RowKit Go.Maps
set_option linter.unusedVariables false
set_option linter.unusedSimpArgs false
section
variable {F : Nat → Prop} {w : World} {f : Nat} {S : Fl}
set_option maxHeartbeats 1000000 in
theorem hear_over (s : Sg) (t : Int) (w : World) (h : FlS F w f S) (h10 : 10 ≤ S.st) : Calls Try.prog 55 #[.pointer (some ⟨f, 0, none⟩), .agg s.cells.toArray, .int .i64 t] w fun x w' => x = .returned heard0 ∧ Fine w w' := by
  obtain ⟨src, dst, sp, dp, seq, ack, syn, acks, fin, rst, win, oA, ol, oc, dA, dl, dc, xs⟩ := s
  show Calls Try.prog 55 #[.pointer (some ⟨f, 0, none⟩), .agg #[.int .i64 src, .int .i64 dst, .int .i64 sp, .int .i64 dp, .int .u32 seq, .int .u32 ack, .bool syn, .bool acks, .bool fin, .bool rst, .int .i64 win, .slice oA ol oc, .slice dA dl dc], .int .i64 t] w _
  obtain ⟨w1, hw1⟩ : ∃ z, w.alloc (.cells #[.int .i64 src, .int .i64 dst, .int .i64 sp, .int .i64 dp, .int .u32 seq, .int .u32 ack, .bool syn, .bool acks, .bool fin, .bool rst, .int .i64 win, .slice oA ol oc, .slice dA dl dc] 89) = z := ⟨_, rfl⟩
  have f1 : Fine w w1 := by rw [← hw1]; exact (Fine.refl w).alloc _
  obtain ⟨x6, hx6⟩ : ∃ x, w1.heap.size = x := ⟨_, rfl⟩
  have b6 := Blk.newAt (w := w1) (t := 97) (cs := #[.bool false, .bool false, .bool false, .bool false, .bool false, .slice none 0 0]) hx6.symm
  have f2 := f1.alloc (.cells #[.bool false, .bool false, .bool false, .bool false, .bool false, .slice none 0 0] 97)
  have b7 := Blk.newAt (w := w1.alloc (.cells #[.bool false, .bool false, .bool false, .bool false, .bool false, .slice none 0 0] 97)) (t := 97) (cs := #[.bool false, .bool false, .bool false, .bool false, .bool false, .slice none 0 0]) (g := x6 + 1) (by have h8 : (w1.alloc (.cells #[.bool false, .bool false, .bool false, .bool false, .bool false, .slice none 0 0] 97)).heap.size = w1.heap.size + 1 := (by simp); omega)
  have f3 := f2.alloc (.cells #[.bool false, .bool false, .bool false, .bool false, .bool false, .slice none 0 0] 97)
  have B6 := Lib.hid (b6.fine ((Fine.refl _).alloc (.cells #[.bool false, .bool false, .bool false, .bool false, .bool false, .slice none 0 0] 97))); have B7 := Lib.hid b7; have F3 := Lib.hid f3
  have HX6 : Hid (w.heap.size ≤ x6) := Lib.hid (by have := f1.size; omega)
  have HOV := Lib.hid (fun w' (ff : Fine w w') => by have := over_same (h.fine ff); rw [decide_eq_true h10] at this; exact this : ∀ w', Fine w w' → Calls Try.prog 73 #[.pointer (some ⟨f, 0, none⟩)] w' fun e w'' => e = .returned (.bool true) ∧ Fine w' w'')
  clear b6 b7 f1 f2 f3 h h10
  go_enter Try.func55, Try.ntmps55
  go_wp2_with fail
  generalize (w1.alloc (.cells #[.bool false, .bool false, .bool false, .bool false, .bool false, .slice none 0 0] 97)).alloc (.cells #[.bool false, .bool false, .bool false, .bool false, .bool false, .slice none 0 0] 97) = w3 at B6 B7 F3 ⊢
  refine (HOV.out w3 F3.out).mono ?_
  rintro x w4 ⟨rfl, f4⟩
  have B64 := Lib.hid (B6.out.fine f4); have B74 := Lib.hid (B7.out.fine f4); have F4 := Lib.hid (F3.out.trans f4)
  clear f4 hw1 hx6
  have d0 : w4.cell? ⟨x6 + 1, 0, none⟩ = some (.bool false) := B74.out.cell 0
  have d1 : w4.cell? ⟨x6 + 1, 1, none⟩ = some (.bool false) := B74.out.cell 1
  have d2 : w4.cell? ⟨x6 + 1, 2, none⟩ = some (.bool false) := B74.out.cell 2
  have d3 : w4.cell? ⟨x6 + 1, 3, none⟩ = some (.bool false) := B74.out.cell 3
  have d4 : w4.cell? ⟨x6 + 1, 4, none⟩ = some (.bool false) := B74.out.cell 4
  have d5 : w4.cell? ⟨x6 + 1, 5, none⟩ = some (.slice none 0 0) := B74.out.cell 5
  have e0 : w4.cell? ⟨x6, 0, none⟩ = some (.bool false) := B64.out.cell 0
  have e1 : w4.cell? ⟨x6, 1, none⟩ = some (.bool false) := B64.out.cell 1
  have e2 : w4.cell? ⟨x6, 2, none⟩ = some (.bool false) := B64.out.cell 2
  have e3 : w4.cell? ⟨x6, 3, none⟩ = some (.bool false) := B64.out.cell 3
  have e4 : w4.cell? ⟨x6, 4, none⟩ = some (.bool false) := B64.out.cell 4
  have e5 : w4.cell? ⟨x6, 5, none⟩ = some (.slice none 0 0) := B64.out.cell 5
  have z0 := B64.out.frozen 0
  have z1 := B64.out.frozen 1
  have z2 := B64.out.frozen 2
  have z3 := B64.out.frozen 3
  have z4 := B64.out.frozen 4
  have z5 := B64.out.frozen 5
  have BF := Lib.hid ((((((B64.out.set_ 0 (.bool false)).set_ 1 (.bool false)).set_ 2 (.bool false)).set_ 3 (.bool false)).set_ 4 (.bool false)).set_ 5 (.slice none 0 0))
  have FF := Lib.hid ((((((F4.out.setCell (p := ⟨x6, 0, none⟩) HX6.out (.bool false)).setCell (p := ⟨x6, 1, none⟩) HX6.out (.bool false)).setCell (p := ⟨x6, 2, none⟩) HX6.out (.bool false)).setCell (p := ⟨x6, 3, none⟩) HX6.out (.bool false)).setCell (p := ⟨x6, 4, none⟩) HX6.out (.bool false)).setCell (p := ⟨x6, 5, none⟩) HX6.out (.slice none 0 0))
  go_wp2_with fail
  exact bodyPost_ret (results_cell_row rfl _ _ x6 97 _ (0, 0) _ rfl BF.out Try.underlying97 rfl size97) rfl ⟨rfl, FF.out⟩
set_option maxHeartbeats 1000000 in
theorem expire_no (t : Int) (w : World) (h : FlS F w f S) (hh : S.has = false) : Calls Try.prog 56 #[.pointer (some ⟨f, 0, none⟩), .int .i64 t] w fun x w' => x = .returned heard0 ∧ Fine w w' := by
  obtain ⟨x6, hx6⟩ : ∃ x, w.heap.size = x := ⟨_, rfl⟩
  have b6 := Blk.newAt (w := w) (t := 97) (cs := #[.bool false, .bool false, .bool false, .bool false, .bool false, .slice none 0 0]) hx6.symm
  have f2 := (Fine.refl w).alloc (.cells #[.bool false, .bool false, .bool false, .bool false, .bool false, .slice none 0 0] 97)
  have B64 := Lib.hid b6; have F4 := Lib.hid f2
  have HX6 : Hid (w.heap.size ≤ x6) := Lib.hid (by omega)
  obtain ⟨q, A, c, ros, Q, D, hX⟩ := h.fine f2
  have c9 : (w.alloc (.cells #[.bool false, .bool false, .bool false, .bool false, .bool false, .slice none 0 0] 97)).cell? ⟨f, 9, none⟩ = some (.bool false) := by have := hX.box.cell 9; rw [hh] at this; exact this
  clear b6 f2 hX h hh
  go_enter Try.func56, Try.ntmps56
  go_upto_region 1 with fail
  generalize w.alloc (.cells #[.bool false, .bool false, .bool false, .bool false, .bool false, .slice none 0 0] 97) = w4 at B64 F4 c9 ⊢
  clear hx6
  have e0 : w4.cell? ⟨x6, 0, none⟩ = some (.bool false) := B64.out.cell 0
  have e1 : w4.cell? ⟨x6, 1, none⟩ = some (.bool false) := B64.out.cell 1
  have e2 : w4.cell? ⟨x6, 2, none⟩ = some (.bool false) := B64.out.cell 2
  have e3 : w4.cell? ⟨x6, 3, none⟩ = some (.bool false) := B64.out.cell 3
  have e4 : w4.cell? ⟨x6, 4, none⟩ = some (.bool false) := B64.out.cell 4
  have e5 : w4.cell? ⟨x6, 5, none⟩ = some (.slice none 0 0) := B64.out.cell 5
  have z0 := B64.out.frozen 0
  have z1 := B64.out.frozen 1
  have z2 := B64.out.frozen 2
  have z3 := B64.out.frozen 3
  have z4 := B64.out.frozen 4
  have z5 := B64.out.frozen 5
  have BF := Lib.hid ((((((B64.out.set_ 0 (.bool false)).set_ 1 (.bool false)).set_ 2 (.bool false)).set_ 3 (.bool false)).set_ 4 (.bool false)).set_ 5 (.slice none 0 0))
  have FF := Lib.hid ((((((F4.out.setCell (p := ⟨x6, 0, none⟩) HX6.out (.bool false)).setCell (p := ⟨x6, 1, none⟩) HX6.out (.bool false)).setCell (p := ⟨x6, 2, none⟩) HX6.out (.bool false)).setCell (p := ⟨x6, 3, none⟩) HX6.out (.bool false)).setCell (p := ⟨x6, 4, none⟩) HX6.out (.bool false)).setCell (p := ⟨x6, 5, none⟩) HX6.out (.slice none 0 0))
  go_wp2_with fail
  exact bodyPost_ret (results_cell_row rfl _ _ x6 97 _ (0, 0) _ rfl BF.out Try.underlying97 rfl size97) rfl ⟨rfl, FF.out⟩
theorem kill_over (w : World) (h : FlS F w f S) (h10 : 10 ≤ S.st) : Calls Try.prog 52 #[.pointer (some ⟨f, 0, none⟩)] w fun e w' => e = .returned (.tuple #[]) ∧ Fine w w' := by
  have HOV := Lib.hid (over_same h)
  rw [decide_eq_true h10] at HOV
  clear h h10
  go_enter Try.func52, Try.ntmps52
  go_wp2_with fail
  refine HOV.out.mono ?_
  rintro x w1 ⟨rfl, f1⟩
  have F1 := Lib.hid f1
  clear f1
  go_wp2_with fail
  exact bodyPost_ret (results_none rfl _ _ _) rfl ⟨rfl, F1.out⟩
theorem send_over (d : Value) (n : Int) (b : Bool) (t : Int) (w : World) (h : FlS F w f S) (h10 : 10 ≤ S.st) : Calls Try.prog 57 #[.pointer (some ⟨f, 0, none⟩), d, .int .i64 n, .bool b, .int .i64 t] w fun e w' => e = .returned (.int .i64 9) ∧ Fine w w' := by
  obtain ⟨q, A, c, ros, Q, D, hX⟩ := h
  obtain ⟨st, hst⟩ : ∃ z, S.st = z := ⟨_, rfl⟩
  have c5 : w.cell? ⟨f, 5, none⟩ = some (.int .i64 st) := by have := hX.box.cell 5; rw [hst] at this; exact this
  have g1 : (st != 3) = true := by simp; omega
  have g2 : (st != 6) = true := by simp; omega
  clear hX hst h10
  go_enter Try.func57, Try.ntmps57
  go_wp2_with fail
  go_ret
  exact ⟨rfl, Fine.refl w⟩
theorem close_over (t : Int) (w : World) (h : FlS F w f S) (h10 : 10 ≤ S.st) : Calls Try.prog 58 #[.pointer (some ⟨f, 0, none⟩), .int .i64 t] w fun e w' => e = .returned (.int .i64 9) ∧ Fine w w' := by
  obtain ⟨q, A, c, ros, Q, D, hX⟩ := h
  obtain ⟨st, hst⟩ : ∃ z, S.st = z := ⟨_, rfl⟩
  have c5 : w.cell? ⟨f, 5, none⟩ = some (.int .i64 st) := by have := hX.box.cell 5; rw [hst] at this; exact this
  have g1 : (st == 3) = false := by simp; omega
  have g2 : (st == 6) = false := by simp; omega
  clear hX hst h10
  go_enter Try.func58, Try.ntmps58
  go_wp2_with fail
  go_ret
  exact ⟨rfl, Fine.refl w⟩
theorem tell_over (w : World) (h : FlS F w f S) (h10 : 10 ≤ S.st) : Calls Try.prog 59 #[.pointer (some ⟨f, 0, none⟩)] w fun e w' => e = .returned (.int .i64 9) ∧ Fine w w' := by
  have HOV := Lib.hid (over_same h)
  rw [decide_eq_true h10] at HOV
  obtain ⟨q, A, c, ros, Q, D, hX⟩ := h
  obtain ⟨st, hst⟩ : ∃ z, S.st = z := ⟨_, rfl⟩
  have c5 : w.cell? ⟨f, 5, none⟩ = some (.int .i64 st) := by have := hX.box.cell 5; rw [hst] at this; exact this
  have g1 : ¬ st < 3 := by omega
  have g2 : decide (st < 3) = false := decide_eq_false g1
  clear hX hst h10
  go_enter Try.func59, Try.ntmps59
  go_wp2_with fail
  refine HOV.out.mono ?_
  rintro x w1 ⟨rfl, f1⟩
  have F1 := Lib.hid f1
  clear f1
  go_wp2_with fail
  go_ret
  exact ⟨rfl, F1.out⟩
theorem probe_over (w : World) (h : FlS F w f S) (h10 : 10 ≤ S.st) : Calls Try.prog 60 #[.pointer (some ⟨f, 0, none⟩)] w fun e w' => e = .returned (.int .i64 9) ∧ Fine w w' := by
  have HT := Lib.hid (tell_over w h h10)
  clear h h10
  go_enter Try.func60, Try.ntmps60
  go_wp2_with fail
  refine HT.out.mono ?_
  rintro x w1 ⟨rfl, f1⟩
  have F1 := Lib.hid f1
  clear f1
  go_wp2_with fail
  go_ret
  exact ⟨rfl, F1.out⟩
end
set_option maxHeartbeats 2000000 in
set_option maxRecDepth 20000 in
theorem answer_any (iss tick : Int) (hi : 0 ≤ iss ∧ iss < 4294967296) (ht : 0 ≤ tick ∧ tick ≤ 1099511627776) (s : Sg) (w : World) : Calls Try.prog 51 #[.int .u32 iss, .agg s.cells.toArray, .int .i64 tick] w (FlNew ((flow0 iss 2 (IntKind.u32.wrap (s.seq + 1))).send synP tick) w) := by
  obtain ⟨src, dst, sp, dp, seq, ack, syn, acks, fin, rst, win, oA, ol, oc, dA, dl, dc, xs⟩ := s
  show Calls Try.prog 51 #[.int .u32 iss, .agg #[.int .i64 src, .int .i64 dst, .int .i64 sp, .int .i64 dp, .int .u32 seq, .int .u32 ack, .bool syn, .bool acks, .bool fin, .bool rst, .int .i64 win, .slice oA ol oc, .slice dA dl dc], .int .i64 tick] w (FlNew ((flow0 iss 2 (IntKind.u32.wrap (seq + 1))).send synP tick) w)
  obtain ⟨rv, hrv⟩ : ∃ z, IntKind.u32.wrap (seq + 1) = z := ⟨_, rfl⟩
  rw [hrv]
  obtain ⟨x4, hx4⟩ : ∃ x, w.heap.size = x := ⟨_, rfl⟩
  have b4 := Blk.newAt (w := w) (t := 89) (cs := #[.int .i64 src, .int .i64 dst, .int .i64 sp, .int .i64 dp, .int .u32 seq, .int .u32 ack, .bool syn, .bool acks, .bool fin, .bool rst, .int .i64 win, .slice oA ol oc, .slice dA dl dc]) hx4.symm
  have f4 := (Fine.refl w).alloc (.cells #[.int .i64 src, .int .i64 dst, .int .i64 sp, .int .i64 dp, .int .u32 seq, .int .u32 ack, .bool syn, .bool acks, .bool fin, .bool rst, .int .i64 win, .slice oA ol oc, .slice dA dl dc] 89)
  go_enter Try.func51, Try.ntmps51
  go_upto_region 1 with fail
  generalize w.alloc (.cells #[.int .i64 src, .int .i64 dst, .int .i64 sp, .int .i64 dp, .int .u32 seq, .int .u32 ack, .bool syn, .bool acks, .bool fin, .bool rst, .int .i64 win, .slice oA ol oc, .slice dA dl dc] 89) = w1 at b4 f4 ⊢
  have B1 := Lib.hid b4; have F1 := Lib.hid f4
  have c4 : w1.cell? ⟨x4, 4, none⟩ = some (.int .u32 seq) := b4.cell 4
  clear b4 f4 hx4
  have HNEW := Lib.hid (new_any iss w1.drew)
  have HOK := Lib.hid (flow0_ok (st := 2) (rcv := rv) hi)
  go_cut [7] (fun s7 wx => ∃ fp : Nat, s7 = .pointer (some ⟨fp, 0, none⟩) ∧ Hid (∃ F0, FlS F0 wx fp (flow0 iss 2 rv) ∧ (∀ b, F0 b → w1.heap.size ≤ b) ∧ Fine w1 wx))
  case first =>
    go_region_law (first | (go_simp; go_at_call 27; refine HNEW.out.mono ?_; rintro r w3 ⟨rfl, hq3, f3⟩; have s4 : w3.cell? ⟨x4, 4, none⟩ = some (.int .u32 seq) := (B1.out.fine ((Fine.refl w1).drew.trans f3)).cell 4))
    all_goals
      have HS := flow0_at (st := 2) (rcv := rv) hq3 rfl rfl
      have hs3 := f3.size
      have FS := ((Fine.refl w1).drew.trans f3).alloc (.cells #[.pointer (some ⟨w1.drew.heap.size, 0, none⟩), .bool false, .int .i64 0, .int .i64 0, .int .i64 0, .int .i64 2, .int .u32 rv, .int .i64 0, .int .i64 0, .bool false, .int .i64 0, .bool false, .slice none 0 0] 111)
      have RR : Hid (∃ F0, FlS F0 (w3.alloc (.cells #[.pointer (some ⟨w1.drew.heap.size, 0, none⟩), .bool false, .int .i64 0, .int .i64 0, .int .i64 0, .int .i64 2, .int .u32 rv, .int .i64 0, .int .i64 0, .bool false, .int .i64 0, .bool false, .slice none 0 0] 111)) w3.heap.size (flow0 iss 2 rv) ∧ (∀ b, F0 b → w1.heap.size ≤ b) ∧ Fine w1 (w3.alloc (.cells #[.pointer (some ⟨w1.drew.heap.size, 0, none⟩), .bool false, .int .i64 0, .int .i64 0, .int .i64 0, .int .i64 2, .int .u32 rv, .int .i64 0, .int .i64 0, .bool false, .int .i64 0, .bool false, .slice none 0 0] 111))) := Lib.hid ⟨_, HS, fun b hb => by
        have e0 : w1.drew.heap.size = w1.heap.size := rfl
        rcases hb with hb | hb
        · have hb : b = w1.drew.heap.size := hb
          omega
        · omega, FS⟩
      clear HS FS hs3 hq3 f3
      go_wp2_with fail
      go_meet
      exact ⟨_, rfl, RR⟩
  case rest =>
    obtain ⟨fp, rfl, HH⟩ := hcut
    obtain ⟨w2, hw2⟩ : ∃ z, z = wc := ⟨_, rfl⟩
    subst hw2
    obtain ⟨F0, j1, j2, j3⟩ := HH.out
    have HS := Lib.hid j1; have HB := Lib.hid j2; have F2 := Lib.hid (F1.out.trans j3)
    have hs1 : w.heap.size ≤ w1.heap.size := F1.out.size
    have HSEND := Lib.hid (fsend_any (p := synP) tick ht HOK.out (by simp [synP]) (synIs w2) (fun b hb => hb.elim) j1)
    clear j1 j2 j3 HH c4 HNEW
    go_wp2_with fail
    refine HSEND.out.mono ?_
    rintro r w3 ⟨rfl, F3, j1, j2, j3⟩
    have R : Hid (FlNew ((flow0 iss 2 rv).send synP tick) w (.returned (.pointer (some ⟨fp, 0, none⟩))) w3) := Lib.hid ⟨fp, F3, rfl, j1, fun b hb => (j3 b hb).elim (fun h => Nat.le_trans hs1 (HB.out b h)) (fun h => Nat.le_trans F2.out.size h), F2.out.kept j2 (fun x hx hh => by have := HB.out x hh; omega)⟩
    clear j1 j2 j3
    go_wp2_with fail
    go_ret
    exact R.out
end Go.Proofs.Ytjldgialhgfhmaa
