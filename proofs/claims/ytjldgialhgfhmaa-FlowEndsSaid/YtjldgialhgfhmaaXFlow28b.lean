/- Two flows: comes, to the second flow. -/
import Derived.Test.YtjldgialhgfhmaaNk
import Derived.Deep.RegionLaw
import Derived.Deep.Cut
import Derived.Deep.CutBlock
namespace Go.Proofs.Ytjldgialhgfhmaa
set_option linter.unusedVariables false
set_option linter.unusedSimpArgs false
open Go.ChangeShapes Go.WideShapes Go.ChangeAt Go.RowKit Go.Maps
set_option linter.unusedVariables false
set_option linter.unusedSimpArgs false
section
variable {col : Nat → Nat} {w0 w w' wB : World} {g f0 : Nat} {p1 : Option Nat} {wA : Option Addr} {wc : Nat} {ks : List Rk} {a0 a1 b0 b1 : SlV} {P : Pr}
set_option maxHeartbeats 8000000 in
set_option maxRecDepth 100000 in
theorem comes_1 {f1 : Nat} {S : Fl} (h : PrX col w0 w g f0 p1 wA wc ks a0 a1 b0 b1 P) (hp : p1 = some f1) (hS : P.f1 = some S) (ht : 0 ≤ P.tick ∧ P.tick ≤ 1099511627776) (hok : S.Ok) (hs : -1099511627776 ≤ S.since ∧ S.since ≤ 1099511627776) (hl : P.c1.length ≤ 1000000) (s : Sg) (hk : IsG w (fun b => col b = 3) s) :
    Calls Try.prog 70 #[.pointer (some ⟨g, 0, none⟩), .agg (.int .i64 1 :: s.cells).toArray] w fun e w' => e = .returned (.tuple #[]) ∧ PrOf col w0 g { P with f1 := some (S.hear s.sm P.tick).1, c1 := if (S.hear s.sm P.tick).2 = true then P.c1 ++ s.xs else P.c1 } w w' := by
  have HK := Lib.hid hk; have HH := Lib.hid h; have HL := Lib.hid hl
  have HC := Lib.hid (fun (w1 : World) (f1 : Fine w w1) (wx : World) (fx : Fine w1 wx) => (((h.fine_ f1).fine_ fx).hears1 hp hS ht hok hs ((hk.fine f1).fine fx) wx (Fine.refl wx)))
  obtain ⟨src, dst, sp, dp, seq, ack, syn, acks, fin, rst, win, oA, ol, oc, dA, dl, dc, xs⟩ := s
  have hrst : rst = false := hk.rst
  subst hrst
  obtain ⟨sm, hsm⟩ : ∃ z, Sg.sm ⟨src, dst, sp, dp, seq, ack, syn, acks, fin, false, win, oA, ol, oc, dA, dl, dc, xs⟩ = z := ⟨_, rfl⟩
  obtain ⟨fr, hfr⟩ : ∃ z, (S.hear sm P.tick).2 = z := ⟨_, rfl⟩
  obtain ⟨tick, htick⟩ : ∃ z, P.tick = z := ⟨_, rfl⟩
  have HFR := Lib.hid hfr; have HSM := Lib.hid hsm; have HTK := Lib.hid htick
  show Calls Try.prog 70 #[.pointer (some ⟨g, 0, none⟩), .agg #[.int .i64 1, .int .i64 src, .int .i64 dst, .int .i64 sp, .int .i64 dp, .int .u32 seq, .int .u32 ack, .bool syn, .bool acks, .bool fin, .bool false, .int .i64 win, .slice oA ol oc, .slice dA dl dc]] w fun e w' => e = .returned (.tuple #[]) ∧ PrOf col w0 g { P with f1 := some (S.hear (Sg.sm ⟨src, dst, sp, dp, seq, ack, syn, acks, fin, false, win, oA, ol, oc, dA, dl, dc, xs⟩) P.tick).1, c1 := if (S.hear (Sg.sm ⟨src, dst, sp, dp, seq, ack, syn, acks, fin, false, win, oA, ol, oc, dA, dl, dc, xs⟩) P.tick).2 = true then P.c1 ++ xs else P.c1 } w w'
  rw [hsm, hfr]
  obtain ⟨x3, hx3⟩ : ∃ x, w.heap.size = x := ⟨_, rfl⟩
  have b3 := Blk.newAt (w := w) (t := 114) (cs := #[.int .i64 1, .int .i64 src, .int .i64 dst, .int .i64 sp, .int .i64 dp, .int .u32 seq, .int .u32 ack, .bool syn, .bool acks, .bool fin, .bool false, .int .i64 win, .slice oA ol oc, .slice dA dl dc]) hx3.symm
  have f3 := (Fine.refl w).alloc (.cells #[.int .i64 1, .int .i64 src, .int .i64 dst, .int .i64 sp, .int .i64 dp, .int .u32 seq, .int .u32 ack, .bool syn, .bool acks, .bool fin, .bool false, .int .i64 win, .slice oA ol oc, .slice dA dl dc] 114)
  have hc3 : Hid (col x3 = 0) := Lib.hid (Classical.byContradiction fun e => by have := (h.base x3 e).2; omega)
  have hw0 : Hid (w0.heap.size ≤ w.heap.size) := Lib.hid h.fine.size
  clear hk h hfr hsm htick hs hok ht hl
  clear hS; subst hp
  go_enter Try.func70, Try.ntmps70
  have e1 : ∀ w', Fine w w' → w'.cell? ⟨g, 1, none⟩ = some (.pointer (some ⟨f1, 0, none⟩)) := fun w' f => (HH.out.fine_ f).box.cell 1
  have e1' := e1 _ f3
  clear e1
  go_upto_region 4 with fail
  try rw [hx3]
  generalize w.alloc (.cells #[.int .i64 1, .int .i64 src, .int .i64 dst, .int .i64 sp, .int .i64 dp, .int .u32 seq, .int .u32 ack, .bool syn, .bool acks, .bool fin, .bool false, .int .i64 win, .slice oA ol oc, .slice dA dl dc] 114) = w1 at b3 f3 e1' ⊢
  have B3 := Lib.hid b3; have F3 := Lib.hid f3
  have X1 := Lib.hid (HH.out.fine_ f3)
  have g0 : w1.cell? ⟨g, 1, none⟩ = some (.pointer (some ⟨f1, 0, none⟩)) := X1.out.box.cell 1
  have g7 : w1.cell? ⟨g, 7, none⟩ = some (.int .i64 tick) := by have := X1.out.box.cell 7; rw [← HTK.out]; exact this
  have d1 : w1.cell? ⟨x3, 1, none⟩ = some (.int .i64 src) := b3.cell 1
  have d2 : w1.cell? ⟨x3, 2, none⟩ = some (.int .i64 dst) := b3.cell 2
  have d3 : w1.cell? ⟨x3, 3, none⟩ = some (.int .i64 sp) := b3.cell 3
  have d4 : w1.cell? ⟨x3, 4, none⟩ = some (.int .i64 dp) := b3.cell 4
  have d5 : w1.cell? ⟨x3, 5, none⟩ = some (.int .u32 seq) := b3.cell 5
  have d6 : w1.cell? ⟨x3, 6, none⟩ = some (.int .u32 ack) := b3.cell 6
  have d7 : w1.cell? ⟨x3, 7, none⟩ = some (.bool syn) := b3.cell 7
  have d8 : w1.cell? ⟨x3, 8, none⟩ = some (.bool acks) := b3.cell 8
  have d9 : w1.cell? ⟨x3, 9, none⟩ = some (.bool fin) := b3.cell 9
  have d10 : w1.cell? ⟨x3, 10, none⟩ = some (.bool false) := b3.cell 10
  have d11 : w1.cell? ⟨x3, 11, none⟩ = some (.int .i64 win) := b3.cell 11
  have d12 : w1.cell? ⟨x3, 12, none⟩ = some (.slice oA ol oc) := b3.cell 12
  have d13 : w1.cell? ⟨x3, 13, none⟩ = some (.slice dA dl dc) := b3.cell 13
  have d0 : w1.cell? ⟨x3, 0, none⟩ = some (.int .i64 1) := b3.cell 0
  have HX3 := Lib.hid hx3
  obtain ⟨x4, hx4⟩ : ∃ z, w1.heap.size = z := ⟨_, rfl⟩
  have hgx4 : Hid (¬ g = x4) := Lib.hid (fun e => by have := X1.out.box.lt; omega)
  have hx34 : Hid (¬ x3 = x4) := Lib.hid (fun e => by have := B3.out.lt; omega)
  have hc4 : Hid (col x4 = 0) := Lib.hid (Classical.byContradiction fun e => by have := (X1.out.base x4 e).2; omega)
  have hs4 : Hid (w0.heap.size ≤ x4 ∧ w1.heap.size ≤ x4) := Lib.hid (by have := F3.out.size; have := hw0.out; omega)
  have HA : Hid (∀ w', Fine w1 w' → Calls Try.prog 55 #[.pointer (some ⟨f1, 0, none⟩), .agg #[.int .i64 src, .int .i64 dst, .int .i64 sp, .int .i64 dp, .int .u32 seq, .int .u32 ack, .bool syn, .bool acks, .bool fin, .bool false, .int .i64 win, .slice oA ol oc, .slice dA dl dc], .int .i64 tick] w' fun e w'' => HeardV fr e ∧ Hid (CameOf col w0 g { P with f1 := some (S.hear sm P.tick).1 } ⟨src, dst, sp, dp, seq, ack, syn, acks, fin, false, win, oA, ol, oc, dA, dl, dc, xs⟩ w1 w'' ∧ Blk w'' x3 114 #[.int .i64 1, .int .i64 src, .int .i64 dst, .int .i64 sp, .int .i64 dp, .int .u32 seq, .int .u32 ack, .bool syn, .bool acks, .bool fin, .bool false, .int .i64 win, .slice oA ol oc, .slice dA dl dc]) ∧ (w' = w1.drew.alloc (.cells #[.bool false, .bool false, .bool false, .bool false, .bool false, .slice none 0 0] 97) → Blk w'' x4 97 #[.bool false, .bool false, .bool false, .bool false, .bool false, .slice none 0 0] ∧ Hid (∀ w3, Kept (fun y => y = x4) w'' w3 → CameOf col w0 g { P with f1 := some (S.hear sm P.tick).1 } ⟨src, dst, sp, dp, seq, ack, syn, acks, fin, false, win, oA, ol, oc, dA, dl, dc, xs⟩ w1 w3 ∧ Blk w3 x3 114 #[.int .i64 1, .int .i64 src, .int .i64 dst, .int .i64 sp, .int .i64 dp, .int .u32 seq, .int .u32 ack, .bool syn, .bool acks, .bool fin, .bool false, .int .i64 win, .slice oA ol oc, .slice dA dl dc]))) := Lib.hid (fun w' f => by
    have hc := HC.out w1 F3.out w' f
    rw [HSM.out, HTK.out] at hc
    have hfr := HFR.out; rw [HTK.out] at hfr
    rw [hfr] at hc
    refine hc.mono ?_
    rintro e w'' ⟨h1, h2, h3⟩
    have bx := (B3.out.fine f).kept h3 (fun e => by have e : col x3 = 2 := e; rw [hc3.out] at e; cases e)
    refine ⟨h1, Lib.hid ⟨by rw [HTK.out]; exact h2.made f, bx⟩, fun ew => ⟨(by rw [ew]; exact Blk.newAt hx4.symm : Blk w' x4 97 #[.bool false, .bool false, .bool false, .bool false, .bool false, .slice none 0 0]).kept h3 (fun e => by have e : col x4 = 2 := e; rw [hc4.out] at e; cases e), Lib.hid (fun w3 k3 => ⟨by rw [HTK.out]; exact h2.turned f hs4.out.1 hs4.out.2 (by rw [ew, size_drew_alloc]; omega) hc4.out k3, bx.kept k3 hx34.out⟩)⟩⟩)
  have HS : Hid (∀ w', Fine w1 w' → w'.cell? ⟨g, 1, none⟩ = some (.pointer (some ⟨f1, 0, none⟩)) ∧ w'.cell? ⟨g, 7, none⟩ = some (.int .i64 tick)) := Lib.hid (fun w' f => ⟨(X1.out.fine_ f).box.cell 1, by have := (X1.out.fine_ f).box.cell 7; rw [← HTK.out]; exact this⟩)
  clear HC hx3 b3 f3 e1'
  have HX4 := Lib.hid hx4
  go_cut [4] (fun s4 wx => ∃ x9, s4 = .pointer (some ⟨x9, 0, none⟩) ∧ Hid ((∃ o fi re de A n c, Blk wx x9 97 (hv o fi re de fr (.slice A n c))) ∧ CameOf col w0 g { P with f1 := some (S.hear sm P.tick).1 } ⟨src, dst, sp, dp, seq, ack, syn, acks, fin, false, win, oA, ol, oc, dA, dl, dc, xs⟩ w1 wx ∧ Blk wx x3 114 #[.int .i64 1, .int .i64 src, .int .i64 dst, .int .i64 sp, .int .i64 dp, .int .u32 seq, .int .u32 ack, .bool syn, .bool acks, .bool fin, .bool false, .int .i64 win, .slice oA ol oc, .slice dA dl dc]))
  case first =>
    have vg0 : ∀ o, (w1.alloc o).cell? ⟨g, 1, none⟩ = some (.pointer (some ⟨f1, 0, none⟩)) := fun o => (HS.out _ ((Fine.refl w1).alloc o)).1
    have vg7 : ∀ o, (w1.alloc o).cell? ⟨g, 7, none⟩ = some (.int .i64 tick) := fun o => (HS.out _ ((Fine.refl w1).alloc o)).2
    have vd0 : ∀ o, (w1.alloc o).cell? ⟨x3, 0, none⟩ = some (.int .i64 1) := fun o => (B3.out.fine ((Fine.refl w1).alloc o)).cell 0
    have vd1 : ∀ o, (w1.alloc o).cell? ⟨x3, 1, none⟩ = some (.int .i64 src) := fun o => (B3.out.fine ((Fine.refl w1).alloc o)).cell 1
    have vd2 : ∀ o, (w1.alloc o).cell? ⟨x3, 2, none⟩ = some (.int .i64 dst) := fun o => (B3.out.fine ((Fine.refl w1).alloc o)).cell 2
    have vd3 : ∀ o, (w1.alloc o).cell? ⟨x3, 3, none⟩ = some (.int .i64 sp) := fun o => (B3.out.fine ((Fine.refl w1).alloc o)).cell 3
    have vd4 : ∀ o, (w1.alloc o).cell? ⟨x3, 4, none⟩ = some (.int .i64 dp) := fun o => (B3.out.fine ((Fine.refl w1).alloc o)).cell 4
    have vd5 : ∀ o, (w1.alloc o).cell? ⟨x3, 5, none⟩ = some (.int .u32 seq) := fun o => (B3.out.fine ((Fine.refl w1).alloc o)).cell 5
    have vd6 : ∀ o, (w1.alloc o).cell? ⟨x3, 6, none⟩ = some (.int .u32 ack) := fun o => (B3.out.fine ((Fine.refl w1).alloc o)).cell 6
    have vd7 : ∀ o, (w1.alloc o).cell? ⟨x3, 7, none⟩ = some (.bool syn) := fun o => (B3.out.fine ((Fine.refl w1).alloc o)).cell 7
    have vd8 : ∀ o, (w1.alloc o).cell? ⟨x3, 8, none⟩ = some (.bool acks) := fun o => (B3.out.fine ((Fine.refl w1).alloc o)).cell 8
    have vd9 : ∀ o, (w1.alloc o).cell? ⟨x3, 9, none⟩ = some (.bool fin) := fun o => (B3.out.fine ((Fine.refl w1).alloc o)).cell 9
    have vd10 : ∀ o, (w1.alloc o).cell? ⟨x3, 10, none⟩ = some (.bool false) := fun o => (B3.out.fine ((Fine.refl w1).alloc o)).cell 10
    have vd11 : ∀ o, (w1.alloc o).cell? ⟨x3, 11, none⟩ = some (.int .i64 win) := fun o => (B3.out.fine ((Fine.refl w1).alloc o)).cell 11
    have vd12 : ∀ o, (w1.alloc o).cell? ⟨x3, 12, none⟩ = some (.slice oA ol oc) := fun o => (B3.out.fine ((Fine.refl w1).alloc o)).cell 12
    have vd13 : ∀ o, (w1.alloc o).cell? ⟨x3, 13, none⟩ = some (.slice dA dl dc) := fun o => (B3.out.fine ((Fine.refl w1).alloc o)).cell 13
    have ug0 : ∀ o, (w1.drew.alloc o).cell? ⟨g, 1, none⟩ = some (.pointer (some ⟨f1, 0, none⟩)) := fun o => (HS.out _ ((Fine.refl w1).drew.alloc o)).1
    have ug7 : ∀ o, (w1.drew.alloc o).cell? ⟨g, 7, none⟩ = some (.int .i64 tick) := fun o => (HS.out _ ((Fine.refl w1).drew.alloc o)).2
    have ud0 : ∀ o, (w1.drew.alloc o).cell? ⟨x3, 0, none⟩ = some (.int .i64 1) := fun o => (B3.out.fine ((Fine.refl w1).drew.alloc o)).cell 0
    have ud1 : ∀ o, (w1.drew.alloc o).cell? ⟨x3, 1, none⟩ = some (.int .i64 src) := fun o => (B3.out.fine ((Fine.refl w1).drew.alloc o)).cell 1
    have ud2 : ∀ o, (w1.drew.alloc o).cell? ⟨x3, 2, none⟩ = some (.int .i64 dst) := fun o => (B3.out.fine ((Fine.refl w1).drew.alloc o)).cell 2
    have ud3 : ∀ o, (w1.drew.alloc o).cell? ⟨x3, 3, none⟩ = some (.int .i64 sp) := fun o => (B3.out.fine ((Fine.refl w1).drew.alloc o)).cell 3
    have ud4 : ∀ o, (w1.drew.alloc o).cell? ⟨x3, 4, none⟩ = some (.int .i64 dp) := fun o => (B3.out.fine ((Fine.refl w1).drew.alloc o)).cell 4
    have ud5 : ∀ o, (w1.drew.alloc o).cell? ⟨x3, 5, none⟩ = some (.int .u32 seq) := fun o => (B3.out.fine ((Fine.refl w1).drew.alloc o)).cell 5
    have ud6 : ∀ o, (w1.drew.alloc o).cell? ⟨x3, 6, none⟩ = some (.int .u32 ack) := fun o => (B3.out.fine ((Fine.refl w1).drew.alloc o)).cell 6
    have ud7 : ∀ o, (w1.drew.alloc o).cell? ⟨x3, 7, none⟩ = some (.bool syn) := fun o => (B3.out.fine ((Fine.refl w1).drew.alloc o)).cell 7
    have ud8 : ∀ o, (w1.drew.alloc o).cell? ⟨x3, 8, none⟩ = some (.bool acks) := fun o => (B3.out.fine ((Fine.refl w1).drew.alloc o)).cell 8
    have ud9 : ∀ o, (w1.drew.alloc o).cell? ⟨x3, 9, none⟩ = some (.bool fin) := fun o => (B3.out.fine ((Fine.refl w1).drew.alloc o)).cell 9
    have ud10 : ∀ o, (w1.drew.alloc o).cell? ⟨x3, 10, none⟩ = some (.bool false) := fun o => (B3.out.fine ((Fine.refl w1).drew.alloc o)).cell 10
    have ud11 : ∀ o, (w1.drew.alloc o).cell? ⟨x3, 11, none⟩ = some (.int .i64 win) := fun o => (B3.out.fine ((Fine.refl w1).drew.alloc o)).cell 11
    have ud12 : ∀ o, (w1.drew.alloc o).cell? ⟨x3, 12, none⟩ = some (.slice oA ol oc) := fun o => (B3.out.fine ((Fine.refl w1).drew.alloc o)).cell 12
    have ud13 : ∀ o, (w1.drew.alloc o).cell? ⟨x3, 13, none⟩ = some (.slice dA dl dc) := fun o => (B3.out.fine ((Fine.refl w1).drew.alloc o)).cell 13
    clear HS
    go_region_law (first | (go_simp; go_at_call 55; refine (HA.out _ (by first | exact (Fine.refl w1).drew | exact (Fine.refl w1).drew.alloc _ | exact ((Fine.refl w1).alloc _).drew)).mono ?_; rintro e wF ⟨⟨o, fi, re, de, vA, vn, vc, rfl⟩, R, kb⟩; (first | (obtain ⟨b9, K9⟩ := kb rfl; have y0 : wF.cell? ⟨x4, 0, none⟩ = some (.bool false) := b9.cell 0; have y1 : wF.cell? ⟨x4, 1, none⟩ = some (.bool false) := b9.cell 1; have y2 : wF.cell? ⟨x4, 2, none⟩ = some (.bool false) := b9.cell 2; have y3 : wF.cell? ⟨x4, 3, none⟩ = some (.bool false) := b9.cell 3; have y4 : wF.cell? ⟨x4, 4, none⟩ = some (.bool false) := b9.cell 4; have y5 : wF.cell? ⟨x4, 5, none⟩ = some (.slice none 0 0) := b9.cell 5; have z0 := b9.frozen 0; have z1 := b9.frozen 1; have z2 := b9.frozen 2; have z3 := b9.frozen 3; have z4 := b9.frozen 4; have z5 := b9.frozen 5) | skip); clear kb))
    all_goals
      go_wp2_with fail
      go_meet
    all_goals
      first
      | exact ⟨_, rfl, Lib.hid ⟨⟨o, fi, re, de, vA, vn, vc, (b9.six97 rfl o fi re de fr (.slice vA vn vc)).1⟩, K9.out _ (b9.six97 rfl o fi re de fr (.slice vA vn vc)).2⟩⟩
      | exact ⟨_, rfl, Lib.hid ⟨⟨o, fi, re, de, vA, vn, vc, Blk.new _ _ _⟩, R.out.1.fine_ ((Fine.refl _).alloc _), R.out.2.fine ((Fine.refl _).alloc _)⟩⟩
      | trace_state
  case rest =>
    obtain ⟨x9, rfl, H9⟩ := hcut
    obtain ⟨w9, hw9⟩ : ∃ z, z = wc := ⟨_, rfl⟩
    subst hw9
    obtain ⟨⟨o, fi, re, de, vA, vn, vc, b9⟩, hca, b3⟩ := H9.out
    have c4 : w9.cell? ⟨x9, 4, none⟩ = some (.bool fr) := b9.cell 4
    clear HA HS H9 b9 g0 g7 d0 d1 d2 d3 d4 d5 d6 d7 d8 d9 d10 d11 d12 d13
    cases fr with
    | false =>
      have H9 := Lib.hid (hca.of.made F3.out)
      clear hca b3
      go_wp2_with fail
      exact bodyPost_end (v := .tuple #[]) (by simp [results, Try.results70, go_sem]) rfl ⟨rfl, H9.out⟩
    | true =>
      obtain ⟨c9, ⟨q0, q1, qA, qc, qs, qa0, qa1, qb0, qb1, X9⟩, i9, k9, l9⟩ := hca
      obtain ⟨vA5, vn5, vc5⟩ := qb1
      have y5 : w9.cell? ⟨g, 6, none⟩ = some (.slice vA5 vn5 vc5) := X9.box.cell 6
      have z5 := X9.box.frozen 6
      have d0 : w9.cell? ⟨x3, 0, none⟩ = some (.int .i64 1) := b3.cell 0
      have d13 : w9.cell? ⟨x3, 13, none⟩ = some (.slice dA dl dc) := b3.cell 13
      have hx9 : Hid (c9 x3 = 0) := Lib.hid (Classical.byContradiction fun e => (l9 x3 e).elim (fun e2 => e2 hc3.out) (fun e2 => by have := B3.out.lt; omega))
      have B39 := Lib.hid b3
      have X9' := Lib.hid X9; have I9 := Lib.hid i9; have K9 := Lib.hid k9; have L9 := Lib.hid l9
      clear X9 i9 k9 l9 b3
      go_upto_region 6 with fail
      go_region_law (refine step_appE rfl sliceB (.tmp 67) (.tmp 70) rfl 0 (.slice vA5 vn5 vc5) P.c1 rfl X9'.out.r3 dA dl dc xs rfl I9.out.n I9.out.rs (by have := HL.out; have := I9.out.n; have := I9.out.le; dsimp only at *; omega) (by have := HL.out; have := I9.out.n; have := I9.out.le; dsimp only at *; unfold maxLen; omega) (Nat.zero_le _) ?_; intro x2 wB oB kB0 gB0 bB; obtain ⟨A3, c3, hx2, _, _⟩ := oB.form; obtain ⟨n3, hn3⟩ : ∃ z, (P.c1 ++ xs).length = z := ⟨_, rfl⟩; rw [hn3] at hx2; subst hx2; have KB : Kept (fun y => (Value.slice vA5 vn5 vc5).ownBlock = some y) w9.drew wB := Kept.grown (Kept.refl _ _) gB0 (fun k hk _ => hk); have BB := (X9'.out.fine_ (Fine.refl w9).drew).box.kept KB (fun e => by have e := X9'.out.c3 g e; rw [X9'.out.cg] at e; cases e); have yB0 := BB.cell 6; have yB1 := BB.frozen 6; have b3B := (B39.out.fine (Fine.refl w9).drew).kept KB (fun e => by have e := X9'.out.c3 x3 e; rw [hx9.out] at e; cases e); have yd0 : wB.cell? ⟨x3, 0, none⟩ = some (.int .i64 1) := b3B.cell 0; have OB := Lib.hid oB; have KB' := Lib.hid KB; have BB' := Lib.hid bB; clear oB kB0 gB0 bB BB KB hn3 b3B)
      all_goals
        go_wp2_with fail
        exact bodyPost_end (v := .tuple #[]) (by simp [results, Try.results70, go_sem]) rfl ⟨rfl, PrOf.made (PrOf.after K9.out L9.out (X9'.out.grew_c1 (Fine.refl w9).drew (v3 := ⟨A3, n3, c3⟩) KB'.out OB.out BB'.out)) F3.out⟩
end
end Go.Proofs.Ytjldgialhgfhmaa
