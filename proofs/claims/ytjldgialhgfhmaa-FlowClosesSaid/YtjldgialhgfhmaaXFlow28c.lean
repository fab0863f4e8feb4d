/- Two flows: comes, to the second flow that is not there yet. -/
import Derived.Test.YtjldgialhgfhmaaNk
import Derived.Deep.RegionLaw
import Derived.Deep.Cut
import Derived.Deep.CutBlock
namespace Go.Proofs.Ytjldgialhgfhmaa
set_option linter.unusedVariables false
set_option linter.unusedSimpArgs false
open Go.ChangeShapes Go.WideShapes Go.ChangeAt Go.RowKit Go.Maps
set_option linter.unusedVariables false
set_option linter.unusedSimpArgs false
section
variable {col : Nat → Nat} {w0 w w' wB : World} {g f0 : Nat} {p1 : Option Nat} {wA : Option Addr} {wc : Nat} {ks : List Rk} {a0 a1 b0 b1 : SlV} {P : Pr}
set_option maxHeartbeats 8000000 in
set_option maxRecDepth 100000 in
theorem comes_N (h : PrX col w0 w g f0 none wA wc ks a0 a1 b0 b1 P) (ht : 0 ≤ P.tick ∧ P.tick ≤ 1099511627776) (s : Sg) (hk : IsG w (fun b => col b = 3) s) :
    Calls Try.prog 70 #[.pointer (some ⟨g, 0, none⟩), .agg (.int .i64 1 :: s.cells).toArray] w fun e w' => e = .returned (.tuple #[]) ∧ PrOf col w0 g (if s.syn = true ∧ s.acks = false then { P with f1 := some (answered s.sm P.tick) } else P) w w' := by
  have HH := Lib.hid h
  obtain ⟨src, dst, sp, dp, seq, ack, syn, acks, fin, rst, win, oA, ol, oc, dA, dl, dc, xs⟩ := s
  have hrst : rst = false := hk.rst
  subst hrst
  obtain ⟨tick, htick⟩ : ∃ z, P.tick = z := ⟨_, rfl⟩
  have HTK := Lib.hid htick; have HT := Lib.hid ht
  obtain ⟨T, hT⟩ : ∃ z, answered (Sg.sm ⟨src, dst, sp, dp, seq, ack, syn, acks, fin, false, win, oA, ol, oc, dA, dl, dc, xs⟩) P.tick = z := ⟨_, rfl⟩
  show Calls Try.prog 70 #[.pointer (some ⟨g, 0, none⟩), .agg #[.int .i64 1, .int .i64 src, .int .i64 dst, .int .i64 sp, .int .i64 dp, .int .u32 seq, .int .u32 ack, .bool syn, .bool acks, .bool fin, .bool false, .int .i64 win, .slice oA ol oc, .slice dA dl dc]] w fun e w' => e = .returned (.tuple #[]) ∧ PrOf col w0 g (if syn = true ∧ acks = false then { P with f1 := some (answered (Sg.sm ⟨src, dst, sp, dp, seq, ack, syn, acks, fin, false, win, oA, ol, oc, dA, dl, dc, xs⟩) P.tick) } else P) w w'
  rw [hT]
  obtain ⟨PN, hPN⟩ : ∃ z, (if syn = true ∧ acks = false then { P with f1 := some T } else P) = z := ⟨_, rfl⟩
  rw [hPN]
  have HPN := Lib.hid hPN
  clear hPN
  obtain ⟨x3, hx3⟩ : ∃ x, w.heap.size = x := ⟨_, rfl⟩
  have b3 := Blk.newAt (w := w) (t := 114) (cs := #[.int .i64 1, .int .i64 src, .int .i64 dst, .int .i64 sp, .int .i64 dp, .int .u32 seq, .int .u32 ack, .bool syn, .bool acks, .bool fin, .bool false, .int .i64 win, .slice oA ol oc, .slice dA dl dc]) hx3.symm
  have f3 := (Fine.refl w).alloc (.cells #[.int .i64 1, .int .i64 src, .int .i64 dst, .int .i64 sp, .int .i64 dp, .int .u32 seq, .int .u32 ack, .bool syn, .bool acks, .bool fin, .bool false, .int .i64 win, .slice oA ol oc, .slice dA dl dc] 114)
  have HA : Hid (∀ w', Calls Try.prog 51 #[.int .u32 9000, .agg #[.int .i64 src, .int .i64 dst, .int .i64 sp, .int .i64 dp, .int .u32 seq, .int .u32 ack, .bool syn, .bool acks, .bool fin, .bool false, .int .i64 win, .slice oA ol oc, .slice dA dl dc], .int .i64 tick] w' (FlNew T w')) := Lib.hid (fun w' => by
    have := answer_any 9000 P.tick (by omega) ht ⟨src, dst, sp, dp, seq, ack, syn, acks, fin, false, win, oA, ol, oc, dA, dl, dc, xs⟩ w'
    rw [IntKind.wrap_u32] at this
    rw [← hT, ← htick]
    exact this)
  clear hk h ht htick hT
  go_enter Try.func70, Try.ntmps70
  have e1' : (w.alloc (.cells #[.int .i64 1, .int .i64 src, .int .i64 dst, .int .i64 sp, .int .i64 dp, .int .u32 seq, .int .u32 ack, .bool syn, .bool acks, .bool fin, .bool false, .int .i64 win, .slice oA ol oc, .slice dA dl dc] 114)).cell? ⟨g, 1, none⟩ = some (.pointer none) := (HH.out.fine_ f3).box.cell 1
  have e4' : (w.alloc (.cells #[.int .i64 1, .int .i64 src, .int .i64 dst, .int .i64 sp, .int .i64 dp, .int .u32 seq, .int .u32 ack, .bool syn, .bool acks, .bool fin, .bool false, .int .i64 win, .slice oA ol oc, .slice dA dl dc] 114)).cell? ⟨g, 7, none⟩ = some (.int .i64 tick) := by have := (HH.out.fine_ f3).box.cell 7; rw [← HTK.out]; exact this
  go_upto_region 1 with fail
  try rw [hx3]
  generalize w.alloc (.cells #[.int .i64 1, .int .i64 src, .int .i64 dst, .int .i64 sp, .int .i64 dp, .int .u32 seq, .int .u32 ack, .bool syn, .bool acks, .bool fin, .bool false, .int .i64 win, .slice oA ol oc, .slice dA dl dc] 114) = w1 at b3 f3 e1' e4' ⊢
  have B3 := Lib.hid b3; have F3 := Lib.hid f3
  have d0 : w1.cell? ⟨x3, 0, none⟩ = some (.int .i64 1) := b3.cell 0
  have d1 : w1.cell? ⟨x3, 1, none⟩ = some (.int .i64 src) := b3.cell 1
  have d2 : w1.cell? ⟨x3, 2, none⟩ = some (.int .i64 dst) := b3.cell 2
  have d3 : w1.cell? ⟨x3, 3, none⟩ = some (.int .i64 sp) := b3.cell 3
  have d4 : w1.cell? ⟨x3, 4, none⟩ = some (.int .i64 dp) := b3.cell 4
  have d5 : w1.cell? ⟨x3, 5, none⟩ = some (.int .u32 seq) := b3.cell 5
  have d6 : w1.cell? ⟨x3, 6, none⟩ = some (.int .u32 ack) := b3.cell 6
  have d7 : w1.cell? ⟨x3, 7, none⟩ = some (.bool syn) := b3.cell 7
  have d8 : w1.cell? ⟨x3, 8, none⟩ = some (.bool acks) := b3.cell 8
  have d9 : w1.cell? ⟨x3, 9, none⟩ = some (.bool fin) := b3.cell 9
  have d10 : w1.cell? ⟨x3, 10, none⟩ = some (.bool false) := b3.cell 10
  have d11 : w1.cell? ⟨x3, 11, none⟩ = some (.int .i64 win) := b3.cell 11
  have d12 : w1.cell? ⟨x3, 12, none⟩ = some (.slice oA ol oc) := b3.cell 12
  have d13 : w1.cell? ⟨x3, 13, none⟩ = some (.slice dA dl dc) := b3.cell 13
  clear b3 f3 hx3
  by_cases hg : syn = true ∧ acks = false
  · have HPE : Hid (PN = { P with f1 := some T }) := Lib.hid (by rw [← HPN.out]; exact if_pos hg)
    clear HPN
    obtain ⟨h1, h2⟩ := hg
    subst h1; subst h2
    go_upto_region 3 with fail
    go_region_law (go_simp; go_at_call 51; refine (HA.out _).mono ?_; rintro e wF ⟨f, F, rfl, hS, hF, fF⟩; have FF := Lib.hid fF; have HS := Lib.hid hS; have HF := Lib.hid hF; have XF := Lib.hid (HH.out.fine_ (F3.out.trans ((Fine.refl w1).drew.trans fF))); have y1 : wF.cell? ⟨g, 1, none⟩ = some (.pointer none) := XF.out.box.cell 1; have z1 := XF.out.box.frozen 1; clear hS hF fF)
    all_goals
      go_wp2_with fail
      have HB := Lib.hid (HH.out.born HS.out (fun b hb => Nat.le_trans F3.out.size (HF.out b hb)) (F3.out.trans ((Fine.refl w1).drew.trans FF.out)))
      exact bodyPost_ret (v := .tuple #[]) (by simp [results, Try.results70, go_sem]) rfl ⟨rfl, by rw [HPE.out]; exact HB.out⟩
  · have HPE : Hid (PN = P) := Lib.hid (by rw [← HPN.out]; exact if_neg hg)
    cases hs : syn
    · subst hs
      go_wp2_with fail
      exact bodyPost_ret (v := .tuple #[]) (by simp [results, Try.results70, go_sem]) rfl ⟨rfl, by rw [HPE.out]; exact PrOf.self ⟨_, _, _, _, _, _, _, _, _, HH.out⟩ (by first | exact F3.out | exact F3.out.drew)⟩
    · cases ha : acks
      · exact absurd ⟨hs, ha⟩ hg
      · subst hs; subst ha
        go_wp2_with fail
        exact bodyPost_ret (v := .tuple #[]) (by simp [results, Try.results70, go_sem]) rfl ⟨rfl, by rw [HPE.out]; exact PrOf.self ⟨_, _, _, _, _, _, _, _, _, HH.out⟩ (by first | exact F3.out | exact F3.out.drew)⟩
end
end Go.Proofs.Ytjldgialhgfhmaa
