/- A receiver: Ended, Ack, Win, Ready, New, near; wakes; one that is not there. -/
import Derived.Test.YtnigfdldfmiaiaaDrv4
import Derived.BigQuiet
namespace Go.Proofs.Ytnigfdldfmiaiaa
open Go.ChangeShapes Go.WideShapes Go.ChangeAt Go.RowKit Go.Maps
set_option linter.unusedVariables false
set_option linter.unusedSimpArgs false
section
variable {F : Nat → Prop} {g : Nat} {In : Int → Bool} {B : Int → Int} {rd nx e : Int} {mz : Nat}
/-- Its cells. -/
theorem RcS.cells {w : World} (h : RcS F w g In B rd nx e mz) : ∃ A c bm gs, Blk w g 108 #[.int .i64 nx, .slice A (nx - 1 - rd).toNat c, .map (some bm), .pointer (some ⟨gs, 0, none⟩), .int .i64 e] ∧ RS layB w A c (bufL B rd nx) ∧ ((nx - 1 - rd).toNat = 0 ↔ rd + 1 = nx) := by
  have hi := h.inv
  obtain ⟨A, c, bm, gs, v, l, E, h1, h2⟩ := h
  have hb := h1.box
  rw [bufL_len] at hb
  have h3 := h1.own.rs.1
  exact ⟨A, c, bm, gs, hb, h3, by have := hi.rn; omega⟩
def ackV (e nx : Int) : Int := if e = nx then nx + 1 else nx
set_option maxHeartbeats 1000000 in
set_option maxRecDepth 20000 in
theorem ended_any (w : World) (h : RcS F w g In B rd nx e mz) :
    Calls Try.prog 48 #[.pointer (some ⟨g, 0, none⟩)] w fun r w' => r = .returned (.bool (e == nx)) ∧ Fine w w' := by
  obtain ⟨A, c, bm, gs, hb, _, _⟩ := h.cells
  have c0 : w.cell? ⟨g, 0, none⟩ = some (.int .i64 nx) := hb.cell 0
  have c4 : w.cell? ⟨g, 4, none⟩ = some (.int .i64 e) := hb.cell 4
  clear hb h
  go_enter Try.func48, Try.ntmps48
  go_upto_region 1 with fail
  go_quiet (fail)
  go_wp2_with fail
  go_ret
  exact ⟨rfl, (Fine.refl w).drewN _⟩
set_option maxHeartbeats 1000000 in
set_option maxRecDepth 20000 in
theorem ack_any (w : World) (h : RcS F w g In B rd nx e mz) :
    Calls Try.prog 37 #[.pointer (some ⟨g, 0, none⟩)] w fun r w' => r = .returned (.int .i64 (ackV e nx)) ∧ Fine w w' := by
  have HE := Lib.hid (ended_any w h)
  have hi := h.inv
  have H := Lib.hid h
  have e1 : IntKind.i64.wrap (nx + 1) = nx + 1 := IntWalk.i64_in _ (by have := hi.rn; have := hi.r0; have := hi.nr; have := hi.big; omega)
  clear h hi
  go_enter Try.func37, Try.ntmps37
  go_wp2_with fail
  refine HE.out.mono ?_
  rintro r w1 ⟨rfl, f1⟩
  obtain ⟨A, c, bm, gs, hb, _, _⟩ := (H.out.fine f1).cells
  have c0 : w1.cell? ⟨g, 0, none⟩ = some (.int .i64 nx) := hb.cell 0
  have F1 := Lib.hid f1
  clear hb f1
  by_cases hq : e = nx
  · have hq2 : (e == nx) = true := by simpa using hq
    rw [hq2]
    have HQ := Lib.hid hq
    clear hq hq2
    go_wp2_with fail
    go_ret
    exact ⟨by unfold ackV; rw [if_pos HQ.out]; rfl, F1.out⟩
  · have hq2 : (e == nx) = false := by simpa using hq
    rw [hq2]
    have HQ := Lib.hid hq
    clear hq hq2
    go_wp2_with fail
    go_ret
    exact ⟨by unfold ackV; rw [if_neg HQ.out]; rfl, F1.out⟩
theorem sedge_any (w : World) (h : RcS F w g In B rd nx e mz) :
    Calls Try.prog 79 #[.pointer (some ⟨g, 0, none⟩)] w fun r w' => r = .returned (.int .i64 (rd + 33)) ∧ Fine w w' := by
  have hi := h.inv
  obtain ⟨A, c, bm, gs, v, l, E, hX, hl, hE, _⟩ := h
  have hr0 := hi.r0; have hrn := hi.rn; have hnr := hi.nr; have hbig := hi.big
  exact edge_any (rd + 33) (by rw [bufL_len]; omega) ⟨by omega, by omega, by rw [bufL_len]; omega⟩ w hX
set_option maxHeartbeats 1000000 in
set_option maxRecDepth 20000 in
theorem win_any (w : World) (h : RcS F w g In B rd nx e mz) :
    Calls Try.prog 36 #[.pointer (some ⟨g, 0, none⟩)] w fun r w' => r = .returned (.int .i64 (rd + 33 - nx)) ∧ Fine w w' := by
  have HE := Lib.hid (fun w' (f : Fine w w') => sedge_any w' (h.fine f))
  have hi := h.inv
  obtain ⟨ed, hed⟩ : ∃ z, rd + 33 = z := ⟨_, rfl⟩
  have e1 : IntKind.i64.wrap (ed - nx) = ed - nx := IntWalk.i64_in _ (by have := hi.rn; have := hi.r0; have := hi.nr; have := hi.big; omega)
  rw [hed] at HE ⊢
  obtain ⟨A, c, bm, gs, hb, _, _⟩ := h.cells
  have c0 : w.cell? ⟨g, 0, none⟩ = some (.int .i64 nx) := hb.cell 0
  have q0 : ∀ p : FineBy w, p.W.cell? ⟨g, 0, none⟩ = some (.int .i64 nx) := fun p => (hb.fine p.h).cell 0
  clear h hi hb hed
  go_enter Try.func36, Try.ntmps36
  go_upto_region 3 with fail
  refine wp_region_quiet_fine (by kernel_rfl) (by kernel_rfl) ?_
  repeat (quiet_step (exact Calls.fine_of (HE.out _ (FineBy.h _))))
  refine wpQuiet_nil ?_
  intro wf hwf'
  have hwf := Lib.hid (FineBy.of hwf')
  clear hwf' q0
  go_wp2_with fail
  go_ret
  exact ⟨rfl, hwf.out⟩
set_option maxHeartbeats 1000000 in
set_option maxRecDepth 20000 in
theorem ready_any (w : World) (h : RcS F w g In B rd nx e mz) :
    Calls Try.prog 39 #[.pointer (some ⟨g, 0, none⟩)] w fun r w' => r = .returned (.int .i64 (nx - 1 - rd)) ∧ Fine w w' := by
  have hi := h.inv
  obtain ⟨A, c, bm, gs, hb, _, _⟩ := h.cells
  obtain ⟨n, hn⟩ : ∃ n, (nx - 1 - rd).toNat = n := ⟨_, rfl⟩
  rw [hn] at hb
  have e1 : nx - 1 - rd = (n : Int) := by have := hi.rn; omega
  rw [e1]
  have c1 : w.cell? ⟨g, 1, none⟩ = some (.slice A n c) := hb.cell 1
  clear h hi hb hn e1
  go_enter Try.func39, Try.ntmps39
  go_wp2_with fail
  go_ret
  exact ⟨rfl, Fine.refl w⟩
end
set_option maxHeartbeats 1000000 in
set_option maxRecDepth 20000 in
theorem rnewv_any (w : World) : Calls Try.prog 32 #[] w fun r w' => ∃ g, r = .returned (.pointer (some ⟨g, 0, none⟩)) ∧ RcS (fun x => w.heap.size ≤ x ∧ x < w'.heap.size) w' g (fun _ => false) (fun _ => 0) 0 1 0 0 ∧ Fine w w' := by
  have hmm := @run_makeMap Try.prog
  obtain ⟨xm, hxm⟩ : ∃ x, w.heap.size = x := ⟨_, rfl⟩
  have f1 := (Fine.refl w).alloc (.map #[] 0)
  have m1 := MapB.new w
  rw [hxm] at m1
  go_enter Try.func32, Try.ntmps32
  go_wp2_with fail
  generalize w.alloc (.map #[] 0) = w1 at f1 m1 ⊢
  have F1 := Lib.hid f1; have M1 := Lib.hid m1; have HXM := Lib.hid hxm
  clear f1 m1 hmm hxm
  refine (new_nil w1).mono ?_
  rintro r w2 ⟨rfl, b2, f2⟩
  obtain ⟨gs, hgs⟩ : ∃ g, w1.heap.size = g := ⟨_, rfl⟩
  rw [hgs] at b2 ⊢
  have HGS := Lib.hid hgs; have B2 := Lib.hid b2; have F2 := Lib.hid f2
  clear hgs b2 f2
  go_wp2_with fail
  go_ret
  have f3 := (Fine.refl w2).alloc (.cells #[.int .i64 1, .slice none 0 0, .map (some xm), .pointer (some ⟨gs, 0, none⟩), .int .i64 0] 108)
  have hs1 : w.heap.size < w1.heap.size := by have := M1.out.lt; rw [HXM.out]; exact this
  have hs2 := B2.out.lt
  have hb3 := Blk.new w2 108 #[.int .i64 1, .slice none 0 0, .map (some xm), .pointer (some ⟨gs, 0, none⟩), .int .i64 0]
  refine ⟨w2.heap.size, rfl, ⟨none, 0, xm, gs, .slice none 0 0, [], fun _ => 0, ⟨hb3, Own.nil_ _ _ _ _, ?_, SetA.nil (B2.out.fine f3), Tidy.nil, ?_, ?_, ?_, (fun x hx => by cases hx), (fun x hx => by cases hx), fun x hx => hx.2⟩, (fun n => by simp [inB]), (fun n _ h => by cases h), ⟨by omega, by omega, by omega, by omega, (fun n h1 h2 => by omega), rfl, (fun n h => by cases h), .inl rfl⟩⟩, ((F1.out.trans F2.out).alloc _)⟩
  · have hm := M1.out.block (F2.out.block _ M1.out.lt)
    exact hm.block (f3.block _ hm.lt)
  · have := HGS.out; exact ⟨by omega, hb3.lt⟩
  · have := HXM.out; have := M1.out.lt; have := F2.out.size; have := f3.size; exact ⟨by omega, by omega⟩
  · have := HGS.out; have := f3.size; exact ⟨by omega, by omega⟩
end Go.Proofs.Ytnigfdldfmiaiaa
