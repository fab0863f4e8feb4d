/- A segment that came in; the law FlowNil. A flow that is over; Answer; the law FlowOver. -/
import Derived.Test.YtjldgialhgfhmaaXFlow7
import Derived.Test.YtjldgialhgfhmaaXOutqOpen
import Derived.Test.YtjldgialhgfhmaaNc
namespace Go.Proofs.Ytjldgialhgfhmaa
set_option linter.unusedVariables false
set_option linter.unusedSimpArgs false
open Go.ChangeShapes Go.WideShapes Go.ChangeAt Go.RowKit Go.Maps
set_option linter.unusedVariables false
set_option linter.unusedSimpArgs false
/-- A segment as it lies. -/
structure Sg where
  src : Int
  dst : Int
  sp : Int
  dp : Int
  seq : Int
  ack : Int
  syn : Bool
  acks : Bool
  fin : Bool
  rst : Bool
  win : Int
  oA : Option Addr
  ol : Nat
  oc : Nat
  dA : Option Addr
  dl : Nat
  dc : Nat
  xs : List Int
abbrev Sg.cells (s : Sg) : List Value := [.int .i64 s.src, .int .i64 s.dst, .int .i64 s.sp, .int .i64 s.dp, .int .u32 s.seq, .int .u32 s.ack, .bool s.syn, .bool s.acks, .bool s.fin, .bool s.rst, .int .i64 s.win, .slice s.oA s.ol s.oc, .slice s.dA s.dl s.dc]
structure Sg.At (s : Sg) (w : World) : Prop where
  seq : 0 ≤ s.seq ∧ s.seq < 4294967296
  ack : 0 ≤ s.ack ∧ s.ack < 4294967296
  dn : s.dl = s.xs.length
  data : RS LB w s.dA s.dc s.xs
section
variable {H : Type} {enc : TypeId × Value → H} {w : World} {m : Nat}
set_option maxRecDepth 20000 in
theorem seg_of {fs : Array Field} {cs : List Value} (hfs : Try.prog.underlying 89 = some (.struct fs)) (h : Fielded enc Try.prog w (fun _ => true) true m fs cs) (hl : cs.length = 13) :
    ∃ s : Sg, cs = s.cells ∧ s.At w := by
  have e1 := hfs.symm.trans Try.underlying89
  injection e1 with e1
  injection e1 with e1
  subst e1
  have h0 := h.int 0 0 3 (by kernel_rfl) (by kernel_rfl) Try.underlying3
  have h1 := h.int 1 1 3 (by kernel_rfl) (by kernel_rfl) Try.underlying3
  have h2 := h.int 2 2 3 (by kernel_rfl) (by kernel_rfl) Try.underlying3
  have h3 := h.int 3 3 3 (by kernel_rfl) (by kernel_rfl) Try.underlying3
  have h4 := h.int 4 4 41 (by kernel_rfl) (by kernel_rfl) Try.underlying41
  have h5 := h.int 5 5 41 (by kernel_rfl) (by kernel_rfl) Try.underlying41
  have h6 := h.bool 6 6 4 (by kernel_rfl) (by kernel_rfl) Try.underlying4
  have h7 := h.bool 7 7 4 (by kernel_rfl) (by kernel_rfl) Try.underlying4
  have h8 := h.bool 8 8 4 (by kernel_rfl) (by kernel_rfl) Try.underlying4
  have h9 := h.bool 9 9 4 (by kernel_rfl) (by kernel_rfl) Try.underlying4
  have h10 := h.int 10 10 3 (by kernel_rfl) (by kernel_rfl) Try.underlying3
  obtain ⟨v11, x11, h11, t11⟩ := h.one 11 11 87 (by kernel_rfl) (by kernel_rfl) (by omega)
  obtain ⟨v12, x12, h12, t12⟩ := h.one 12 12 29 (by kernel_rfl) (by kernel_rfl) (by omega)
  obtain ⟨A, n1, c, rfl, s11⟩ := cell_slice Try.underlying87 t11
  obtain ⟨B, n2, d, rfl, s12⟩ := cell_slice Try.underlying29 t12
  obtain ⟨xs, hz⟩ := intsIn_of Try.underlying29 Try.underlying5 (by kernel_rfl) s12
  refine ⟨⟨cellInt cs[0]?, cellInt cs[1]?, cellInt cs[2]?, cellInt cs[3]?, cellInt cs[4]?, cellInt cs[5]?, cellBool cs[6]?, cellBool cs[7]?, cellBool cs[8]?, cellBool cs[9]?, cellInt cs[10]?, A, n1, c, B, n2, d, xs⟩, ?_, ⟨?_, ?_, hz.2.2.1.symm, rs_of_ints hz⟩⟩
  · apply List.ext_getElem?
    intro i
    rcases i with _ | _ | _ | _ | _ | _ | _ | _ | _ | _ | _ | _ | _ | i
    · exact h0.1
    · exact h1.1
    · exact h2.1
    · exact h3.1
    · exact h4.1
    · exact h5.1
    · exact h6
    · exact h7
    · exact h8
    · exact h9
    · exact h10.1
    · exact h11
    · exact h12
    · rw [List.getElem?_eq_none (by omega), List.getElem?_eq_none (by simp)]
  · have hb := bounds_u32 h4.2
    show 0 ≤ cellInt cs[4]? ∧ cellInt cs[4]? < 4294967296
    exact ⟨by omega, by omega⟩
  · have hb := bounds_u32 h5.2
    show 0 ≤ cellInt cs[5]? ∧ cellInt cs[5]? < 4294967296
    exact ⟨by omega, by omega⟩
set_option maxRecDepth 20000 in
theorem open_seg {W : World} {r : Reach} {b0 : Nat} {v : Value} {d : DataW H} {p : List MemPlace}
    (hv : Value.okWide Try.prog W r b0 89 v) (h : DataW.Trod enc Try.prog w 0 (fun _ => true) true 89 v d p) :
    ∃ s : Sg, v = .agg s.cells.toArray ∧ s.At w := by
  obtain ⟨cs, rfl⟩ := okWide_struct Try.underlying89 hv
  obtain ⟨fuel, hf⟩ := h
  have hf' : DataW.trod enc Try.prog w 0 (fun _ => true) true fuel 89 cs.toList = some (d, p) := hf
  obtain ⟨m, hF, hl⟩ := fielded_of Try.underlying89 hf'
  obtain ⟨s, h1, h2⟩ := seg_of Try.underlying89 hF (hl.trans (by kernel_rfl))
  exact ⟨s, by rw [← h1], h2⟩
end
/-- Nothing was heard. -/
abbrev heard0 : Value := .agg #[.bool false, .bool false, .bool false, .bool false, .bool false, .slice none 0 0]
theorem size97 : (Try.prog.info? 97).map (·.size) = some 6 := by kernel_rfl
theorem heardSame_any (w : World) : Calls Try.prog 54 #[heard0, heard0] w fun x w' => x = .returned (.bool true) ∧ Fine w w' := by
  have HS := Lib.hid (fun w' => sameAll_any none none 0 0 [] [] [] (fun _ => False) (fun _ => False) w' (RS.nil_ _ _) (RS.nil_ _ _) (Iss.nil_ _ _) (Iss.nil_ _ _))
  go_enter Try.func54, Try.ntmps54
  go_wp2_with fail
  refine (HS.out _).mono ?_
  rintro x w1 ⟨rfl, f1⟩
  have F1 := Lib.hid (((Fine.refl w).alloc _).alloc _ |>.trans f1)
  clear f1
  go_wp2_with fail
  go_ret
  exact ⟨rfl, F1.out⟩
set_option maxHeartbeats 1000000 in
theorem hear_nil (s : Sg) (t : Int) (w : World) : Calls Try.prog 55 #[.pointer none, .agg s.cells.toArray, .int .i64 t] w fun x w' => x = .returned heard0 ∧ Fine w w' := by
  obtain ⟨src, dst, sp, dp, seq, ack, syn, acks, fin, rst, win, oA, ol, oc, dA, dl, dc, xs⟩ := s
  show Calls Try.prog 55 #[.pointer none, .agg #[.int .i64 src, .int .i64 dst, .int .i64 sp, .int .i64 dp, .int .u32 seq, .int .u32 ack, .bool syn, .bool acks, .bool fin, .bool rst, .int .i64 win, .slice oA ol oc, .slice dA dl dc], .int .i64 t] w _
  obtain ⟨w1, hw1⟩ : ∃ z, w.alloc (.cells #[.int .i64 src, .int .i64 dst, .int .i64 sp, .int .i64 dp, .int .u32 seq, .int .u32 ack, .bool syn, .bool acks, .bool fin, .bool rst, .int .i64 win, .slice oA ol oc, .slice dA dl dc] 89) = z := ⟨_, rfl⟩
  have f1 : Fine w w1 := by rw [← hw1]; exact (Fine.refl w).alloc _
  obtain ⟨x6, hx6⟩ : ∃ x, w1.heap.size = x := ⟨_, rfl⟩
  have b6 := Blk.newAt (w := w1) (t := 97) (cs := #[.bool false, .bool false, .bool false, .bool false, .bool false, .slice none 0 0]) hx6.symm
  have f2 := f1.alloc (.cells #[.bool false, .bool false, .bool false, .bool false, .bool false, .slice none 0 0] 97)
  have b7 := Blk.newAt (w := w1.alloc (.cells #[.bool false, .bool false, .bool false, .bool false, .bool false, .slice none 0 0] 97)) (t := 97) (cs := #[.bool false, .bool false, .bool false, .bool false, .bool false, .slice none 0 0]) (g := x6 + 1) (by have h8 : (w1.alloc (.cells #[.bool false, .bool false, .bool false, .bool false, .bool false, .slice none 0 0] 97)).heap.size = w1.heap.size + 1 := (by simp); omega)
  have f3 := f2.alloc (.cells #[.bool false, .bool false, .bool false, .bool false, .bool false, .slice none 0 0] 97)
  have B6 := Lib.hid (b6.fine ((Fine.refl _).alloc (.cells #[.bool false, .bool false, .bool false, .bool false, .bool false, .slice none 0 0] 97))); have B7 := Lib.hid b7; have F3 := Lib.hid f3
  have HX6 : Hid (w.heap.size ≤ x6) := Lib.hid (by have := f1.size; omega)
  clear b6 b7 f1 f2 f3
  go_enter Try.func55, Try.ntmps55
  go_wp2_with fail
  generalize (w1.alloc (.cells #[.bool false, .bool false, .bool false, .bool false, .bool false, .slice none 0 0] 97)).alloc (.cells #[.bool false, .bool false, .bool false, .bool false, .bool false, .slice none 0 0] 97) = w3 at B6 B7 F3 ⊢
  refine (over_nil w3).mono ?_
  rintro x w4 ⟨rfl, f4⟩
  have B64 := Lib.hid (B6.out.fine f4); have B74 := Lib.hid (B7.out.fine f4); have F4 := Lib.hid (F3.out.trans f4)
  clear f4 hw1 hx6
  have d0 : w4.cell? ⟨x6 + 1, 0, none⟩ = some (.bool false) := B74.out.cell 0
  have d1 : w4.cell? ⟨x6 + 1, 1, none⟩ = some (.bool false) := B74.out.cell 1
  have d2 : w4.cell? ⟨x6 + 1, 2, none⟩ = some (.bool false) := B74.out.cell 2
  have d3 : w4.cell? ⟨x6 + 1, 3, none⟩ = some (.bool false) := B74.out.cell 3
  have d4 : w4.cell? ⟨x6 + 1, 4, none⟩ = some (.bool false) := B74.out.cell 4
  have d5 : w4.cell? ⟨x6 + 1, 5, none⟩ = some (.slice none 0 0) := B74.out.cell 5
  have e0 : w4.cell? ⟨x6, 0, none⟩ = some (.bool false) := B64.out.cell 0
  have e1 : w4.cell? ⟨x6, 1, none⟩ = some (.bool false) := B64.out.cell 1
  have e2 : w4.cell? ⟨x6, 2, none⟩ = some (.bool false) := B64.out.cell 2
  have e3 : w4.cell? ⟨x6, 3, none⟩ = some (.bool false) := B64.out.cell 3
  have e4 : w4.cell? ⟨x6, 4, none⟩ = some (.bool false) := B64.out.cell 4
  have e5 : w4.cell? ⟨x6, 5, none⟩ = some (.slice none 0 0) := B64.out.cell 5
  have z0 := B64.out.frozen 0
  have z1 := B64.out.frozen 1
  have z2 := B64.out.frozen 2
  have z3 := B64.out.frozen 3
  have z4 := B64.out.frozen 4
  have z5 := B64.out.frozen 5
  have BF := Lib.hid ((((((B64.out.set_ 0 (.bool false)).set_ 1 (.bool false)).set_ 2 (.bool false)).set_ 3 (.bool false)).set_ 4 (.bool false)).set_ 5 (.slice none 0 0))
  have FF := Lib.hid ((((((F4.out.setCell (p := ⟨x6, 0, none⟩) HX6.out (.bool false)).setCell (p := ⟨x6, 1, none⟩) HX6.out (.bool false)).setCell (p := ⟨x6, 2, none⟩) HX6.out (.bool false)).setCell (p := ⟨x6, 3, none⟩) HX6.out (.bool false)).setCell (p := ⟨x6, 4, none⟩) HX6.out (.bool false)).setCell (p := ⟨x6, 5, none⟩) HX6.out (.slice none 0 0))
  go_wp2_with fail
  exact bodyPost_ret (results_cell_row rfl _ _ x6 97 _ (0, 0) _ rfl BF.out Try.underlying97 rfl size97) rfl ⟨rfl, FF.out⟩
set_option maxHeartbeats 1000000 in
theorem expire_nil (t : Int) (w : World) : Calls Try.prog 56 #[.pointer none, .int .i64 t] w fun x w' => x = .returned heard0 ∧ Fine w w' := by
  obtain ⟨x6, hx6⟩ : ∃ x, w.heap.size = x := ⟨_, rfl⟩
  have b6 := Blk.newAt (w := w) (t := 97) (cs := #[.bool false, .bool false, .bool false, .bool false, .bool false, .slice none 0 0]) hx6.symm
  have f2 := (Fine.refl w).alloc (.cells #[.bool false, .bool false, .bool false, .bool false, .bool false, .slice none 0 0] 97)
  have B64 := Lib.hid b6; have F4 := Lib.hid f2
  have HX6 : Hid (w.heap.size ≤ x6) := Lib.hid (by omega)
  clear b6 f2
  go_enter Try.func56, Try.ntmps56
  go_upto_region 1 with fail
  generalize w.alloc (.cells #[.bool false, .bool false, .bool false, .bool false, .bool false, .slice none 0 0] 97) = w4 at B64 F4 ⊢
  clear hx6
  have e0 : w4.cell? ⟨x6, 0, none⟩ = some (.bool false) := B64.out.cell 0
  have e1 : w4.cell? ⟨x6, 1, none⟩ = some (.bool false) := B64.out.cell 1
  have e2 : w4.cell? ⟨x6, 2, none⟩ = some (.bool false) := B64.out.cell 2
  have e3 : w4.cell? ⟨x6, 3, none⟩ = some (.bool false) := B64.out.cell 3
  have e4 : w4.cell? ⟨x6, 4, none⟩ = some (.bool false) := B64.out.cell 4
  have e5 : w4.cell? ⟨x6, 5, none⟩ = some (.slice none 0 0) := B64.out.cell 5
  have z0 := B64.out.frozen 0
  have z1 := B64.out.frozen 1
  have z2 := B64.out.frozen 2
  have z3 := B64.out.frozen 3
  have z4 := B64.out.frozen 4
  have z5 := B64.out.frozen 5
  have BF := Lib.hid ((((((B64.out.set_ 0 (.bool false)).set_ 1 (.bool false)).set_ 2 (.bool false)).set_ 3 (.bool false)).set_ 4 (.bool false)).set_ 5 (.slice none 0 0))
  have FF := Lib.hid ((((((F4.out.setCell (p := ⟨x6, 0, none⟩) HX6.out (.bool false)).setCell (p := ⟨x6, 1, none⟩) HX6.out (.bool false)).setCell (p := ⟨x6, 2, none⟩) HX6.out (.bool false)).setCell (p := ⟨x6, 3, none⟩) HX6.out (.bool false)).setCell (p := ⟨x6, 4, none⟩) HX6.out (.bool false)).setCell (p := ⟨x6, 5, none⟩) HX6.out (.slice none 0 0))
  go_wp2_with fail
  exact bodyPost_ret (results_cell_row rfl _ _ x6 97 _ (0, 0) _ rfl BF.out Try.underlying97 rfl size97) rfl ⟨rfl, FF.out⟩
set_option maxHeartbeats 4000000 in
set_option maxRecDepth 20000 in
theorem lawFlowNil (w : World) (s : Sg) (hs : s.At w) (t : Int) (wt : (Lit.int .i64 t).wf = true) :
    Calls Try.prog 16 #[.agg s.cells.toArray, .int .i64 t] w fun e w' => e = .returned (.bool true) ∧ Below w.heap.size w w' := by
  show Calls _ _ _ _ fun e w' => e = .returned (.bool true) ∧ Fine w w'
  clear hs wt
  have HH := Lib.hid (fun w' => hear_nil s t w')
  obtain ⟨src, dst, sp, dp, seq, ack, syn, acks, fin, rst, win, oA, ol, oc, dA, dl, dc, xs⟩ := s
  have HH : Hid (∀ w' : World, Calls Try.prog 55 #[.pointer none, .agg #[.int .i64 src, .int .i64 dst, .int .i64 sp, .int .i64 dp, .int .u32 seq, .int .u32 ack, .bool syn, .bool acks, .bool fin, .bool rst, .int .i64 win, .slice oA ol oc, .slice dA dl dc], .int .i64 t] w' fun x w'' => x = .returned heard0 ∧ Fine w' w'') := HH
  show Calls Try.prog 16 #[.agg #[.int .i64 src, .int .i64 dst, .int .i64 sp, .int .i64 dp, .int .u32 seq, .int .u32 ack, .bool syn, .bool acks, .bool fin, .bool rst, .int .i64 win, .slice oA ol oc, .slice dA dl dc], .int .i64 t] w _
  obtain ⟨x2, hx2⟩ : ∃ x, w.heap.size = x := ⟨_, rfl⟩
  have b2 := Blk.newAt (w := w) (t := 89) (cs := #[.int .i64 src, .int .i64 dst, .int .i64 sp, .int .i64 dp, .int .u32 seq, .int .u32 ack, .bool syn, .bool acks, .bool fin, .bool rst, .int .i64 win, .slice oA ol oc, .slice dA dl dc]) hx2.symm
  have f2 := (Fine.refl w).alloc (.cells #[.int .i64 src, .int .i64 dst, .int .i64 sp, .int .i64 dp, .int .u32 seq, .int .u32 ack, .bool syn, .bool acks, .bool fin, .bool rst, .int .i64 win, .slice oA ol oc, .slice dA dl dc] 89)
  go_enter Try.func16, Try.ntmps16
  go_upto_region 1 with fail
  generalize w.alloc (.cells #[.int .i64 src, .int .i64 dst, .int .i64 sp, .int .i64 dp, .int .u32 seq, .int .u32 ack, .bool syn, .bool acks, .bool fin, .bool rst, .int .i64 win, .slice oA ol oc, .slice dA dl dc] 89) = w1 at b2 f2 ⊢
  have B1 := Lib.hid b2; have F1 := Lib.hid f2
  clear b2 f2 hx2
  go_wp2_with fail
  refine (flowWakes_any w1).mono ?_
  rintro e w2 ⟨rfl, f2⟩
  have B2 := Lib.hid (B1.out.fine f2); have F2 := Lib.hid (F1.out.trans f2)
  clear f2
  go_wp2_with fail
  refine (kill_nil w2).mono ?_
  rintro e w3 ⟨rfl, f3⟩
  have B3 := Lib.hid (B2.out.fine f3); have F3 := Lib.hid (F2.out.trans f3)
  clear f3
  go_wp2_with fail
  refine (at_nil w3).mono ?_
  rintro e w4 ⟨rfl, f4⟩
  have B4 := Lib.hid (B3.out.fine f4); have F4 := Lib.hid (F3.out.trans f4)
  clear f4
  have c0 : w4.cell? ⟨x2, 0, none⟩ = some (.int .i64 src) := B4.out.cell 0
  have c1 : w4.cell? ⟨x2, 1, none⟩ = some (.int .i64 dst) := B4.out.cell 1
  have c2 : w4.cell? ⟨x2, 2, none⟩ = some (.int .i64 sp) := B4.out.cell 2
  have c3 : w4.cell? ⟨x2, 3, none⟩ = some (.int .i64 dp) := B4.out.cell 3
  have c4 : w4.cell? ⟨x2, 4, none⟩ = some (.int .u32 seq) := B4.out.cell 4
  have c5 : w4.cell? ⟨x2, 5, none⟩ = some (.int .u32 ack) := B4.out.cell 5
  have c6 : w4.cell? ⟨x2, 6, none⟩ = some (.bool syn) := B4.out.cell 6
  have c7 : w4.cell? ⟨x2, 7, none⟩ = some (.bool acks) := B4.out.cell 7
  have c8 : w4.cell? ⟨x2, 8, none⟩ = some (.bool fin) := B4.out.cell 8
  have c9 : w4.cell? ⟨x2, 9, none⟩ = some (.bool rst) := B4.out.cell 9
  have c10 : w4.cell? ⟨x2, 10, none⟩ = some (.int .i64 win) := B4.out.cell 10
  have c11 : w4.cell? ⟨x2, 11, none⟩ = some (.slice oA ol oc) := B4.out.cell 11
  have c12 : w4.cell? ⟨x2, 12, none⟩ = some (.slice dA dl dc) := B4.out.cell 12
  go_wp2_with fail
  refine (HH.out w4).mono ?_
  rintro e w5 ⟨rfl, f5⟩
  have F5 := Lib.hid (F4.out.trans f5)
  clear f5 c0 c1 c2 c3 c4 c5 c6 c7 c8 c9 c10 c11 c12
  go_wp2_with fail
  refine (heardSame_any w5).mono ?_
  rintro e w6 ⟨rfl, f6⟩
  have F6 := Lib.hid (F5.out.trans f6)
  clear f6
  go_wp2_with fail
  refine (expire_nil t w6).mono ?_
  rintro e w7 ⟨rfl, f7⟩
  have F7 := Lib.hid (F6.out.trans f7)
  clear f7
  go_wp2_with fail
  refine (heardSame_any w7).mono ?_
  rintro e w8 ⟨rfl, f8⟩
  have F8 := Lib.hid (F7.out.trans f8)
  clear f8
  go_wp2_with fail
  refine (send_nil _ 0 false t w8).mono ?_
  rintro e w9 ⟨rfl, f9⟩
  have F9 := Lib.hid (F8.out.trans f9)
  clear f9
  go_wp2_with fail
  refine (close_nil t w9).mono ?_
  rintro e w10 ⟨rfl, f10⟩
  have F10 := Lib.hid (F9.out.trans f10)
  clear f10
  go_wp2_with fail
  refine (tell_nil w10).mono ?_
  rintro e w11 ⟨rfl, f11⟩
  have F11 := Lib.hid (F10.out.trans f11)
  clear f11
  go_wp2_with fail
  refine (probe_nil w11).mono ?_
  rintro e w12 ⟨rfl, f12⟩
  have F12 := Lib.hid (F11.out.trans f12)
  clear f12
  go_wp2_with fail
  refine (out_nil w12).mono ?_
  rintro e w13 ⟨rfl, f13⟩
  have F13 := Lib.hid (F12.out.trans f13)
  clear f13
  go_wp2_with fail
  refine (left_nil w13).mono ?_
  rintro e w14 ⟨rfl, f14⟩
  have F14 := Lib.hid (F13.out.trans f14)
  clear f14
  go_wp2_with fail
  refine (state_nil w14).mono ?_
  rintro e w15 ⟨rfl, f15⟩
  have F15 := Lib.hid (F14.out.trans f15)
  clear f15
  go_wp2_with fail
  refine (fsm_nil w15).mono ?_
  rintro e w16 ⟨rfl, f16⟩
  have F16 := Lib.hid (F15.out.trans f16)
  clear f16
  go_wp2_with fail
  go_ret
  exact ⟨rfl, F16.out⟩
end Go.Proofs.Ytjldgialhgfhmaa
namespace Go.Proofs.Ytjldgialhgfhmaa
set_option linter.unusedVariables false
set_option linter.unusedSimpArgs false
open Go.ChangeShapes Go.WideShapes Go.ChangeAt Go.RowKit Go.Maps
set_option linter.unusedVariables false
set_option linter.unusedSimpArgs false
section
variable {F : Nat → Prop} {w : World} {f : Nat} {S : Fl}
set_option maxHeartbeats 1000000 in
theorem hear_over (s : Sg) (t : Int) (w : World) (h : FlS F w f S) (h10 : 10 ≤ S.st) : Calls Try.prog 55 #[.pointer (some ⟨f, 0, none⟩), .agg s.cells.toArray, .int .i64 t] w fun x w' => x = .returned heard0 ∧ Fine w w' := by
  obtain ⟨src, dst, sp, dp, seq, ack, syn, acks, fin, rst, win, oA, ol, oc, dA, dl, dc, xs⟩ := s
  show Calls Try.prog 55 #[.pointer (some ⟨f, 0, none⟩), .agg #[.int .i64 src, .int .i64 dst, .int .i64 sp, .int .i64 dp, .int .u32 seq, .int .u32 ack, .bool syn, .bool acks, .bool fin, .bool rst, .int .i64 win, .slice oA ol oc, .slice dA dl dc], .int .i64 t] w _
  obtain ⟨w1, hw1⟩ : ∃ z, w.alloc (.cells #[.int .i64 src, .int .i64 dst, .int .i64 sp, .int .i64 dp, .int .u32 seq, .int .u32 ack, .bool syn, .bool acks, .bool fin, .bool rst, .int .i64 win, .slice oA ol oc, .slice dA dl dc] 89) = z := ⟨_, rfl⟩
  have f1 : Fine w w1 := by rw [← hw1]; exact (Fine.refl w).alloc _
  obtain ⟨x6, hx6⟩ : ∃ x, w1.heap.size = x := ⟨_, rfl⟩
  have b6 := Blk.newAt (w := w1) (t := 97) (cs := #[.bool false, .bool false, .bool false, .bool false, .bool false, .slice none 0 0]) hx6.symm
  have f2 := f1.alloc (.cells #[.bool false, .bool false, .bool false, .bool false, .bool false, .slice none 0 0] 97)
  have b7 := Blk.newAt (w := w1.alloc (.cells #[.bool false, .bool false, .bool false, .bool false, .bool false, .slice none 0 0] 97)) (t := 97) (cs := #[.bool false, .bool false, .bool false, .bool false, .bool false, .slice none 0 0]) (g := x6 + 1) (by have h8 : (w1.alloc (.cells #[.bool false, .bool false, .bool false, .bool false, .bool false, .slice none 0 0] 97)).heap.size = w1.heap.size + 1 := (by simp); omega)
  have f3 := f2.alloc (.cells #[.bool false, .bool false, .bool false, .bool false, .bool false, .slice none 0 0] 97)
  have B6 := Lib.hid (b6.fine ((Fine.refl _).alloc (.cells #[.bool false, .bool false, .bool false, .bool false, .bool false, .slice none 0 0] 97))); have B7 := Lib.hid b7; have F3 := Lib.hid f3
  have HX6 : Hid (w.heap.size ≤ x6) := Lib.hid (by have := f1.size; omega)
  have HOV := Lib.hid (fun w' (ff : Fine w w') => by have := over_same (h.fine ff); rw [decide_eq_true h10] at this; exact this : ∀ w', Fine w w' → Calls Try.prog 73 #[.pointer (some ⟨f, 0, none⟩)] w' fun e w'' => e = .returned (.bool true) ∧ Fine w' w'')
  clear b6 b7 f1 f2 f3 h h10
  go_enter Try.func55, Try.ntmps55
  go_wp2_with fail
  generalize (w1.alloc (.cells #[.bool false, .bool false, .bool false, .bool false, .bool false, .slice none 0 0] 97)).alloc (.cells #[.bool false, .bool false, .bool false, .bool false, .bool false, .slice none 0 0] 97) = w3 at B6 B7 F3 ⊢
  refine (HOV.out w3 F3.out).mono ?_
  rintro x w4 ⟨rfl, f4⟩
  have B64 := Lib.hid (B6.out.fine f4); have B74 := Lib.hid (B7.out.fine f4); have F4 := Lib.hid (F3.out.trans f4)
  clear f4 hw1 hx6
  have d0 : w4.cell? ⟨x6 + 1, 0, none⟩ = some (.bool false) := B74.out.cell 0
  have d1 : w4.cell? ⟨x6 + 1, 1, none⟩ = some (.bool false) := B74.out.cell 1
  have d2 : w4.cell? ⟨x6 + 1, 2, none⟩ = some (.bool false) := B74.out.cell 2
  have d3 : w4.cell? ⟨x6 + 1, 3, none⟩ = some (.bool false) := B74.out.cell 3
  have d4 : w4.cell? ⟨x6 + 1, 4, none⟩ = some (.bool false) := B74.out.cell 4
  have d5 : w4.cell? ⟨x6 + 1, 5, none⟩ = some (.slice none 0 0) := B74.out.cell 5
  have e0 : w4.cell? ⟨x6, 0, none⟩ = some (.bool false) := B64.out.cell 0
  have e1 : w4.cell? ⟨x6, 1, none⟩ = some (.bool false) := B64.out.cell 1
  have e2 : w4.cell? ⟨x6, 2, none⟩ = some (.bool false) := B64.out.cell 2
  have e3 : w4.cell? ⟨x6, 3, none⟩ = some (.bool false) := B64.out.cell 3
  have e4 : w4.cell? ⟨x6, 4, none⟩ = some (.bool false) := B64.out.cell 4
  have e5 : w4.cell? ⟨x6, 5, none⟩ = some (.slice none 0 0) := B64.out.cell 5
  have z0 := B64.out.frozen 0
  have z1 := B64.out.frozen 1
  have z2 := B64.out.frozen 2
  have z3 := B64.out.frozen 3
  have z4 := B64.out.frozen 4
  have z5 := B64.out.frozen 5
  have BF := Lib.hid ((((((B64.out.set_ 0 (.bool false)).set_ 1 (.bool false)).set_ 2 (.bool false)).set_ 3 (.bool false)).set_ 4 (.bool false)).set_ 5 (.slice none 0 0))
  have FF := Lib.hid ((((((F4.out.setCell (p := ⟨x6, 0, none⟩) HX6.out (.bool false)).setCell (p := ⟨x6, 1, none⟩) HX6.out (.bool false)).setCell (p := ⟨x6, 2, none⟩) HX6.out (.bool false)).setCell (p := ⟨x6, 3, none⟩) HX6.out (.bool false)).setCell (p := ⟨x6, 4, none⟩) HX6.out (.bool false)).setCell (p := ⟨x6, 5, none⟩) HX6.out (.slice none 0 0))
  go_wp2_with fail
  exact bodyPost_ret (results_cell_row rfl _ _ x6 97 _ (0, 0) _ rfl BF.out Try.underlying97 rfl size97) rfl ⟨rfl, FF.out⟩
set_option maxHeartbeats 1000000 in
theorem expire_no (t : Int) (w : World) (h : FlS F w f S) (hh : S.has = false) : Calls Try.prog 56 #[.pointer (some ⟨f, 0, none⟩), .int .i64 t] w fun x w' => x = .returned heard0 ∧ Fine w w' := by
  obtain ⟨x6, hx6⟩ : ∃ x, w.heap.size = x := ⟨_, rfl⟩
  have b6 := Blk.newAt (w := w) (t := 97) (cs := #[.bool false, .bool false, .bool false, .bool false, .bool false, .slice none 0 0]) hx6.symm
  have f2 := (Fine.refl w).alloc (.cells #[.bool false, .bool false, .bool false, .bool false, .bool false, .slice none 0 0] 97)
  have B64 := Lib.hid b6; have F4 := Lib.hid f2
  have HX6 : Hid (w.heap.size ≤ x6) := Lib.hid (by omega)
  obtain ⟨q, A, c, ros, Q, D, hX⟩ := h.fine f2
  have c9 : (w.alloc (.cells #[.bool false, .bool false, .bool false, .bool false, .bool false, .slice none 0 0] 97)).cell? ⟨f, 9, none⟩ = some (.bool false) := by have := hX.box.cell 9; rw [hh] at this; exact this
  clear b6 f2 hX h hh
  go_enter Try.func56, Try.ntmps56
  go_upto_region 1 with fail
  generalize w.alloc (.cells #[.bool false, .bool false, .bool false, .bool false, .bool false, .slice none 0 0] 97) = w4 at B64 F4 c9 ⊢
  clear hx6
  have e0 : w4.cell? ⟨x6, 0, none⟩ = some (.bool false) := B64.out.cell 0
  have e1 : w4.cell? ⟨x6, 1, none⟩ = some (.bool false) := B64.out.cell 1
  have e2 : w4.cell? ⟨x6, 2, none⟩ = some (.bool false) := B64.out.cell 2
  have e3 : w4.cell? ⟨x6, 3, none⟩ = some (.bool false) := B64.out.cell 3
  have e4 : w4.cell? ⟨x6, 4, none⟩ = some (.bool false) := B64.out.cell 4
  have e5 : w4.cell? ⟨x6, 5, none⟩ = some (.slice none 0 0) := B64.out.cell 5
  have z0 := B64.out.frozen 0
  have z1 := B64.out.frozen 1
  have z2 := B64.out.frozen 2
  have z3 := B64.out.frozen 3
  have z4 := B64.out.frozen 4
  have z5 := B64.out.frozen 5
  have BF := Lib.hid ((((((B64.out.set_ 0 (.bool false)).set_ 1 (.bool false)).set_ 2 (.bool false)).set_ 3 (.bool false)).set_ 4 (.bool false)).set_ 5 (.slice none 0 0))
  have FF := Lib.hid ((((((F4.out.setCell (p := ⟨x6, 0, none⟩) HX6.out (.bool false)).setCell (p := ⟨x6, 1, none⟩) HX6.out (.bool false)).setCell (p := ⟨x6, 2, none⟩) HX6.out (.bool false)).setCell (p := ⟨x6, 3, none⟩) HX6.out (.bool false)).setCell (p := ⟨x6, 4, none⟩) HX6.out (.bool false)).setCell (p := ⟨x6, 5, none⟩) HX6.out (.slice none 0 0))
  go_wp2_with fail
  exact bodyPost_ret (results_cell_row rfl _ _ x6 97 _ (0, 0) _ rfl BF.out Try.underlying97 rfl size97) rfl ⟨rfl, FF.out⟩
theorem kill_over (w : World) (h : FlS F w f S) (h10 : 10 ≤ S.st) : Calls Try.prog 52 #[.pointer (some ⟨f, 0, none⟩)] w fun e w' => e = .returned (.tuple #[]) ∧ Fine w w' := by
  have HOV := Lib.hid (over_same h)
  rw [decide_eq_true h10] at HOV
  clear h h10
  go_enter Try.func52, Try.ntmps52
  go_wp2_with fail
  refine HOV.out.mono ?_
  rintro x w1 ⟨rfl, f1⟩
  have F1 := Lib.hid f1
  clear f1
  go_wp2_with fail
  exact bodyPost_ret (results_none rfl _ _ _) rfl ⟨rfl, F1.out⟩
theorem send_over (d : Value) (n : Int) (b : Bool) (t : Int) (w : World) (h : FlS F w f S) (h10 : 10 ≤ S.st) : Calls Try.prog 57 #[.pointer (some ⟨f, 0, none⟩), d, .int .i64 n, .bool b, .int .i64 t] w fun e w' => e = .returned (.int .i64 9) ∧ Fine w w' := by
  obtain ⟨q, A, c, ros, Q, D, hX⟩ := h
  obtain ⟨st, hst⟩ : ∃ z, S.st = z := ⟨_, rfl⟩
  have c5 : w.cell? ⟨f, 5, none⟩ = some (.int .i64 st) := by have := hX.box.cell 5; rw [hst] at this; exact this
  have g1 : (st != 3) = true := by simp; omega
  have g2 : (st != 6) = true := by simp; omega
  clear hX hst h10
  go_enter Try.func57, Try.ntmps57
  go_wp2_with fail
  go_ret
  exact ⟨rfl, Fine.refl w⟩
theorem close_over (t : Int) (w : World) (h : FlS F w f S) (h10 : 10 ≤ S.st) : Calls Try.prog 58 #[.pointer (some ⟨f, 0, none⟩), .int .i64 t] w fun e w' => e = .returned (.int .i64 9) ∧ Fine w w' := by
  obtain ⟨q, A, c, ros, Q, D, hX⟩ := h
  obtain ⟨st, hst⟩ : ∃ z, S.st = z := ⟨_, rfl⟩
  have c5 : w.cell? ⟨f, 5, none⟩ = some (.int .i64 st) := by have := hX.box.cell 5; rw [hst] at this; exact this
  have g1 : (st == 3) = false := by simp; omega
  have g2 : (st == 6) = false := by simp; omega
  clear hX hst h10
  go_enter Try.func58, Try.ntmps58
  go_wp2_with fail
  go_ret
  exact ⟨rfl, Fine.refl w⟩
theorem tell_over (w : World) (h : FlS F w f S) (h10 : 10 ≤ S.st) : Calls Try.prog 59 #[.pointer (some ⟨f, 0, none⟩)] w fun e w' => e = .returned (.int .i64 9) ∧ Fine w w' := by
  have HOV := Lib.hid (over_same h)
  rw [decide_eq_true h10] at HOV
  obtain ⟨q, A, c, ros, Q, D, hX⟩ := h
  obtain ⟨st, hst⟩ : ∃ z, S.st = z := ⟨_, rfl⟩
  have c5 : w.cell? ⟨f, 5, none⟩ = some (.int .i64 st) := by have := hX.box.cell 5; rw [hst] at this; exact this
  have g1 : ¬ st < 3 := by omega
  have g2 : decide (st < 3) = false := decide_eq_false g1
  clear hX hst h10
  go_enter Try.func59, Try.ntmps59
  go_wp2_with fail
  refine HOV.out.mono ?_
  rintro x w1 ⟨rfl, f1⟩
  have F1 := Lib.hid f1
  clear f1
  go_wp2_with fail
  go_ret
  exact ⟨rfl, F1.out⟩
theorem probe_over (w : World) (h : FlS F w f S) (h10 : 10 ≤ S.st) : Calls Try.prog 60 #[.pointer (some ⟨f, 0, none⟩)] w fun e w' => e = .returned (.int .i64 9) ∧ Fine w w' := by
  have HT := Lib.hid (tell_over w h h10)
  clear h h10
  go_enter Try.func60, Try.ntmps60
  go_wp2_with fail
  refine HT.out.mono ?_
  rintro x w1 ⟨rfl, f1⟩
  have F1 := Lib.hid f1
  clear f1
  go_wp2_with fail
  go_ret
  exact ⟨rfl, F1.out⟩
end
set_option maxHeartbeats 2000000 in
set_option maxRecDepth 20000 in
theorem answer_any (iss tick : Int) (hi : 0 ≤ iss ∧ iss < 4294967296) (ht : 0 ≤ tick ∧ tick ≤ 1099511627776) (s : Sg) (w : World) : Calls Try.prog 51 #[.int .u32 iss, .agg s.cells.toArray, .int .i64 tick] w (FlNew ((flow0 iss 2 (IntKind.u32.wrap (s.seq + 1))).send synP tick) w) := by
  obtain ⟨src, dst, sp, dp, seq, ack, syn, acks, fin, rst, win, oA, ol, oc, dA, dl, dc, xs⟩ := s
  show Calls Try.prog 51 #[.int .u32 iss, .agg #[.int .i64 src, .int .i64 dst, .int .i64 sp, .int .i64 dp, .int .u32 seq, .int .u32 ack, .bool syn, .bool acks, .bool fin, .bool rst, .int .i64 win, .slice oA ol oc, .slice dA dl dc], .int .i64 tick] w (FlNew ((flow0 iss 2 (IntKind.u32.wrap (seq + 1))).send synP tick) w)
  obtain ⟨rv, hrv⟩ : ∃ z, IntKind.u32.wrap (seq + 1) = z := ⟨_, rfl⟩
  rw [hrv]
  obtain ⟨x4, hx4⟩ : ∃ x, w.heap.size = x := ⟨_, rfl⟩
  have b4 := Blk.newAt (w := w) (t := 89) (cs := #[.int .i64 src, .int .i64 dst, .int .i64 sp, .int .i64 dp, .int .u32 seq, .int .u32 ack, .bool syn, .bool acks, .bool fin, .bool rst, .int .i64 win, .slice oA ol oc, .slice dA dl dc]) hx4.symm
  have f4 := (Fine.refl w).alloc (.cells #[.int .i64 src, .int .i64 dst, .int .i64 sp, .int .i64 dp, .int .u32 seq, .int .u32 ack, .bool syn, .bool acks, .bool fin, .bool rst, .int .i64 win, .slice oA ol oc, .slice dA dl dc] 89)
  go_enter Try.func51, Try.ntmps51
  go_upto_region 1 with fail
  generalize w.alloc (.cells #[.int .i64 src, .int .i64 dst, .int .i64 sp, .int .i64 dp, .int .u32 seq, .int .u32 ack, .bool syn, .bool acks, .bool fin, .bool rst, .int .i64 win, .slice oA ol oc, .slice dA dl dc] 89) = w1 at b4 f4 ⊢
  have B1 := Lib.hid b4; have F1 := Lib.hid f4
  have c4 : w1.cell? ⟨x4, 4, none⟩ = some (.int .u32 seq) := b4.cell 4
  clear b4 f4 hx4
  have HNEW := Lib.hid (new_any iss w1.drew)
  have HOK := Lib.hid (flow0_ok (st := 2) (rcv := rv) hi)
  go_cut [7] (fun s7 wx => ∃ fp : Nat, s7 = .pointer (some ⟨fp, 0, none⟩) ∧ Hid (∃ F0, FlS F0 wx fp (flow0 iss 2 rv) ∧ (∀ b, F0 b → w1.heap.size ≤ b) ∧ Fine w1 wx))
  case first =>
    go_region_law (first | (go_simp; go_at_call 27; refine HNEW.out.mono ?_; rintro r w3 ⟨rfl, hq3, f3⟩; have s4 : w3.cell? ⟨x4, 4, none⟩ = some (.int .u32 seq) := (B1.out.fine ((Fine.refl w1).drew.trans f3)).cell 4))
    all_goals
      have HS := flow0_at (st := 2) (rcv := rv) hq3 rfl rfl
      have hs3 := f3.size
      have FS := ((Fine.refl w1).drew.trans f3).alloc (.cells #[.pointer (some ⟨w1.drew.heap.size, 0, none⟩), .bool false, .int .i64 0, .int .i64 0, .int .i64 0, .int .i64 2, .int .u32 rv, .int .i64 0, .int .i64 0, .bool false, .int .i64 0, .bool false, .slice none 0 0] 111)
      have RR : Hid (∃ F0, FlS F0 (w3.alloc (.cells #[.pointer (some ⟨w1.drew.heap.size, 0, none⟩), .bool false, .int .i64 0, .int .i64 0, .int .i64 0, .int .i64 2, .int .u32 rv, .int .i64 0, .int .i64 0, .bool false, .int .i64 0, .bool false, .slice none 0 0] 111)) w3.heap.size (flow0 iss 2 rv) ∧ (∀ b, F0 b → w1.heap.size ≤ b) ∧ Fine w1 (w3.alloc (.cells #[.pointer (some ⟨w1.drew.heap.size, 0, none⟩), .bool false, .int .i64 0, .int .i64 0, .int .i64 0, .int .i64 2, .int .u32 rv, .int .i64 0, .int .i64 0, .bool false, .int .i64 0, .bool false, .slice none 0 0] 111))) := Lib.hid ⟨_, HS, fun b hb => by
        have e0 : w1.drew.heap.size = w1.heap.size := rfl
        rcases hb with hb | hb
        · have hb : b = w1.drew.heap.size := hb
          omega
        · omega, FS⟩
      clear HS FS hs3 hq3 f3
      go_wp2_with fail
      go_meet
      exact ⟨_, rfl, RR⟩
  case rest =>
    obtain ⟨fp, rfl, HH⟩ := hcut
    obtain ⟨w2, hw2⟩ : ∃ z, z = wc := ⟨_, rfl⟩
    subst hw2
    obtain ⟨F0, j1, j2, j3⟩ := HH.out
    have HS := Lib.hid j1; have HB := Lib.hid j2; have F2 := Lib.hid (F1.out.trans j3)
    have hs1 : w.heap.size ≤ w1.heap.size := F1.out.size
    have HSEND := Lib.hid (fsend_any (p := synP) tick ht HOK.out (by simp [synP]) (synIs w2) (fun b hb => hb.elim) j1)
    clear j1 j2 j3 HH c4 HNEW
    go_wp2_with fail
    refine HSEND.out.mono ?_
    rintro r w3 ⟨rfl, F3, j1, j2, j3⟩
    have R : Hid (FlNew ((flow0 iss 2 rv).send synP tick) w (.returned (.pointer (some ⟨fp, 0, none⟩))) w3) := Lib.hid ⟨fp, F3, rfl, j1, fun b hb => (j3 b hb).elim (fun h => Nat.le_trans hs1 (HB.out b h)) (fun h => Nat.le_trans F2.out.size h), F2.out.kept j2 (fun x hx hh => by have := HB.out x hh; omega)⟩
    clear j1 j2 j3
    go_wp2_with fail
    go_ret
    exact R.out
end Go.Proofs.Ytjldgialhgfhmaa
