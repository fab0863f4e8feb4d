/- The laws of outq: a queue that is not there. -/
import Derived.Test.YtjldgialhgfhmaaOutq7
namespace Go.Proofs.Ytjldgialhgfhmaa
open Go.ChangeShapes Go.WideShapes Go.ChangeAt Go.RowKit
set_option linter.unusedVariables false

theorem PieceC.of {w : World} {m : Nat} {t : TypeId} {r : Raw} (h : Blk w m t r.cells.toArray) :
    w.cell? ⟨m, 0, none⟩ = some (.int .u32 r.seq) ∧ w.cell? ⟨m, 1, none⟩ = some (.bool r.syn) ∧ w.cell? ⟨m, 2, none⟩ = some (.bool r.fin) ∧ w.cell? ⟨m, 3, none⟩ = some (.slice r.A r.len r.cap) ∧ w.cell? ⟨m, 4, none⟩ = some (.int .i64 r.dsn) ∧ w.cell? ⟨m, 5, none⟩ = some (.bool r.last) :=
  ⟨h.cell 0, h.cell 1, h.cell 2, h.cell 3, h.cell 4, h.cell 5⟩
set_option maxRecDepth 20000 in
theorem outqNil_any (r : Raw) (p : Pc) (n : Int) (w : World) (hr : Is w (fun _ => True) r p) :
    Calls Try.prog 11 #[.agg r.cells.toArray, .int .u32 n] w fun x w' => x = .returned (.bool true) ∧ Fine w w' := by
  have HR := Lib.hid hr; clear hr
  obtain ⟨seq, syn, fin, A, len, c, dsn, last⟩ := r
  have hb : Blk (w.alloc (.cells #[.int .u32 seq, .bool syn, .bool fin, .slice A len c, .int .i64 dsn, .bool last] 46)) w.heap.size 46 #[.int .u32 seq, .bool syn, .bool fin, .slice A len c, .int .i64 dsn, .bool last] := Blk.new w 46 _
  have HB0 := Lib.hid hb; clear hb
  have hw0 := Lib.hid (fun w' => outqWakes_any w')
  go_enter Try.func11, Try.ntmps11
  go_wp2_with fail
  refine (hw0.out _).mono ?_; rintro x w1 ⟨rfl, f0⟩
  have f1 : Fine w w1 := ((Fine.refl w).alloc _).trans f0
  have HB1 := Lib.hid (HB0.out.fine f0)
  clear HB0 f0
  go_wp2_with fail
  refine (ack_nil n w1).mono ?_; rintro x w2 ⟨rfl, f2⟩
  have HB2 := Lib.hid (HB1.out.fine f2)
  have f2' := f1.trans f2
  clear HB1 f1 f2
  have HS := Lib.hid (fun w' (hf : Fine w2 w') => same_any ⟨seq, syn, fin, A, len, c, dsn, last⟩ ⟨seq, syn, fin, A, len, c, dsn, last⟩ p _ _ w' (HR.out.fine (f2'.trans hf)) (HR.out.fine (f2'.trans hf)))
  have HP := Lib.hid (fun w' => push_nil ⟨seq, syn, fin, A, len, c, dsn, last⟩ w')
  clear HR
  go_wp2_with fail
  go_region_held3 (fun w' => w'.cell? ⟨w.heap.size, 0, none⟩ = some (.int .u32 seq) ∧ w'.cell? ⟨w.heap.size, 1, none⟩ = some (.bool syn) ∧ w'.cell? ⟨w.heap.size, 2, none⟩ = some (.bool fin) ∧ w'.cell? ⟨w.heap.size, 3, none⟩ = some (.slice A len c) ∧ w'.cell? ⟨w.heap.size, 4, none⟩ = some (.int .i64 dsn) ∧ w'.cell? ⟨w.heap.size, 5, none⟩ = some (.bool last)) (first | exact PieceC.of (r := ⟨seq, syn, fin, A, len, c, dsn, last⟩) (HB2.out.fine (Fine.refl w2).drew) | exact PieceC.of (r := ⟨seq, syn, fin, A, len, c, dsn, last⟩) (HB2.out.fine fA) | exact PieceC.of (r := ⟨seq, syn, fin, A, len, c, dsn, last⟩) (HB2.out.fine fB) | exact PieceC.of (r := ⟨seq, syn, fin, A, len, c, dsn, last⟩) (HB2.out.fine fC) | exact PieceC.of (r := ⟨seq, syn, fin, A, len, c, dsn, last⟩) (HB2.out.fine fD) | exact PieceC.of (r := ⟨seq, syn, fin, A, len, c, dsn, last⟩) (HB2.out.fine fE) | exact PieceC.of (r := ⟨seq, syn, fin, A, len, c, dsn, last⟩) (HB2.out.fine fG)) (first | (go_at_call 28; refine (HP.out _).mono ?_; rintro x wA ⟨rfl, fA0⟩; have fA : Fine w2 wA := (Fine.refl w2).drew.trans fA0; clear fA0) | (go_at_call 37; refine (HS.out _ fA).mono ?_; rintro x wB ⟨rfl, fB0⟩; have fB : Fine w2 wB := fA.trans fB0; clear fB0) | (go_at_call 40; refine (all_nil _).mono ?_; rintro x wC ⟨rfl, fC0⟩; have fC : Fine w2 wC := fB.trans fC0; clear fC0) | (go_at_call 32; refine (begin_nil _).mono ?_; rintro x wD ⟨rfl, fD0⟩; have fD : Fine w2 wD := fC.trans fD0; clear fD0) | (go_at_call 33; refine (end_nil _).mono ?_; rintro x wE ⟨rfl, fE0⟩; have fE : Fine w2 wE := fD.trans fE0; clear fE0) | (go_at_call 34; refine (len_nil _).mono ?_; rintro x wG ⟨rfl, fG0⟩; have fG : Fine w2 wG := fE.trans fG0; clear fG0))
  all_goals
    go_wp2_with fail
    go_ret
    exact ⟨rfl, f2'.trans fG⟩
theorem lawOutqNil (w : World) (z : Raw × Pc) (hz : Is w (fun b => b < w.heap.size) z.1 z.2) (n : Int) (hn : (Lit.int .u32 n).wf = true) :
    Calls Try.prog 11 #[.agg z.1.cells.toArray, .int .u32 n] w fun x w' => x = .returned (.bool true) ∧ Fine w w' :=
  outqNil_any z.1 z.2 n w (hz.less fun _ _ => trivial)
end Go.Proofs.Ytjldgialhgfhmaa
