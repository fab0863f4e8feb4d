/- Contracts: a set that is not there; wakes; the law SpanNil. -/
import Derived.Test.YtnigfdldfmiaiaaSpan12
import Derived.OpenShut
namespace Go.Proofs.Ytnigfdldfmiaiaa
open Go.ChangeShapes Go.WideShapes Go.ChangeAt Go.RowKit
set_option linter.unusedVariables false
set_option linter.unusedSimpArgs false
theorem szA (w : World) (o : Obj) : (w.alloc o).heap.size = w.heap.size + 1 := by
  show (w.heap.push o).size = _
  rw [Array.size_push]
theorem drop_nil (b : Int) (w : World) : Calls Try.prog 22 #[.pointer none, .int .i64 b] w fun r w' => r = .returned (.int .i64 0) ∧ Fine w w' := by
  go_enter Try.func22, Try.ntmps22
  go_wp2_with fail
  go_ret
  exact ⟨rfl, (Fine.refl w).alloc _⟩
theorem many_nil (w : World) : Calls Try.prog 29 #[.pointer none] w fun r w' => r = .returned (.int .i64 0) ∧ Fine w w' := by
  go_enter Try.func29, Try.ntmps29
  go_wp2_with fail
  refine (runs_nil w).mono ?_
  rintro r w1 ⟨rfl, f1⟩
  have F1 := Lib.hid f1
  clear f1
  go_wp2_with fail
  go_loopw [3, 9] (fun s3 s9 wr => s3 = .int .i64 0 ∧ s9 = .int .i64 0 ∧ Hid (Fine w wr)) (fun _ _ _ => 0)
  case atStart => exact ⟨rfl, rfl, F1⟩
  case round =>
    obtain ⟨rfl, rfl, HI⟩ := hrel
    go_wp2_with fail
    go_ret
    exact ⟨rfl, HI.out⟩
theorem run_nil (b : Int) (w : World) : Calls Try.prog 78 #[.pointer none, .int .i64 b] w fun r w' => r = .returned (.tuple #[.agg #[.int .i64 0, .int .i64 0], .bool false]) ∧ Fine w w' := by
  obtain ⟨xs, hxs⟩ : ∃ x, w.heap.size = x := ⟨_, rfl⟩
  have f3 := (((Fine.refl w).alloc (.cells #[.pointer none] 24)).alloc (.cells #[.int .i64 b] 3)).alloc (.cells #[.int .i64 0, .int .i64 0] 32)
  have hb : Blk (((w.alloc (.cells #[.pointer none] 24)).alloc (.cells #[.int .i64 b] 3)).alloc (.cells #[.int .i64 0, .int .i64 0] 32)) (xs + 1 + 1) 32 #[.int .i64 0, .int .i64 0] := Blk.newAt (by rw [szA, szA, hxs])
  have c0 := hb.cell 0
  have c1 := hb.cell 1
  have F3 := Lib.hid f3
  clear hb f3
  go_enter Try.func78, Try.ntmps78
  go_wp2_with fail
  generalize ((w.alloc (.cells #[.pointer none] 24)).alloc (.cells #[.int .i64 b] 3)).alloc (.cells #[.int .i64 0, .int .i64 0] 32) = w3 at c0 c1 F3 ⊢
  have c0 : w3.cell? ⟨xs + 1 + 1, 0, none⟩ = some (.int .i64 0) := c0
  have c1 : w3.cell? ⟨xs + 1 + 1, 1, none⟩ = some (.int .i64 0) := c1
  exact bodyPost_ret (v := .tuple #[.agg #[.int .i64 0, .int .i64 0], .bool false]) (by simp [results, Try.results78, go_sem, c0, c1]) rfl ⟨rfl, F3.out⟩
theorem has_nil (b : Int) (w : World) : Calls Try.prog 26 #[.pointer none, .int .i64 b] w fun r w' => r = .returned (.bool false) ∧ Fine w w' := by
  go_enter Try.func26, Try.ntmps26
  go_wp2_with fail
  refine (run_nil b w).mono ?_
  rintro r w1 ⟨rfl, f1⟩
  have F1 := Lib.hid f1
  clear f1
  go_wp2_with fail
  go_ret
  exact ⟨rfl, F1.out.alloc _⟩
theorem next_nil (b : Int) (w : World) : Calls Try.prog 27 #[.pointer none, .int .i64 b] w fun r w' => r = .returned (.int .i64 b) ∧ Fine w w' := by
  go_enter Try.func27, Try.ntmps27
  go_wp2_with fail
  go_ret
  exact ⟨rfl, Fine.refl w⟩
theorem uniq05 {l : List Rn} (h : Tidy l) (hm : ∀ m, inB l m = [((3 : Int), (2 : Int)), (0, 3)].any (fun x => hasR (heldR x.1 x.2) m)) : l = [(0, 5)] := by
  refine Tidy.uniq h ⟨List.pairwise_singleton _ _, fun r hr => by simp at hr; subst hr; unfold rto; simp⟩ (fun n => ?_)
  rw [hm n]
  have e1 : heldR 3 2 = (3, 2) := by unfold heldR; simp <;> decide
  have e2 : heldR 0 3 = (0, 3) := by unfold heldR; simp <;> decide
  simp only [List.any_cons, List.any_nil, e1, e2, inB_cons, inB_nil, Bool.or_false]
  unfold hasR rto
  rw [Bool.eq_iff_iff]
  simp
  omega
set_option maxHeartbeats 2000000 in
set_option maxRecDepth 20000 in
theorem wakes_any (w : World) : Calls Try.prog 18 #[] w fun r w' => r = .returned (.bool true) ∧ Fine w w' := by
  obtain ⟨xs, hxs⟩ : ∃ x, w.heap.size = x := ⟨_, rfl⟩
  have hw1 : Fine w (w.alloc (.cells #[.int .i64 3, .int .i64 2, .int .i64 0, .int .i64 3] 32)) := (Fine.refl w).alloc _
  have hbx := Blk.newAt (w := w) (t := 32) (cs := #[.int .i64 3, .int .i64 2, .int .i64 0, .int .i64 3]) hxs.symm
  have hrs : RS layR (w.alloc (.cells #[.int .i64 3, .int .i64 2, .int .i64 0, .int .i64 3] 32)) (some ⟨xs, 0, none⟩) 2 [((3 : Int), (2 : Int)), (0, 3)] := RS.ofBlk hbx rfl rfl (by unfold maxLen; omega)
  have HR := Lib.hid hrs; have HF := Lib.hid hw1
  clear hrs hw1 hbx
  go_enter Try.func18, Try.ntmps18
  go_wp2_with fail
  generalize w.alloc (.cells #[.int .i64 3, .int .i64 2, .int .i64 0, .int .i64 3] 32) = w1 at HR HF ⊢
  refine (new_any (some ⟨xs, 0, none⟩) 2 2 [((3 : Int), (2 : Int)), (0, 3)] rfl (by omega) (by intro r hr; simp at hr; rcases hr with h | h <;> (subst h; simp)) w1 HR.out).mono ?_
  rintro r w2 ⟨g, v, l, rfl, hg, hT, hm, hS, f2⟩
  have hl := uniq05 hT hm
  subst hl
  have H2 := Lib.hid hS; have F2 := Lib.hid f2
  clear hS f2 hT hm hg
  go_wp2_with fail
  refine (runs_any g [(0, 5)] (by simp) w2 H2.out.set).mono ?_
  rintro r w3 ⟨v3, rfl, o3, f3⟩
  obtain ⟨A3, c3, rfl, hrs3, _⟩ := o3.form
  obtain ⟨bb, o, rfl, hb, hc⟩ := hrs3.at_ (k := 0) (x := ((0 : Int), (5 : Int))) rfl
  have d0 := hc 0 (.int .i64 0) rfl
  have d1 := hc 1 (.int .i64 5) rfl
  simp only [Nat.zero_mul, Nat.add_zero, List.length_singleton] at d0 d1 ⊢
  have F3 := Lib.hid f3
  clear hc hb hrs3 o3 f3
  go_wp2_with fail
  go_ret
  exact ⟨rfl, ((HF.out.trans F2.out).trans F3.out)⟩
set_option maxHeartbeats 2000000 in
set_option maxRecDepth 20000 in
theorem spanNil_any (f b : Int) (hf : -9223372036854775808 ≤ f ∧ f ≤ 9223372036854775807) (hb : -9223372036854775808 ≤ b ∧ b ≤ 9223372036854775807) (w : World) : Calls Try.prog 7 #[.int .i64 f, .int .i64 b] w fun r w' => r = .returned (.bool true) ∧ Fine w w' := by
  go_enter Try.func7, Try.ntmps7
  go_wp2_with fail
  refine (wakes_any w).mono ?_
  rintro r w1 ⟨rfl, f1⟩
  have F1 := Lib.hid f1
  clear f1
  go_wp2_with fail
  refine (add_nil f b hf hb w1).mono ?_
  rintro r w2 ⟨rfl, f2⟩
  have F2 := Lib.hid (F1.out.trans f2)
  clear f2
  go_wp2_with fail
  refine (drop_nil f w2).mono ?_
  rintro r w3 ⟨rfl, f3⟩
  have F3 := Lib.hid (F2.out.trans f3)
  clear f3
  go_wp2_with fail
  refine (has_nil f w3).mono ?_
  rintro r w4 ⟨rfl, f4⟩
  have F4 := Lib.hid (F3.out.trans f4)
  clear f4
  go_wp2_with fail
  refine (next_nil f w4).mono ?_
  rintro r w5 ⟨rfl, f5⟩
  have F5 := Lib.hid (F4.out.trans f5)
  clear f5
  go_wp2_with fail
  refine (runs_nil w5).mono ?_
  rintro r w6 ⟨rfl, f6⟩
  have F6 := Lib.hid (F5.out.trans f6)
  clear f6
  go_wp2_with fail
  refine (many_nil w6).mono ?_
  rintro r w7 ⟨rfl, f7⟩
  have F7 := Lib.hid (F6.out.trans f7)
  clear f7
  go_wp2_with fail
  go_ret
  exact ⟨rfl, F7.out⟩
theorem lawSpanNil (w : World) (a : Int) (wa : (Lit.int .i64 a).wf = true) (b : Int) (wb : (Lit.int .i64 b).wf = true) : Calls Try.prog 7 #[.int .i64 a, .int .i64 b] w fun e w' => e = .returned (.bool true) ∧ Below w.heap.size w w' :=
  spanNil_any a b (bounds_i64 wa) (bounds_i64 wb) w
end Go.Proofs.Ytnigfdldfmiaiaa
