/- A receiver: wakes; one that is not there; the law DrecvNil; Same. -/
import Derived.Test.YtnigfdldfmiaiaaDrv6
import Derived.Lib.SlBytesConst
import Derived.Laws.BytesArg
import Derived.Test.YtnigfdldfmiaiaaOpen
namespace Go.Proofs.Ytnigfdldfmiaiaa
open Go.ChangeShapes Go.WideShapes Go.ChangeAt Go.RowKit Go.Maps
set_option linter.unusedVariables false
set_option linter.unusedSimpArgs false
theorem read_nil (m : Int) (w : World) : Calls Try.prog 34 #[.pointer none, .int .i64 m] w fun r w' => r = .returned (.tuple #[.slice none 0 0, .int .i64 2]) ∧ Fine w w' := by
  go_enter Try.func34, Try.ntmps34
  go_wp2_with fail
  exact bodyPost_ret (v := .tuple #[.slice none 0 0, .int .i64 2]) (by simp [results, Try.results34, go_sem]) rfl ⟨rfl, Fine.refl w⟩
theorem put_nil (d : Int) (v : Value) (w : World) : Calls Try.prog 33 #[.pointer none, .int .i64 d, v] w fun r w' => r = .returned (.int .i64 0) ∧ Fine w w' := by
  go_enter Try.func33, Try.ntmps33
  go_wp2_with fail
  go_ret
  exact ⟨rfl, Fine.refl w⟩
theorem end_nil (d : Int) (w : World) : Calls Try.prog 41 #[.pointer none, .int .i64 d] w fun r w' => r = .returned (.bool false) ∧ Fine w w' := by
  go_enter Try.func41, Try.ntmps41
  go_wp2_with fail
  go_ret
  exact ⟨rfl, Fine.refl w⟩
theorem ack_nil (w : World) : Calls Try.prog 37 #[.pointer none] w fun r w' => r = .returned (.int .i64 0) ∧ Fine w w' := by
  go_enter Try.func37, Try.ntmps37
  go_wp2_with fail
  go_ret
  exact ⟨rfl, Fine.refl w⟩
theorem win_nil (w : World) : Calls Try.prog 36 #[.pointer none] w fun r w' => r = .returned (.int .i64 0) ∧ Fine w w' := by
  go_enter Try.func36, Try.ntmps36
  go_wp2_with fail
  go_ret
  exact ⟨rfl, Fine.refl w⟩
theorem ready_nil (w : World) : Calls Try.prog 39 #[.pointer none] w fun r w' => r = .returned (.int .i64 0) ∧ Fine w w' := by
  go_enter Try.func39, Try.ntmps39
  go_wp2_with fail
  go_ret
  exact ⟨rfl, Fine.refl w⟩
theorem ended_nil (w : World) : Calls Try.prog 48 #[.pointer none] w fun r w' => r = .returned (.bool false) ∧ Fine w w' := by
  go_enter Try.func48, Try.ntmps48
  go_upto_region 1 with fail
  go_quiet (fail)
  go_wp2_with fail
  go_ret
  exact ⟨rfl, (Fine.refl w).drewN _⟩
theorem RcS.nx_at {F : Nat → Prop} {w : World} {g : Nat} {In : Int → Bool} {B : Int → Int} {rd nx e : Int} {mz : Nat} (h : RcS F w g In B rd nx e mz) {k : Int} (hk : 1 ≤ k) (hl : ∀ n, 1 ≤ n → n < k → In n = true) (hn : In k = false) : nx = k := by
  have i := h.inv
  rcases Int.lt_trichotomy nx k with h1 | h1 | h1
  · have := hl nx (by have := i.rn; have := i.r0; omega) h1
    rw [i.no] at this
    cases this
  · exact h1
  · have := i.low k hk h1
    rw [hn] at this
    cases this
theorem RS.constB (w : World) (C : Array Value) (t : TypeId) (fr : Nat × Nat) (xs : List Int) (c : Nat) (e : C.toList = layB.flat xs) (hc : c = xs.length) (hm : xs.length ≤ maxLen) : RS layB (w.alloc (.cells C t fr)) (some ⟨w.heap.size, 0, none⟩) c xs :=
  ⟨Nat.le_of_eq hc.symm, by omega, (fun e => by cases e), fun _ => ⟨w.heap.size, 0, rfl, (by show w.heap.size < (w.heap.push _).size; simp), fun i v hv => by rw [Nat.zero_add, World.cell?_alloc_mark, ← Array.getElem?_toList, e]; exact hv⟩⟩
set_option maxHeartbeats 2000000 in
set_option maxRecDepth 20000 in
theorem drecvWakes_any (w : World) : Calls Try.prog 31 #[] w fun x w' => x = .returned (.bool true) ∧ Fine w w' := by
  have kc := fun (w : World) (C : Array Value) (n c : Nat) => Lib.run_convert_bytes_const (P := Try.prog) w 46 5 C n c Try.underlying46 Try.underlying5
  go_enter Try.func31, Try.ntmps31
  go_wp2_with fail
  refine (rnewv_any w).mono ?_
  rintro r w1 ⟨g, rfl, h1, f1⟩
  have H1 := Lib.hid h1; have F1 := Lib.hid f1
  clear h1 f1
  go_wp2_with fail
  refine (sput_any 3 (by omega) [99] 1 1 (some ⟨w1.heap.size, 0, none⟩) rfl (by omega) (by intro x hx; simp at hx; omega) (by omega) _ (RS.constB w1 _ _ _ [99] 1 rfl rfl (by simp; unfold maxLen; omega)) (fun _ b o e => by injection e with e; injection e with e _; intro hf; have := H1.out.lt _ hf; omega) (H1.out.fine ((Fine.refl w1).alloc _))).mono ?_
  rintro r w2 ⟨rfl, k2, F2, nx2, h2, _, hF2⟩
  have hz2 : nx2 = 1 := h2.nx_at (by omega) (fun n a b => by omega) (by decide)
  subst hz2
  have f2 : Fine w w2 := (F1.out.alloc _).kept k2 (fun x hx hf => by have := hf.1; omega)
  have H2 := Lib.hid h2
  have hB2 : ∀ x, F2 x → w.heap.size ≤ x := fun x hx => by
    rcases hF2 x hx with h | h
    · exact h.1
    · have := (F1.out.alloc (.cells #[.int .u8 99] 5 (1, 2))).size
      exact Nat.le_trans this h
  have HB2 := Lib.hid hB2; have FW2 := Lib.hid f2
  have e1 : cntP (fun j => tkB (fun _ => false) 0 1 0 (3 + (j : Int))) [(99 : Int)].length = 1 := by decide
  rw [e1]
  clear h2 k2 hF2 f2 hB2 e1
  go_wp2_with fail
  refine (sput_any 1 (by omega) [97, 98] 2 2 (some ⟨w2.heap.size, 0, none⟩) rfl (by omega) (by intro x hx; simp at hx; omega) (by simp) _ (RS.constB w2 _ _ _ [97, 98] 2 rfl rfl (by simp; unfold maxLen; omega)) (fun _ b o e => by injection e with e; injection e with e _; intro hf; have := H2.out.lt _ hf; omega) (H2.out.fine ((Fine.refl w2).alloc _))).mono ?_
  rintro r w3 ⟨rfl, k3, F3, nx3, h3, _, hF3⟩
  have hz3 : nx3 = 4 := h3.nx_at (by omega) (fun n a b => by
    have : n = 1 ∨ n = 2 ∨ n = 3 := by omega
    rcases this with rfl | rfl | rfl <;> decide) (by decide)
  subst hz3
  have f3 : Fine w w3 := (FW2.out.alloc _).kept k3 (fun x hx hf => by have := HB2.out x hf; omega)
  have hB3 : ∀ x, F3 x → w.heap.size ≤ x := fun x hx => by
    rcases hF3 x hx with h | h
    · exact HB2.out x h
    · have := (FW2.out.alloc (.cells #[.int .u8 97, .int .u8 98] 5 (2, 3))).size
      exact Nat.le_trans this h
  have H3 := Lib.hid h3; have HB3 := Lib.hid hB3; have FW3 := Lib.hid f3
  have e1 : cntP (fun j => tkB (putI (fun _ => false) 0 1 0 3 [(99 : Int)].length) 0 1 0 (1 + (j : Int))) [(97 : Int), 98].length = 2 := by decide
  rw [e1]
  clear h3 k3 hF3 f3 hB3 e1 H2 HB2
  go_wp2_with fail
  refine (read_any 9 (by omega) (by omega) w3 H3.out).mono ?_
  rintro r w4 ⟨v, xs, er, rd4, F4, rfl, o4, _, h4, _, k4, _, _⟩
  obtain ⟨rfl, rfl, rfl⟩ := h4 (by decide)
  have f4 : Fine w w4 := FW3.out.kept k4 (fun x hx hf => by have := HB3.out x hf; omega)
  obtain ⟨A, c, rfl, rs4, _⟩ := o4.form
  obtain ⟨ys, hys⟩ : ∃ ys, bufL (putV (putI (fun _ => false) 0 1 0 3 [(99 : Int)].length) 0 1 0 1 [97, 98] (putV (fun _ => false) 0 1 0 3 [99] (fun _ => 0))) 0 (0 + min (max 9 0) (4 - 1 - 0) + 1) = ys := ⟨_, rfl⟩
  have hy : ys = [97, 98, 99] := by rw [← hys]; decide
  rw [hys] at rs4 ⊢
  subst hy
  obtain ⟨b, off, rfl, _, _⟩ := rs4.atI (i := 0) (by simp)
  have hcell : ∀ i, i < 3 → w4.cell? ⟨b, off + i, none⟩ = some (.int .u8 ([(97 : Int), 98, 99].getD i 0)) := fun i hi => by
    obtain ⟨b', off', e, _, hc⟩ := rs4.atI (i := i) (by simpa using hi)
    injection e with e
    injection e with e1 e2 _
    subst e1 e2
    exact hc
  have hconv := run_convert_bytes_arg (P := Try.prog) w4 46 5 Try.underlying46 Try.underlying5 b off 3 c [97, 98, 99] rfl hcell 9 Try.underlying9
  rw [show strOfNums [97, 98, 99] = ⟨#[97, 98, 99]⟩ from rfl] at hconv
  have FW4 := Lib.hid f4
  clear hcell f4 k4 o4 rs4 h4 hys kc
  go_wp2_with fail
  go_ret
  exact ⟨rfl, FW4.out⟩
set_option maxHeartbeats 2000000 in
set_option maxRecDepth 20000 in
theorem lawDrecvNil (w : World) (a : Int) (wa : (Lit.int .i64 a).wf = true) (A : Option Addr) (len cap : Nat) (zs : List Int) (hz : IntsIn .u8 w A len cap zs) :
    Calls Try.prog 12 #[.int .i64 a, .slice A len cap] w fun e w' => e = .returned (.bool true) ∧ Below w.heap.size w w' := by
  show Calls _ _ _ _ fun e w' => e = .returned (.bool true) ∧ Fine w w'
  clear hz wa
  go_enter Try.func12, Try.ntmps12
  go_wp2_with fail
  refine (drecvWakes_any w).mono ?_
  rintro r w1 ⟨rfl, f1⟩
  have F1 := Lib.hid f1
  clear f1
  go_wp2_with fail
  refine (read_nil a w1).mono ?_
  rintro r w2 ⟨rfl, f2⟩
  have F2 := Lib.hid (F1.out.trans f2)
  clear f2
  go_wp2_with fail
  refine (put_nil a _ w2).mono ?_
  rintro r w3 ⟨rfl, f3⟩
  have F3 := Lib.hid (F2.out.trans f3)
  clear f3
  go_wp2_with fail
  refine (end_nil a w3).mono ?_
  rintro r w4 ⟨rfl, f4⟩
  have F4 := Lib.hid (F3.out.trans f4)
  clear f4
  go_wp2_with fail
  refine (ack_nil w4).mono ?_
  rintro r w5 ⟨rfl, f5⟩
  have F5 := Lib.hid (F4.out.trans f5)
  clear f5
  go_wp2_with fail
  refine (win_nil w5).mono ?_
  rintro r w6 ⟨rfl, f6⟩
  have F6 := Lib.hid (F5.out.trans f6)
  clear f6
  go_wp2_with fail
  refine (ready_nil w6).mono ?_
  rintro r w7 ⟨rfl, f7⟩
  have F7 := Lib.hid (F6.out.trans f7)
  clear f7
  go_wp2_with fail
  refine (ended_nil w7).mono ?_
  rintro r w8 ⟨rfl, f8⟩
  have F8 := Lib.hid (F7.out.trans f8)
  clear f8
  go_wp2_with fail
  go_ret
  exact ⟨rfl, F8.out⟩
end Go.Proofs.Ytnigfdldfmiaiaa
