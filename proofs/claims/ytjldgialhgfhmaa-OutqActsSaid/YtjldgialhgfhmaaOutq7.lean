/- The laws of outq: the example. -/
import Derived.Test.YtjldgialhgfhmaaOutq6
import Derived.Test.YtjldgialhgfhmaaOutqRef2
import Derived.Lib.SlBytesConst
namespace Go.Proofs.Ytjldgialhgfhmaa
open Go.ChangeShapes Go.WideShapes Go.ChangeAt Go.RowKit
set_option linter.unusedVariables false

theorem RS.const (w : World) (C : Array Value) (t : TypeId) (fr : Nat × Nat) (xs : List Int) (c : Nat) (e : C.toList = LB.flat xs) (hc : c = xs.length) (hm : xs.length ≤ maxLen) : RS LB (w.alloc (.cells C t fr)) (some ⟨w.heap.size, 0, none⟩) c xs :=
  ⟨Nat.le_of_eq hc.symm, by omega, (fun e => by cases e), fun _ => ⟨w.heap.size, 0, rfl, (by show w.heap.size < (w.heap.push _).size; simp), fun i v hv => by rw [Nat.zero_add, World.cell?_alloc_mark, ← Array.getElem?_toList, e]; exact hv⟩⟩
set_option maxRecDepth 20000 in
theorem outqWakes_any (w : World) : Calls Try.prog 26 #[] w fun x w' => x = .returned (.bool true) ∧ Fine w w' := by
  have kc := fun (w : World) (C : Array Value) (n c : Nat) => Lib.run_convert_bytes_const (P := Try.prog) w 29 5 C n c Try.underlying29 Try.underlying5
  go_enter Try.func26, Try.ntmps26
  go_wp2_with fail
  refine (new_any 5 w).mono ?_; rintro x w1 ⟨rfl, q1, f1⟩
  have hl1 : w.heap.size < w1.heap.size := by obtain ⟨_, _, _, h, _⟩ := q1; exact h.lt
  have Q1 := Lib.hid q1; clear q1
  go_wp2_with fail
  refine (push_any w.heap.size (· = w.heap.size) (fun _ => False) [] 5 ⟨0, true, false, none, 0, 0, 0, false⟩ ⟨0, true, false, [], 0, false⟩ w1 Q1.out ⟨rfl, rfl, rfl, rfl, rfl, rfl, RS.nil_ _ _, fun b o h _ => by cases h⟩ (fun _ h => h.elim) (by omega) (by simp) (by simp)).mono ?_
  rintro x w2 ⟨r1, F2, rfl, q2, _, k2, hF2⟩
  have f2 : Fine w w2 := f1.kept k2 (fun x hx h => by omega)
  have hF2' : ∀ b, F2 b → w.heap.size ≤ b := fun b hb => by rcases hF2 b hb with h | h <;> omega
  have hl2 := k2.size
  have Q2 : Hid (QB w2 F2 w.heap.size [⟨5, true, false, [], 0, false⟩] 6) := q2
  clear q2 k2 hF2 Q1
  have HB2 : ∀ b, F2 b → b < w2.heap.size := by obtain ⟨_, _, _, _, _, _, _, _, h⟩ := Q2.out; exact h
  go_wp2_with fail
  refine (push_any w.heap.size F2 (· = w2.heap.size) [⟨5, true, false, [], 0, false⟩] 6 ⟨0, false, false, some ⟨w2.heap.size, 0, none⟩, 3, 3, 0, false⟩ ⟨0, false, false, [97, 98, 99], 0, false⟩ _ (Q2.out.fine ((Fine.refl _).alloc _)) ⟨rfl, rfl, rfl, rfl, rfl, rfl, RS.const w2 _ _ _ _ _ rfl rfl (by simp [maxLen]), fun b o h _ => by injection h with h; injection h with h; exact h.symm⟩ (fun b hb h => by subst hb; have := HB2 _ h; omega) (by omega) (by simp) (by simp)).mono ?_
  rintro x w3 ⟨r2, F3, rfl, q3, _, k3, hF3⟩
  have f3 : Fine w w3 := (f2.alloc (.cells #[.int .u8 97, .int .u8 98, .int .u8 99] 5 (3, 4))).kept k3 (fun x hx h => by have := hF2' x h; omega)
  have hF3' : ∀ b, F3 b → w.heap.size ≤ b := fun b hb => by rcases hF3 b hb with h | h; exact hF2' b h; have := f2.size; have := Nat.le_trans ((Fine.refl w2).alloc _).size h; omega
  have Q3 : Hid (QB w3 F3 w.heap.size [⟨5, true, false, [], 0, false⟩, ⟨6, false, false, [97, 98, 99], 0, false⟩] 9) := q3
  clear q3 k3 hF3 Q2 HB2 hF2' f2
  go_wp2_with fail
  refine (end_any _ _ _ _ _ Q3.out).mono ?_
  rintro x w4 ⟨rfl, f4⟩
  have Q4 := Lib.hid (Q3.out.fine f4)
  have f4' := f3.trans f4
  clear Q3 f4 f3
  go_wp2_with fail
  refine (ack_any w.heap.size F3 [⟨5, true, false, [], 0, false⟩, ⟨6, false, false, [97, 98, 99], 0, false⟩] 9 6 w4 Q4.out (by decide) (by simp) (by simp)).mono ?_
  rintro x w5 ⟨A, c, rs, F5, rfl, hr, hi, hA, hq, k5, hF5⟩
  have f5 : Fine w w5 := f4'.kept k5 (fun x hx h => by have := hF3' x h; omega)
  have hi' : Iss w5 (fun b => w4.heap.size ≤ b) rs [⟨5, true, false, [], 0, false⟩] := hi.less (fun b h => h.1)
  have Q5 : Hid (QB w5 F5 w.heap.size [⟨6, false, false, [97, 98, 99], 0, false⟩] 9) := hq
  clear hq hi k5 hF5 Q4 hF3'
  have hl : rs.length = 1 := hi'.1
  obtain ⟨r, rfl⟩ : ∃ r, rs = [r] := by
    match rs, hl with
    | [r], _ => exact ⟨r, rfl⟩
  have hs := (hi'.2 0 r _ rfl rfl).2.1
  obtain ⟨B, off, rfl, hB, hc⟩ := hr.at_ (k := 0) (x := r) rfl
  have c1 : w5.cell? ⟨B, off + 1, none⟩ = some (.bool true) := by have := hc 1 (.bool r.syn) rfl; rw [hs] at this; simpa using this
  clear hc hs hl hi' hr hA
  go_wp2_with fail
  refine (len_any _ _ _ _ _ Q5.out).mono ?_
  rintro x w6 ⟨rfl, f6⟩
  go_wp2_with fail
  go_ret
  exact ⟨rfl, f5.trans f6⟩
end Go.Proofs.Ytjldgialhgfhmaa
