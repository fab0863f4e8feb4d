/- A sender: wakes; the law DsendNil. -/
import Derived.Test.YtnigfdldfmiaiaaSnd3
import Derived.Test.YtnigfdldfmiaiaaDrv7
namespace Go.Proofs.Ytnigfdldfmiaiaa
open Go.ChangeShapes Go.WideShapes Go.ChangeAt Go.RowKit Go.Maps
set_option linter.unusedVariables false
set_option linter.unusedSimpArgs false
theorem tidy_void {l : List Rn} (hT : Tidy l) (h : ∀ m, inB l m = false) : l = [] := Tidy.uniq hT Tidy.nil (fun n => by rw [h n]; rfl)
theorem cells_bytes {w : World} {A : Option Addr} {c n : Nat} {xs : List Int} (hn : xs.length = n) (h0 : 0 < n) (h : RS layB w A c xs) : ∃ b off, A = some ⟨b, off, none⟩ ∧ ∀ i, i < n → w.cell? ⟨b, off + i, none⟩ = some (.int .u8 (xs.getD i 0)) := by
  obtain ⟨b, off, rfl, _, _⟩ := h.atI (i := 0) (by omega)
  refine ⟨b, off, rfl, fun i hi => ?_⟩
  obtain ⟨b', off', e, _, hc⟩ := h.atI (i := i) (by omega)
  injection e with e
  injection e with e1 e2 _
  subst e1 e2
  exact hc
set_option maxHeartbeats 2000000 in
set_option maxRecDepth 20000 in
theorem dsendWakes_any (w : World) : Calls Try.prog 49 #[] w fun x w' => x = .returned (.bool true) ∧ Fine w w' := by
  have kc := fun (w : World) (C : Array Value) (n c : Nat) => Lib.run_convert_bytes_const (P := Try.prog) w 46 5 C n c Try.underlying46 Try.underlying5
  go_enter Try.func49, Try.ntmps49
  go_wp2_with fail
  refine (snew_any w).mono ?_
  rintro r w1 ⟨s, gs, v, l, rfl, hl, h1, f1⟩
  have hl0 := tidy_void h1.tidy hl
  subst hl0
  have H1 := Lib.hid h1; have F1 := Lib.hid f1
  clear h1 f1 hl
  go_wp2_with fail
  refine (swrite_any 3 3 (some ⟨w1.heap.size, 0, none⟩) [97, 98, 99] rfl (by omega) (by simp) _ (RS.constB w1 _ _ _ [97, 98, 99] 3 rfl rfl (by simp; unfold maxLen; omega)) (H1.out.fine ((Fine.refl w1).alloc _))).mono ?_
  rintro r w2 ⟨F2, A2, c2, rfl, h2, k2, hF2⟩
  have f2 : Fine w w2 := (F1.out.alloc _).kept k2 (fun x hx hf => by have := hf.1; omega)
  have hB2 : ∀ x, F2 x → w.heap.size ≤ x := fun x hx => by
    rcases hF2 x hx with h | h
    · exact h.1
    · have := (F1.out.alloc (.cells #[.int .u8 97, .int .u8 98, .int .u8 99] 5 (3, 4))).size
      exact Nat.le_trans this h
  have H2 := Lib.hid (show SnX F2 w2 s A2 c2 gs v [] 1 1 33 [97, 98, 99] false false from h2); have HB2 := Lib.hid hB2; have FW2 := Lib.hid f2
  rw [show ((min [(97 : Int), 98, 99].length (64 - ([] : List Int).length) : Nat) : Int) = 3 by decide]
  clear h2 k2 hF2 f2 hB2
  go_wp2_with fail
  refine (stake_some 2 0 2 (by simp) (by decide) (by omega) (by simp) (by omega) w2 H2.out).mono ?_
  rintro r w3 ⟨A3, c3, rfl, o3, h3, k3⟩
  have H3 := Lib.hid h3
  have FW3 : Hid (Fine w w3) := Lib.hid (FW2.out.kept k3 (fun x hx hf => by have := HB2.out x hf; omega))
  have O3 := Lib.hid o3.rs.1
  have O3f : Hid (∀ b o, A3 = some ⟨b, o, none⟩ → ¬ F2 b) := Lib.hid (fun b o e hf => by have := (o3.from_ b o e).1; have := H2.out.lt b hf; omega)
  clear h3 k3 o3
  go_wp2_with fail
  refine (stake_some 2 2 1 (by simp) (by decide) (by omega) (by simp) (by omega) w3 H3.out).mono ?_
  rintro r w4 ⟨A4, c4, rfl, o4, h4, k4⟩
  have FW4 : Hid (Fine w w4) := Lib.hid (FW3.out.kept k4 (fun x hx hf => by have := HB2.out x hf; omega))
  have O4 := o4.rs.1
  have O34 := O3.out.kept k4 O3f.out
  obtain ⟨b4, f4, rfl, hc4⟩ := cells_bytes (n := 1) (xs := [99]) rfl (by omega) O4
  obtain ⟨b3, f3, rfl, hc3⟩ := cells_bytes (n := 2) (xs := [97, 98]) rfl (by omega) O34
  have hconv4 := run_convert_bytes_arg (P := Try.prog) w4 46 5 Try.underlying46 Try.underlying5 b4 f4 1 c4 [99] rfl hc4 9 Try.underlying9
  have hconv3 := run_convert_bytes_arg (P := Try.prog) w4 46 5 Try.underlying46 Try.underlying5 b3 f3 2 c3 [97, 98] rfl hc3 9 Try.underlying9
  rw [show strOfNums [99] = ⟨#[99]⟩ from rfl] at hconv4
  rw [show strOfNums [97, 98] = ⟨#[97, 98]⟩ from rfl] at hconv3
  clear hc4 hc3 O4 O34 o4 h4 k4 kc O3 O3f H3
  go_wp2_with fail
  go_ret
  exact ⟨rfl, FW4.out⟩
set_option maxHeartbeats 2000000 in
set_option maxRecDepth 20000 in
theorem lawDsendNil (w : World) (A : Option Addr) (len cap : Nat) (zs : List Int) (hz : IntsIn .u8 w A len cap zs) (a : Int) (wa : (Lit.int .i64 a).wf = true) :
    Calls Try.prog 17 #[.slice A len cap, .int .i64 a] w fun e w' => e = .returned (.bool true) ∧ Below w.heap.size w w' := by
  show Calls _ _ _ _ fun e w' => e = .returned (.bool true) ∧ Fine w w'
  clear hz wa
  go_enter Try.func17, Try.ntmps17
  go_wp2_with fail
  refine (dsendWakes_any w).mono ?_
  rintro r w1 ⟨rfl, f1⟩
  have F1 := Lib.hid f1
  clear f1
  go_wp2_with fail
  refine (write_nil _ w1).mono ?_
  rintro r w2 ⟨rfl, f2⟩
  have F2 := Lib.hid (F1.out.trans f2)
  clear f2
  go_wp2_with fail
  refine (take_nil a w2).mono ?_
  rintro r w3 ⟨rfl, f3⟩
  have F3 := Lib.hid (F2.out.trans f3)
  clear f3
  go_wp2_with fail
  refine (sack_nil a a w3).mono ?_
  rintro r w4 ⟨rfl, f4⟩
  have F4 := Lib.hid (F3.out.trans f4)
  clear f4
  go_wp2_with fail
  refine (due_nil w4).mono ?_
  rintro r w5 ⟨rfl, f5⟩
  have F5 := Lib.hid (F4.out.trans f5)
  clear f5
  go_wp2_with fail
  refine (send_nil w5).mono ?_
  rintro r w6 ⟨rfl, f6⟩
  have F6 := Lib.hid (F5.out.trans f6)
  clear f6
  go_wp2_with fail
  refine (lost_nil a a w6).mono ?_
  rintro r w7 ⟨rfl, f7⟩
  have F7 := Lib.hid (F6.out.trans f7)
  clear f7
  go_wp2_with fail
  refine (una_nil w7).mono ?_
  rintro r w8 ⟨rfl, f8⟩
  have F8 := Lib.hid (F7.out.trans f8)
  clear f8
  go_wp2_with fail
  refine (snext_nil w8).mono ?_
  rintro r w9 ⟨rfl, f9⟩
  have F9 := Lib.hid (F8.out.trans f9)
  clear f9
  go_wp2_with fail
  refine (sedge_nil w9).mono ?_
  rintro r w10 ⟨rfl, f10⟩
  have F10 := Lib.hid (F9.out.trans f10)
  clear f10
  go_wp2_with fail
  refine (sheld_nil w10).mono ?_
  rintro r w11 ⟨rfl, f11⟩
  have F11 := Lib.hid (F10.out.trans f11)
  clear f11
  go_wp2_with fail
  refine (done_nil w11).mono ?_
  rintro r w12 ⟨rfl, f12⟩
  have F12 := Lib.hid (F11.out.trans f12)
  clear f12
  go_wp2_with fail
  go_ret
  exact ⟨rfl, F12.out⟩
end Go.Proofs.Ytnigfdldfmiaiaa
