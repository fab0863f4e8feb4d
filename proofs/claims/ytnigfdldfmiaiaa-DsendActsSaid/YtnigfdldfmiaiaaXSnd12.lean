/- A sender: Due. -/
import Derived.Test.YtnigfdldfmiaiaaMb
namespace Go.Proofs.Ytnigfdldfmiaiaa
set_option linter.unusedVariables false
set_option linter.unusedSimpArgs false
open Go.ChangeShapes Go.WideShapes Go.ChangeAt Go.RowKit Go.Maps
set_option linter.unusedVariables false
set_option linter.unusedSimpArgs false
section
variable {F : Nat → Prop} {w w' w1 : World} {s : Nat} {A : Option Addr} {c gs : Nat} {v : Value} {l : List Rn} {una nx ed : Int} {buf : List Int} {told done : Bool}
/-- Is the end to be sent? -/
def dueV (told done : Bool) (nx la tl : Int) : Bool := told && (!done && (decide (la ≤ nx) && decide (tl ≤ 0)))
set_option maxHeartbeats 8000000 in
set_option maxRecDepth 20000 in
theorem sudue_any (hb : 0 ≤ una ∧ una ≤ 1099511627776 ∧ buf.length ≤ 64) (w : World) (h : SnX F w s A c gs v l una nx ed buf told done) :
    Calls Try.prog 61 #[.pointer (some ⟨s, 0, none⟩)] w fun r w' => r = .returned (.tuple #[.int .i64 (if dueV told done nx (una + buf.length) (total l) = true then una + buf.length else 0), .bool (dueV told done nx (una + buf.length) (total l))]) ∧ Fine w w' := by
  obtain ⟨la, hla⟩ : ∃ z, una + (buf.length : Int) = z := ⟨_, rfl⟩
  have HLA : Hid (∀ w', Fine w w' → Calls Try.prog 84 #[.pointer (some ⟨s, 0, none⟩)] w' fun r w'' => r = .returned (.int .i64 la) ∧ Fine w' w'') := Lib.hid (fun w' f => by have := slast_any w' hb (h.fine f); rw [hla] at this; exact this)
  have HMY : Hid (∀ w', Fine w w' → Calls Try.prog 29 #[.pointer (some ⟨gs, 0, none⟩)] w' fun r w'' => r = .returned (.int .i64 (total l)) ∧ Fine w' w'') := Lib.hid (fun w' f => many_any gs l h.tidy w' (h.fine f).set.set)
  rw [hla]
  obtain ⟨tl, htl⟩ : ∃ z, total l = z := ⟨_, rfl⟩
  rw [htl] at HMY ⊢
  have QLA : Hid (∀ p : FineBy w, Calls Try.prog 84 #[.pointer (some ⟨s, 0, none⟩)] p.W fun r w'' => r = .returned (.int .i64 la) ∧ Fine p.W w'') := Lib.hid (fun p => HLA.out p.W p.h)
  have QM : Hid (∀ p : FineBy w, Calls Try.prog 29 #[.pointer (some ⟨gs, 0, none⟩)] p.W fun r w'' => r = .returned (.int .i64 tl) ∧ Fine p.W w'') := Lib.hid (fun p => HMY.out p.W p.h)
  have q0 : ∀ p : FineBy w, p.W.cell? ⟨s, 0, none⟩ = some (.pointer (some ⟨gs, 0, none⟩)) := fun p => (h.box.fine p.h).cell 0
  have q2 : ∀ p : FineBy w, p.W.cell? ⟨s, 2, none⟩ = some (.int .i64 nx) := fun p => (h.box.fine p.h).cell 2
  have q5 : ∀ p : FineBy w, p.W.cell? ⟨s, 5, none⟩ = some (.bool told) := fun p => (h.box.fine p.h).cell 5
  have q6 : ∀ p : FineBy w, p.W.cell? ⟨s, 6, none⟩ = some (.bool done) := fun p => (h.box.fine p.h).cell 6
  clear h htl hla HMY hb
  cases told with
  | false =>
    have HV : Hid (dueV false done nx la tl = false) := Lib.hid rfl
    rw [HV.out, if_neg (by decide)]
    go_enter Try.func61, Try.ntmps61
    go_upto_region 1 with fail
    refine wp_region_quiet_fine (by kernel_rfl) (by kernel_rfl) ?_
    repeat (quiet_step (first | exact Calls.fine_of (QLA.out _) | exact Calls.fine_of (QM.out _)))
    refine wpQuiet_nil ?_
    intro wf hwf'
    have hwf := Lib.hid (FineBy.of hwf')
    clear hwf' q0 q2 q5 q6
    clear QLA QM HLA
    go_wp2_with fail
    exact bodyPost_ret (v := .tuple #[.int .i64 0, .bool false]) (by simp [results, Try.results61, go_sem]) rfl ⟨rfl, hwf.out⟩
  | true =>
    cases done with
    | true =>
      have HV : Hid (dueV true true nx la tl = false) := Lib.hid rfl
      rw [HV.out, if_neg (by decide)]
      go_enter Try.func61, Try.ntmps61
      go_upto_region 1 with fail
      refine wp_region_quiet_fine (by kernel_rfl) (by kernel_rfl) ?_
      repeat (quiet_step (first | exact Calls.fine_of (QLA.out _) | exact Calls.fine_of (QM.out _)))
      refine wpQuiet_nil ?_
      intro wf hwf'
      have hwf := Lib.hid (FineBy.of hwf')
      clear hwf' q0 q2 q5 q6
      clear QLA QM HLA
      go_wp2_with fail
      exact bodyPost_ret (v := .tuple #[.int .i64 0, .bool false]) (by simp [results, Try.results61, go_sem]) rfl ⟨rfl, hwf.out⟩
    | false =>
      by_cases h1 : nx < la
      · have g1 : decide (nx < la) = true := decide_eq_true h1
        have HV : Hid (dueV true false nx la tl = false) := Lib.hid (by unfold dueV; rw [decide_eq_false (show ¬ la ≤ nx by omega)]; rfl)
        rw [HV.out, if_neg (by decide)]
        go_enter Try.func61, Try.ntmps61
        go_upto_region 1 with fail
        refine wp_region_quiet_fine (by kernel_rfl) (by kernel_rfl) ?_
        repeat (quiet_step (first | exact Calls.fine_of (QLA.out _) | exact Calls.fine_of (QM.out _)))
        refine wpQuiet_nil ?_
        intro wf hwf'
        have hwf := Lib.hid (FineBy.of hwf')
        clear hwf' q0 q2 q5 q6
        clear QLA QM HLA
        go_wp2_with fail
        exact bodyPost_ret (v := .tuple #[.int .i64 0, .bool false]) (by simp [results, Try.results61, go_sem]) rfl ⟨rfl, hwf.out⟩
      · have g1 : decide (nx < la) = false := decide_eq_false h1
        by_cases h2 : tl > 0
        · have g2 : decide (0 < tl) = true := decide_eq_true h2
          have HV : Hid (dueV true false nx la tl = false) := Lib.hid (by unfold dueV; rw [decide_eq_false (show ¬ tl ≤ 0 by omega)]; simp)
          rw [HV.out, if_neg (by decide)]
          go_enter Try.func61, Try.ntmps61
          go_upto_region 1 with fail
          refine wp_region_quiet_fine (by kernel_rfl) (by kernel_rfl) ?_
          repeat (quiet_step (first | exact Calls.fine_of (QLA.out _) | exact Calls.fine_of (QM.out _)))
          refine wpQuiet_nil ?_
          intro wf hwf'
          have hwf := Lib.hid (FineBy.of hwf')
          clear hwf' q0 q2 q5 q6
          clear QLA QM HLA
          go_wp2_with fail
          exact bodyPost_ret (v := .tuple #[.int .i64 0, .bool false]) (by simp [results, Try.results61, go_sem]) rfl ⟨rfl, hwf.out⟩
        · have g2 : decide (0 < tl) = false := decide_eq_false h2
          have HV : Hid (dueV true false nx la tl = true) := Lib.hid (by unfold dueV; rw [decide_eq_true (show tl ≤ 0 by omega), decide_eq_true (show la ≤ nx by omega)]; rfl)
          rw [HV.out, if_pos rfl]
          go_enter Try.func61, Try.ntmps61
          go_upto_region 1 with fail
          refine wp_region_quiet_fine (by kernel_rfl) (by kernel_rfl) ?_
          repeat (quiet_step (first | exact Calls.fine_of (QLA.out _) | exact Calls.fine_of (QM.out _)))
          refine wpQuiet_nil ?_
          intro wf hwf'
          have hwf := Lib.hid (FineBy.of hwf')
          clear hwf' q0 q2 q5 q6
          go_wp2_with fail
          refine (HLA.out wf hwf.out).mono ?_
          rintro r w2 ⟨rfl, f2⟩
          have F2 := Lib.hid (hwf.out.trans f2)
          clear f2 HLA QLA QM
          go_wp2_with fail
          exact bodyPost_ret (v := .tuple #[.int .i64 la, .bool true]) (by simp [results, Try.results61, go_sem]) rfl ⟨rfl, F2.out⟩
end
end Go.Proofs.Ytnigfdldfmiaiaa
