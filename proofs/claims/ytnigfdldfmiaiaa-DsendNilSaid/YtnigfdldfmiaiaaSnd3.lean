/- A sender: data, Take where nothing is lost. -/
import Derived.Test.YtnigfdldfmiaiaaSnd2
import Derived.Test.YtnigfdldfmiaiaaDrv10
import Derived.Laws.Cover1
namespace Go.Proofs.Ytnigfdldfmiaiaa
open Go.ChangeShapes Go.WideShapes Go.ChangeAt Go.RowKit Go.Maps
set_option linter.unusedVariables false
set_option linter.unusedSimpArgs false
section
variable {F : Nat → Prop} {s : Nat} {A : Option Addr} {c gs : Nat} {v : Value} {l : List Rn} {una nx ed : Int} {buf : List Int} {told done : Bool}
set_option maxHeartbeats 2000000 in
set_option maxRecDepth 20000 in
theorem sdata_any (o k : Nat) (d : Int) (hd : d = una + o) (hok : o + k ≤ buf.length) (hb : 0 ≤ una ∧ una ≤ 1099511627776 ∧ buf.length ≤ 64) (w : World) (h : SnX F w s A c gs v l una nx ed buf told done) :
    Calls Try.prog 83 #[.pointer (some ⟨s, 0, none⟩), .int .i64 d, .int .i64 (k : Int)] w fun r w' => ∃ A' c', r = .returned (.slice A' k c') ∧ Own layB 5 w' w.heap.size (.slice A' k c') ((buf.drop o).take k) ∧ Fine w w' := by
  obtain ⟨nb, hnb⟩ : ∃ z, buf.length = z := ⟨_, rfl⟩
  have c1 : ∀ p : FineBy w, p.W.cell? ⟨s, 1, none⟩ = some (.int .i64 una) := fun p => (h.box.fine p.h).cell 1
  have c4 : ∀ p : FineBy w, p.W.cell? ⟨s, 4, none⟩ = some (.slice A nb c) := fun p => by have := (h.box.fine p.h).cell 4; rw [hnb] at this; exact this
  obtain ⟨o2, ho2⟩ : ∃ z : Nat, o + k = z := ⟨_, rfl⟩
  have e1 : IntKind.i64.wrap (d - una) = (o : Int) := by rw [show d - una = (o : Int) by omega]; exact IntWalk.i64_in _ (by omega)
  have e2 : IntKind.i64.wrap ((o : Int) + (k : Int)) = (o2 : Int) := by rw [show (o : Int) + (k : Int) = (o2 : Int) by omega]; exact IntWalk.i64_in _ (by omega)
  have hcap : nb ≤ c := by have := h.own.rs.1.1; rw [hnb] at this; exact this
  obtain ⟨A2, q1, q2, _⟩ := run_mid2 (P := Try.prog) (E := layB) sliceB A nb c o o2 (by omega) (by omega) hcap
  have hlen : Hid (((buf.drop o).take k).length = k) := Lib.hid (by rw [List.length_take, List.length_drop]; omega)
  have hko : o2 - o = k := by omega
  rw [hko] at q1 q2
  have HRS : Hid (∀ w', Fine w w' → RS layB w' A2 (c - o) ((buf.drop o).take k)) := Lib.hid (fun w' f => q2 w' buf hnb (h.own.fine f).rs.1)
  have hk64 : k ≤ 64 := by omega
  clear h hd hok hb hnb ho2 hcap q2 hko
  go_enter Try.func83, Try.ntmps83
  go_upto_region 1 with fail
  refine wp_region_quiet_fine_tail 19 (by kernel_rfl) (by kernel_rfl) ?_
  simp only [List.take_succ_cons, List.take_zero, List.drop_succ_cons, List.drop_zero]
  repeat (quiet_step (fail))
  refine wpQuiet_nil ?_
  intro wf hwf'
  have hwf := Lib.hid (FineBy.of hwf')
  clear hwf' c1 c4
  go_wp2_with fail
  refine (cloneB_any A2 k (c - o) ((buf.drop o).take k) hlen.out.symm (by rw [hlen.out]; omega) wf (HRS.out wf hwf.out)).mono ?_
  rintro r w2 ⟨v2, rfl, o2', f2⟩
  obtain ⟨A3, c3, rfl, _, _⟩ := o2'.form
  have O2 : Hid (Own layB 5 w2 w.heap.size (.slice A3 k c3) ((buf.drop o).take k)) := Lib.hid (by
    have := o2'.lower hwf.out.size
    rw [hlen.out] at this
    exact this)
  rw [hlen.out]
  have F2 := Lib.hid (hwf.out.trans f2)
  clear o2' f2
  go_wp2_with fail
  go_ret
  exact ⟨A3, c3, rfl, O2.out, F2.out⟩
set_option maxHeartbeats 2000000 in
set_option maxRecDepth 20000 in
theorem stake_some (most : Int) (o n : Nat) (hnx : nx = una + o) (hn : (n : Int) = min (min (una + buf.length - nx) (ed - nx)) (min (max most 1) 8)) (hn0 : 0 < n) (hb : 0 ≤ una ∧ una ≤ 1099511627776 ∧ buf.length ≤ 64) (hed : 0 ≤ ed ∧ ed ≤ 1099511627776) (w : World) (h : SnX F w s A c gs v [] una nx ed buf told done) :
    Calls Try.prog 52 #[.pointer (some ⟨s, 0, none⟩), .int .i64 most] w fun r w' => ∃ A' c', r = .returned (.tuple #[.int .i64 nx, .slice A' n c']) ∧ Own layB 5 w' w.heap.size (.slice A' n c') ((buf.drop o).take n) ∧ SnX F w' s A c gs v [] una (nx + n) ed buf told done ∧ Kept F w w' := by
  obtain ⟨m1, hm1⟩ : ∃ z, (if most < 1 then 1 else most) = z := ⟨_, rfl⟩
  obtain ⟨m2, hm2⟩ : ∃ z, (if 8 < m1 then 8 else m1) = z := ⟨_, rfl⟩
  have hm3 : m2 = min (max most 1) 8 := by rw [← hm2, ← hm1]; simp only [Int.min_def, Int.max_def]; split <;> split <;> split <;> split <;> omega
  obtain ⟨la, hla⟩ : ∃ z, una + (buf.length : Int) = z := ⟨_, rfl⟩
  obtain ⟨a, ha⟩ : ∃ z, la - nx = z := ⟨_, rfl⟩
  obtain ⟨b, hb'⟩ : ∃ z, ed - nx = z := ⟨_, rfl⟩
  rw [← hm3, hla, ha, hb'] at hn
  obtain ⟨t, ht⟩ : ∃ z, (if b < a then b else a) = z := ⟨_, rfl⟩
  have ht2 : (if m2 < t then m2 else t) = (n : Int) := by rw [hn, ← ht]; simp only [Int.min_def]; split <;> split <;> split <;> omega
  have hon : o + n ≤ buf.length := by omega
  have e1 : IntKind.i64.wrap (la - nx) = a := by rw [ha]; exact IntWalk.i64_in _ (by omega)
  have e2 : IntKind.i64.wrap (ed - nx) = b := by rw [hb']; exact IntWalk.i64_in _ (by omega)
  have e3 : IntKind.i64.wrap (nx + (n : Int)) = nx + (n : Int) := IntWalk.i64_in _ (by omega)
  have g0 : ¬ (n : Int) ≤ 0 := by omega
  have H := Lib.hid h; have HNX := Lib.hid hnx; have HON := Lib.hid hon; have HB := Lib.hid hb
  have c0 : w.cell? ⟨s, 0, none⟩ = some (.pointer (some ⟨gs, 0, none⟩)) := h.box.cell 0
  have HLA : Hid (∀ w', Fine w w' → Calls Try.prog 84 #[.pointer (some ⟨s, 0, none⟩)] w' fun r w'' => r = .returned (.int .i64 la) ∧ Fine w' w'') := Lib.hid (fun w' f => by have := slast_any w' hb (h.fine f); rw [hla] at this; exact this)
  clear h hnx hon hb hm3 hn hla ha hb' hn0
  go_enter Try.func52, Try.ntmps52
  go_wp2_with fail
  refine (runs_any gs [] (by simp) w H.out.set.set).mono ?_
  rintro r w1 ⟨v1, rfl, o1, f1⟩
  obtain ⟨A1, c1, rfl, _, _⟩ := o1.form
  have F1 := Lib.hid f1
  clear o1 f1 c0
  go_upto_region 9 with fail
  have q2 : ∀ p : FineBy w1, p.W.cell? ⟨s, 2, none⟩ = some (.int .i64 nx) := fun p => ((H.out.box.fine F1.out).fine p.h).cell 2
  have q3 : ∀ p : FineBy w1, p.W.cell? ⟨s, 3, none⟩ = some (.int .i64 ed) := fun p => ((H.out.box.fine F1.out).fine p.h).cell 3
  have QLA : Hid (∀ p : FineBy w1, Calls Try.prog 84 #[.pointer (some ⟨s, 0, none⟩)] p.W fun r w'' => r = .returned (.int .i64 la) ∧ Fine p.W w'') := Lib.hid (fun p => HLA.out p.W (F1.out.trans p.h))
  refine wp_region_quiet_fine (by kernel_rfl) (by kernel_rfl) ?_
  repeat (quiet_step (exact Calls.fine_of (QLA.out _)))
  refine wpQuiet_nil ?_
  intro wf hwf'
  have F2 := Lib.hid (F1.out.trans (FineBy.of hwf'))
  clear hwf' q2 q3 QLA HLA
  have X2 := Lib.hid (H.out.fine F2.out)
  have c2 : wf.cell? ⟨s, 2, none⟩ = some (.int .i64 nx) := X2.out.box.cell 2
  have z2 := X2.out.box.frozen 2
  go_upto_region 14 with fail
  have X3 := Lib.hid (X2.out.setNx (nx + (n : Int)))
  have K3 : Hid (Kept F w (wf.setCell ⟨s, 2, none⟩ (.int .i64 (nx + (n : Int))))) := Lib.hid ((Kept.of_fine F2.out).setIn (p := ⟨s, 2, none⟩) H.out.fg _)
  have sz3 := K3.out.size
  generalize wf.setCell ⟨s, 2, none⟩ (.int .i64 (nx + (n : Int))) = w3 at X3 K3 sz3 ⊢
  clear c2 z2
  go_wp2_with fail
  refine (sdata_any o n nx HNX.out HON.out HB.out w3 X3.out).mono ?_
  rintro r w4 ⟨A4, c4, rfl, o4, f4⟩
  have R := Lib.hid (And.intro (o4.lower sz3) (And.intro (X3.out.fine f4) (K3.out.trans (Kept.of_fine f4))))
  clear o4 f4
  go_wp2_with fail
  exact bodyPost_ret (v := .tuple #[.int .i64 nx, .slice A4 n c4]) (by simp [results, Try.results52, go_sem]) rfl ⟨A4, c4, rfl, R.out⟩
end
end Go.Proofs.Ytnigfdldfmiaiaa
