/- A sender: Take where something is lost. A sender: Take where nothing may be taken. slices.Delete of bytes, from the first on. A sender: Ack. A sender: its numbers; End. -/
import Derived.Test.YtnigfdldfmiaiaaMa
import Derived.Laws.Cover1
import Derived.StillTail
import Derived.Test.YtnigfdldfmiaiaaSpan21
namespace Go.Proofs.Ytnigfdldfmiaiaa
set_option linter.unusedVariables false
set_option linter.unusedSimpArgs false
open Go.ChangeShapes Go.WideShapes Go.ChangeAt Go.RowKit Go.Maps
set_option linter.unusedVariables false
set_option linter.unusedSimpArgs false
section
variable {F : Nat → Prop} {w w' w1 : World} {s : Nat} {A : Option Addr} {c gs : Nat} {v : Value} {l : List Rn} {una nx ed : Int} {buf : List Int} {told done : Bool}
set_option maxHeartbeats 4000000 in
set_option maxRecDepth 20000 in
theorem stake_lost (most : Int) (r1 r2 : Int) (t : List Rn) (o n : Nat) (hr : r1 = una + o) (hn : (n : Int) = min r2 (min (max most 1) 8)) (hon : o + n ≤ buf.length) (hb : 0 ≤ una ∧ una ≤ 1099511627776 ∧ buf.length ≤ 64) (w : World) (h : SnX F w s A c gs v ((r1, r2) :: t) una nx ed buf told done) :
    Calls Try.prog 52 #[.pointer (some ⟨s, 0, none⟩), .int .i64 most] w fun r w' => ∃ A' c' F' g' v' l', r = .returned (.tuple #[.int .i64 r1, .slice A' n c']) ∧ Own layB 5 w' w.heap.size (.slice A' n c') ((buf.drop o).take n) ∧ SnX F' w' s A c g' v' l' una nx ed buf told done ∧ (∀ m, inB l' m = ((r1, r2) :: t).any (fun r => hasR (keepR r1 n r) m)) ∧ Kept F w w' ∧ (∀ y, F' y → F y ∨ w.heap.size ≤ y) ∧ ∀ y, (Value.slice A' n c').ownBlock = some y → ¬ F' y := by
  obtain ⟨m1, hm1⟩ : ∃ z, (if most < 1 then 1 else most) = z := ⟨_, rfl⟩
  obtain ⟨m2, hm2⟩ : ∃ z, (if 8 < m1 then 8 else m1) = z := ⟨_, rfl⟩
  have hm3 : m2 = min (max most 1) 8 := by rw [← hm2, ← hm1]; simp only [Int.min_def, Int.max_def]; split <;> split <;> split <;> split <;> omega
  have hok : 0 ≤ r1 ∧ 1 ≤ r2 ∧ r1 + r2 ≤ 4294967296 := h.tidy.ok (r1, r2) List.mem_cons_self
  rw [← hm3] at hn
  have hmn : (if m2 < r2 then m2 else r2) = (n : Int) := by rw [hn]; simp only [Int.min_def]; split <;> split <;> omega
  have hll := h.tidy.length_le
  have HRN := Lib.hid (runs_any gs _ (by omega) w h.set.set)
  have hkp : ∀ r ∈ (r1, r2) :: t, r.1 = r1 → (n : Int) ≤ r.2 := fun r hr e => by
    rcases List.mem_cons.mp hr with h1 | h1
    · subst h1
      show (n : Int) ≤ r2
      omega
    · have h2 := h.tidy.head r h1
      have h3 : r1 + r2 < r.1 := h2
      omega
  have HKP := Lib.hid hkp
  have H := Lib.hid h; have HON := Lib.hid hon; have HB := Lib.hid hb; have HR := Lib.hid hr
  have hn100 : (0 : Int) ≤ n ∧ (n : Int) ≤ 100 := by omega
  obtain ⟨ll, hlen⟩ : ∃ z, ((r1, r2) :: t).length = z := ⟨_, rfl⟩
  have HLL := Lib.hid hlen
  have hll1 : 1 ≤ ll := by rw [← hlen]; simp
  have gll : (ll : Int) > 0 := by omega
  have c0 : w.cell? ⟨s, 0, none⟩ = some (.pointer (some ⟨gs, 0, none⟩)) := h.box.cell 0
  clear h hon hb hr hn hkp hll hlen hm3
  go_enter Try.func52, Try.ntmps52
  go_wp2_with fail
  refine HRN.out.mono ?_
  rintro r w1 ⟨v1, rfl, o1, f1⟩
  obtain ⟨A1, c1, rfl, rs1, _⟩ := o1.form
  rw [HLL.out]
  obtain ⟨bb, oo, hbo, _, hc⟩ := rs1.at_ (k := 0) (x := (r1, r2)) rfl
  have d0 := hc 0 (.int .i64 r1) rfl
  have d1 := hc 1 (.int .i64 r2) rfl
  simp only [Nat.zero_mul, Nat.add_zero, Nat.zero_add] at d0 d1
  subst hbo
  have F1 := Lib.hid f1
  clear o1 rs1 f1 hc c0
  go_upto_region 6 with fail
  go_quiet (fail)
  have F2 := Lib.hid (F1.out.drewN nq)
  generalize w1.drewN nq = w2 at F2 ⊢
  clear d0 d1
  go_wp2_with fail
  refine (skeep_any r1 (n : Int) (by omega) hn100 HKP.out w2 (H.out.fine F2.out)).mono ?_
  rintro r w3 ⟨rfl, F3, g3, v3, l3, x3, m3, k3, hF3⟩
  have X3 := Lib.hid x3; have K3 := Lib.hid ((Kept.of_fine F2.out).trans k3 : Kept F w w3); have M3 := Lib.hid m3
  have Q3 : Hid (∀ y, F3 y → F y ∨ w.heap.size ≤ y) := Lib.hid (fun y hy => (hF3 y hy).imp id (fun h => Nat.le_trans F2.out.size h))
  clear x3 k3 m3 hF3
  have sz3 := K3.out.size
  go_wp2_with fail
  refine (sdata_any o n r1 HR.out HON.out HB.out w3 X3.out).mono ?_
  rintro r w4 ⟨A4, c4, rfl, o4, f4⟩
  have R := Lib.hid (And.intro (o4.lower sz3) (And.intro (X3.out.fine f4) (And.intro M3.out (And.intro (K3.out.trans (Kept.of_fine f4)) (And.intro Q3.out (fun y hy hf => by have h1 := X3.out.lt y hf; have h2 := (o4.lt y hy).1; omega : ∀ y, (Value.slice A4 n c4).ownBlock = some y → ¬ F3 y))))))
  clear o4 f4
  go_wp2_with fail
  exact bodyPost_ret (v := .tuple #[.int .i64 r1, .slice A4 n c4]) (by simp [results, Try.results52, go_sem]) rfl ⟨A4, c4, F3, g3, v3, l3, rfl, R.out⟩
end
end Go.Proofs.Ytnigfdldfmiaiaa
namespace Go.Proofs.Ytnigfdldfmiaiaa
set_option linter.unusedVariables false
set_option linter.unusedSimpArgs false
open Go.ChangeShapes Go.WideShapes Go.ChangeAt Go.RowKit Go.Maps
set_option linter.unusedVariables false
set_option linter.unusedSimpArgs false
section
variable {F : Nat → Prop} {w w' w1 : World} {s : Nat} {A : Option Addr} {c gs : Nat} {v : Value} {l : List Rn} {una nx ed : Int} {buf : List Int} {told done : Bool}
set_option maxHeartbeats 2000000 in
set_option maxRecDepth 20000 in
theorem stake_none (most n : Int) (hnb : 0 ≤ nx ∧ nx ≤ 1099511627776) (hn : n = min (min (una + buf.length - nx) (ed - nx)) (min (max most 1) 8)) (hn0 : n ≤ 0) (hb : 0 ≤ una ∧ una ≤ 1099511627776 ∧ buf.length ≤ 64) (hed : 0 ≤ ed ∧ ed ≤ 1099511627776) (w : World) (h : SnX F w s A c gs v [] una nx ed buf told done) :
    Calls Try.prog 52 #[.pointer (some ⟨s, 0, none⟩), .int .i64 most] w fun r w' => r = .returned (.tuple #[.int .i64 0, .slice none 0 0]) ∧ SnX F w' s A c gs v [] una nx ed buf told done ∧ Fine w w' := by
  obtain ⟨m1, hm1⟩ : ∃ z, (if most < 1 then 1 else most) = z := ⟨_, rfl⟩
  obtain ⟨m2, hm2⟩ : ∃ z, (if 8 < m1 then 8 else m1) = z := ⟨_, rfl⟩
  have hm3 : m2 = min (max most 1) 8 := by rw [← hm2, ← hm1]; simp only [Int.min_def, Int.max_def]; split <;> split <;> split <;> split <;> omega
  obtain ⟨la, hla⟩ : ∃ z, una + (buf.length : Int) = z := ⟨_, rfl⟩
  obtain ⟨a, ha⟩ : ∃ z, la - nx = z := ⟨_, rfl⟩
  obtain ⟨b, hb'⟩ : ∃ z, ed - nx = z := ⟨_, rfl⟩
  rw [← hm3, hla, ha, hb'] at hn
  obtain ⟨t, ht⟩ : ∃ z, (if b < a then b else a) = z := ⟨_, rfl⟩
  have ht2 : (if m2 < t then m2 else t) = n := by rw [hn, ← ht]; simp only [Int.min_def]; split <;> split <;> split <;> omega
  have e1 : IntKind.i64.wrap (la - nx) = a := by rw [ha]; exact IntWalk.i64_in _ (by omega)
  have e2 : IntKind.i64.wrap (ed - nx) = b := by rw [hb']; exact IntWalk.i64_in _ (by omega)
  have g0 : n ≤ 0 := hn0
  have H := Lib.hid h; have HB := Lib.hid hb
  have c0 : w.cell? ⟨s, 0, none⟩ = some (.pointer (some ⟨gs, 0, none⟩)) := h.box.cell 0
  have HLA : Hid (∀ w', Fine w w' → Calls Try.prog 84 #[.pointer (some ⟨s, 0, none⟩)] w' fun r w'' => r = .returned (.int .i64 la) ∧ Fine w' w'') := Lib.hid (fun w' f => by have := slast_any w' hb (h.fine f); rw [hla] at this; exact this)
  clear h hb hm3 hn hla ha hb' hn0
  go_enter Try.func52, Try.ntmps52
  go_wp2_with fail
  refine (runs_any gs [] (by simp) w H.out.set.set).mono ?_
  rintro r w1 ⟨v1, rfl, o1, f1⟩
  obtain ⟨A1, c1, rfl, _, _⟩ := o1.form
  have F1 := Lib.hid f1
  clear o1 f1 c0
  go_upto_region 9 with fail
  have q2 : ∀ p : FineBy w1, p.W.cell? ⟨s, 2, none⟩ = some (.int .i64 nx) := fun p => ((H.out.box.fine F1.out).fine p.h).cell 2
  have q3 : ∀ p : FineBy w1, p.W.cell? ⟨s, 3, none⟩ = some (.int .i64 ed) := fun p => ((H.out.box.fine F1.out).fine p.h).cell 3
  have QLA : Hid (∀ p : FineBy w1, Calls Try.prog 84 #[.pointer (some ⟨s, 0, none⟩)] p.W fun r w'' => r = .returned (.int .i64 la) ∧ Fine p.W w'') := Lib.hid (fun p => HLA.out p.W (F1.out.trans p.h))
  refine wp_region_quiet_fine (by kernel_rfl) (by kernel_rfl) ?_
  repeat (quiet_step (exact Calls.fine_of (QLA.out _)))
  refine wpQuiet_nil ?_
  intro wf hwf'
  have F2 := Lib.hid (F1.out.trans (FineBy.of hwf'))
  clear hwf' q2 q3 QLA HLA
  have X2 := Lib.hid (H.out.fine F2.out)
  go_wp2_with fail
  exact bodyPost_ret (v := .tuple #[.int .i64 0, .slice none 0 0]) (by simp [results, Try.results52, go_sem]) rfl ⟨rfl, X2.out, F2.out⟩
/-- The greatest acknowledgement that may be. -/
def mostV (told : Bool) (nx la : Int) : Int := if (told && nx == la) = true then nx + 1 else nx
set_option maxHeartbeats 1000000 in
set_option maxRecDepth 20000 in
theorem smost_any (hb : 0 ≤ una ∧ una ≤ 1099511627776 ∧ buf.length ≤ 64) (hnx : 0 ≤ nx ∧ nx ≤ 1099511627776) (w : World) (h : SnX F w s A c gs v l una nx ed buf told done) : Calls Try.prog 85 #[.pointer (some ⟨s, 0, none⟩)] w fun r w' => r = .returned (.int .i64 (mostV told nx (una + buf.length))) ∧ Fine w w' := by
  obtain ⟨la, hla⟩ : ∃ z, una + (buf.length : Int) = z := ⟨_, rfl⟩
  rw [hla]
  have H := Lib.hid h
  have q2 : ∀ p : FineBy w, p.W.cell? ⟨s, 2, none⟩ = some (.int .i64 nx) := fun p => (H.out.box.fine p.h).cell 2
  have QLA : Hid (∀ p : FineBy w, Calls Try.prog 84 #[.pointer (some ⟨s, 0, none⟩)] p.W fun r w'' => r = .returned (.int .i64 la) ∧ Fine p.W w'') := Lib.hid (fun p => by have := slast_any p.W hb (H.out.fine p.h); rw [hla] at this; exact this)
  have e1 : IntKind.i64.wrap (nx + 1) = nx + 1 := IntWalk.i64_in _ (by omega)
  clear h hla hb hnx
  cases told with
  | false =>
    have q5 : ∀ p : FineBy w, p.W.cell? ⟨s, 5, none⟩ = some (.bool false) := fun p => (H.out.box.fine p.h).cell 5
    have HV : Hid (mostV false nx la = nx) := Lib.hid (by unfold mostV; simp)
    go_enter Try.func85, Try.ntmps85
    go_upto_region 1 with fail
    refine wp_region_quiet_fine (by kernel_rfl) (by kernel_rfl) ?_
    repeat (quiet_step (exact Calls.fine_of (QLA.out _)))
    refine wpQuiet_nil ?_
    intro wf hwf'
    have hwf := Lib.hid (FineBy.of hwf')
    have c2 : wf.cell? ⟨s, 2, none⟩ = some (.int .i64 nx) := (H.out.box.fine hwf.out).cell 2
    clear hwf' q2 q5 QLA
    go_wp2_with fail
    go_ret
    exact ⟨by rw [HV.out]; rfl, hwf.out⟩
  | true =>
    have q5 : ∀ p : FineBy w, p.W.cell? ⟨s, 5, none⟩ = some (.bool true) := fun p => (H.out.box.fine p.h).cell 5
    by_cases hq : nx = la
    · have g : (nx == la) = true := by simpa using hq
      have HV : Hid (mostV true nx la = nx + 1) := Lib.hid (by unfold mostV; simp [hq])
      clear hq
      go_enter Try.func85, Try.ntmps85
      go_upto_region 1 with fail
      refine wp_region_quiet_fine (by kernel_rfl) (by kernel_rfl) ?_
      repeat (quiet_step (exact Calls.fine_of (QLA.out _)))
      refine wpQuiet_nil ?_
      intro wf hwf'
      have hwf := Lib.hid (FineBy.of hwf')
      have c2 : wf.cell? ⟨s, 2, none⟩ = some (.int .i64 nx) := (H.out.box.fine hwf.out).cell 2
      clear hwf' q2 q5 QLA
      go_wp2_with fail
      go_ret
      exact ⟨by rw [HV.out]; rfl, hwf.out⟩
    · have g : (nx == la) = false := by simpa using hq
      have HV : Hid (mostV true nx la = nx) := Lib.hid (by unfold mostV; simp [hq])
      clear hq
      go_enter Try.func85, Try.ntmps85
      go_upto_region 1 with fail
      refine wp_region_quiet_fine (by kernel_rfl) (by kernel_rfl) ?_
      repeat (quiet_step (exact Calls.fine_of (QLA.out _)))
      refine wpQuiet_nil ?_
      intro wf hwf'
      have hwf := Lib.hid (FineBy.of hwf')
      have c2 : wf.cell? ⟨s, 2, none⟩ = some (.int .i64 nx) := (H.out.box.fine hwf.out).cell 2
      clear hwf' q2 q5 QLA
      go_wp2_with fail
      go_ret
      exact ⟨by rw [HV.out]; rfl, hwf.out⟩
end
end Go.Proofs.Ytnigfdldfmiaiaa
namespace Go.Proofs.Ytnigfdldfmiaiaa
set_option linter.unusedVariables false
set_option linter.unusedSimpArgs false
open Go.ChangeShapes Go.WideShapes Go.ChangeAt Go.RowKit Go.Maps
set_option linter.unusedVariables false
set_option linter.unusedSimpArgs false
theorem cut3 {P : Program} {t e : TypeId} {n bytes : Nat} (T : SliceTy P t e n bytes) (A : Option Addr) (len c i0 j : Nat) (x : Int) (hx : x = (i0 : Int)) (h0 : i0 = 0) (hj : j ≤ len) (hc : len ≤ c) (w : World) :
    (Instr.sliceAt t (.slice A len c) (some (.int .i64 x)) (some (.int .i64 (j : Int))) (some (.int .i64 (len : Int)))).run P w = .ok (.slice A j len) w := by
  subst hx
  obtain ⟨i, hi, hz⟩ := Option.map_eq_some_iff.1 T.size
  simp only [Instr.sliceAt, Instr.slice, Sem.run_bind, run_underlying T.ht, Result.andThen_ok, Instr.sliceBounds, Sem.run_pure]
  rw [run_sliceBound (w := w) .i64 len c _ (by omega) (by omega)]
  simp only [Result.andThen_ok, Int.toNat_natCast]
  rw [run_sliceBound (w := w) .i64 j len _ (by omega) (by omega)]
  simp only [Result.andThen_ok, Int.toNat_natCast]
  rw [run_sliceBound (w := w) .i64 i0 j _ (by omega) (by omega)]
  subst h0
  simp [sizeOf, typeInfo, hi, hz, Result.andThen]
  intro _
  cases A with
  | none => rfl
  | some ad => simp [Addr.add]
theorem zeroB : ∀ w, (zeroValue 5).run Try.prog w = .ok (.int .u8 0) w := fun w => by kernel_rfl
theorem zeroBOne : ∀ v ∈ (Value.int .u8 0).cells, v.oneCell' = true := by
  intro v hv
  simp [Value.cells] at hv
  subst hv
  rfl
set_option maxHeartbeats 4000000 in
set_option maxRecDepth 20000 in
theorem deleteB_any (base : Nat) (A : Option Addr) (nb c n : Nat) (xs : List Int) (hx : xs.length = nb) (hn : n ≤ nb) (hnb : nb ≤ 100000) (w : World) (h : Own layB 5 w base (.slice A nb c) xs) :
    Calls Try.prog 86 #[.slice A nb c, .int .i64 0, .int .i64 (n : Int)] w fun r w' => r = .returned (.slice A (nb - n) c) ∧ Own layB 5 w' base (.slice A (nb - n) c) (xs.drop n) ∧ Kept (fun k => (Value.slice A nb c).ownBlock = some k) w w' := by
  have hc : nb ≤ c := by have := h.rs.1.1; omega
  have q3 := cut3 sliceB A nb c 0 n (0 : Int) rfl rfl hn hc
  by_cases h0 : n = 0
  · subst h0
    have H := Lib.hid h
    clear h
    go_enter Try.func86, Try.ntmps86
    go_wp2_with fail
    go_ret
    exact ⟨rfl, H.out, Kept.refl _ _⟩
  · have hz : ((0 : Int) == (n : Int)) = false := by simp; omega
    obtain ⟨g, cap, cur, e1, hbg, hbk, hle, hmax, hcs, htk⟩ := h.block (by omega)
    injection e1 with e1 hnx e3
    clear hnx
    subst e1 e3
    obtain ⟨p, hp, q1⟩ := cutB' sliceB g nb c n (n : Int) rfl hn hc
    have q2 := cutF sliceB g nb c 0 (0 : Int) rfl (by omega)
    obtain ⟨m, hm⟩ : ∃ z, nb - n = z := ⟨_, rfl⟩
    have hmc : m < c := by omega
    have hdl : (xs.drop n).length = m := by rw [List.length_drop]; omega
    have BK : Blk w.drew g 5 cur := hbk.drew
    have hLl : cur.toList.length = c := by rw [Array.length_toList, hcs, Nat.mul_one]
    have HSRC : Hid (∀ j v, (layB.flat (xs.drop n))[j]? = some v → w.drew.cell? ((⟨g, p, none⟩ : Addr).add j) = some v) := Lib.hid (fun j v hv => by
      rcases hp with ⟨h1, rfl⟩ | ⟨h1, rfl⟩
      · have h2 := cell_drop htk n hv
        have h3 := BK.cell (n * 1 + j)
        rw [← Array.getElem?_toList, h2] at h3
        rw [show (⟨g, n * 1, none⟩ : Addr).add j = ⟨g, n * 1 + j, none⟩ by simp [Addr.add]]
        exact h3
      · have : xs.drop n = [] := List.drop_eq_nil_of_le (by omega)
        rw [this] at hv
        simp [Lay.flat] at hv)
    rw [hm] at q1
    have q4 := cutM sliceB g m c m nb (m : Int) (nb : Int) rfl rfl (by omega) hc hmc
    rw [Nat.mul_one] at q4
    have KD : Hid (Kept (fun k => (Value.slice (some ⟨g, 0, none⟩) nb c).ownBlock = some k) w w.drew) := Lib.hid (Kept.refl _ _).drew
    have BKH := Lib.hid BK; have HCS := Lib.hid hcs; have HLL := Lib.hid hLl; have HDL := Lib.hid hdl; have HMX := Lib.hid hmax; have HBG := Lib.hid hbg; have HNM := Lib.hid hm
    have hmb : m ≤ nb ∧ nb - m + m = nb := by omega
    clear h hbk htk hle hcs hLl hdl hp BK hmax hbg hm hx hn
    go_enter Try.func86, Try.ntmps86
    go_upto_region 5 with fail
    go_still_tail 6, (by kernel_rfl)
    change wpList _ _ _ _ _ w.drew
    generalize w.drew = wd at BKH HSRC KD ⊢
    go_upto_region 6 with (at_builtin; refine wpList_appM rfl sliceB (.tmp 22) (.tmp 25) rfl BKH.out 0 c rfl ⟨g, p, none⟩ m (c - n) rfl (xs.drop n) HDL.out.symm HSRC.out (by omega) (by rw [HCS.out]; omega) ?_; intro wa ba ka)
    obtain ⟨wc, zs, hr3, hz3, bc, kc⟩ := run_clearM (n := 1) Try.underlying46 _ zeroB rfl zeroBOne ba m (nb - m) (by
      have h1 := HLL.out; have h2 := HDL.out
      rw [List.size_toArray, List.length_append, List.length_append, List.length_take, List.length_drop, layB.flat_length, h1, h2]
      omega)
    have hfl : (layB.flat (xs.drop n)).length = m := by rw [layB.flat_length, HDL.out, Nat.mul_one]
    simp only [Nat.zero_mul, Nat.mul_one, Nat.zero_add, List.take_zero, List.nil_append] at bc hz3
    rw [List.take_left' hfl] at bc
    have ho : Own layB 5 wc base (.slice (some ⟨g, 0, none⟩) (xs.drop n).length c) (xs.drop n) := Own.make HBG.out bc (by rw [HDL.out]; omega) HMX.out (by
      have h1 := HLL.out
      rw [List.size_toArray, List.length_append, List.length_append, List.length_drop, List.length_append, List.length_drop, hfl, hz3, h1]
      omega) (by
      rw [HDL.out, Nat.mul_one]
      simp only [List.append_assoc]
      exact List.take_left' hfl)
    rw [HDL.out] at ho
    have HO := Lib.hid ho
    have HK : Hid (Kept (fun k => (Value.slice (some ⟨g, 0, none⟩) nb c).ownBlock = some k) w wc) := Lib.hid (KD.out.trans ((ka.trans kc).mono (fun x _ e => by have e : x = g := e; rw [e]; rfl)))
    clear ho bc kc ka ba hfl hz3
    go_wp2_with fail
    go_ret
    rw [HNM.out]
    exact ⟨rfl, HO.out, HK.out⟩
end Go.Proofs.Ytnigfdldfmiaiaa
namespace Go.Proofs.Ytnigfdldfmiaiaa
set_option linter.unusedVariables false
set_option linter.unusedSimpArgs false
open Go.ChangeShapes Go.WideShapes Go.ChangeAt Go.RowKit Go.Maps
set_option linter.unusedVariables false
set_option linter.unusedSimpArgs false
section
variable {F : Nat → Prop} {w w' w1 : World} {s : Nat} {A : Option Addr} {c gs : Nat} {v : Value} {l : List Rn} {una nx ed : Int} {buf : List Int} {told done : Bool}
theorem SnX.setUna (h : SnX F w s A c gs v l una nx ed buf told done) (m : Int) : SnX F (w.setCell ⟨s, 1, none⟩ (.int .i64 m)) s A c gs v l m nx ed buf told done := by
  have k : Kept (· = s) w (w.setCell ⟨s, 1, none⟩ (.int .i64 m)) := (Kept.refl (· = s) w).setIn (p := ⟨s, 1, none⟩) rfl _
  exact ⟨h.box.set_ 1 (.int .i64 m), h.own.kept k (fun x hx e => (h.ne_am x hx).1 e), h.set.kept k h.ne_g (fun x hx e => (h.ne_v x hx).1 e), h.tidy, h.fg, h.fs, h.fa, h.fv, fun x hx => Nat.lt_of_lt_of_le (h.lt x hx) k.size⟩
theorem SnX.setEd (h : SnX F w s A c gs v l una nx ed buf told done) (m : Int) : SnX F (w.setCell ⟨s, 3, none⟩ (.int .i64 m)) s A c gs v l una nx m buf told done := by
  have k : Kept (· = s) w (w.setCell ⟨s, 3, none⟩ (.int .i64 m)) := (Kept.refl (· = s) w).setIn (p := ⟨s, 3, none⟩) rfl _
  exact ⟨h.box.set_ 3 (.int .i64 m), h.own.kept k (fun x hx e => (h.ne_am x hx).1 e), h.set.kept k h.ne_g (fun x hx e => (h.ne_v x hx).1 e), h.tidy, h.fg, h.fs, h.fa, h.fv, fun x hx => Nat.lt_of_lt_of_le (h.lt x hx) k.size⟩
theorem SnX.setDone (h : SnX F w s A c gs v l una nx ed buf told done) (m : Bool) : SnX F (w.setCell ⟨s, 6, none⟩ (.bool m)) s A c gs v l una nx ed buf told m := by
  have k : Kept (· = s) w (w.setCell ⟨s, 6, none⟩ (.bool m)) := (Kept.refl (· = s) w).setIn (p := ⟨s, 6, none⟩) rfl _
  exact ⟨h.box.set_ 6 (.bool m), h.own.kept k (fun x hx e => (h.ne_am x hx).1 e), h.set.kept k h.ne_g (fun x hx e => (h.ne_v x hx).1 e), h.tidy, h.fg, h.fs, h.fa, h.fv, fun x hx => Nat.lt_of_lt_of_le (h.lt x hx) k.size⟩
theorem SnX.setTold (h : SnX F w s A c gs v l una nx ed buf told done) (m : Bool) : SnX F (w.setCell ⟨s, 5, none⟩ (.bool m)) s A c gs v l una nx ed buf m done := by
  have k : Kept (· = s) w (w.setCell ⟨s, 5, none⟩ (.bool m)) := (Kept.refl (· = s) w).setIn (p := ⟨s, 5, none⟩) rfl _
  exact ⟨h.box.set_ 5 (.bool m), h.own.kept k (fun x hx e => (h.ne_am x hx).1 e), h.set.kept k h.ne_g (fun x hx e => (h.ne_v x hx).1 e), h.tidy, h.fg, h.fs, h.fa, h.fv, fun x hx => Nat.lt_of_lt_of_le (h.lt x hx) k.size⟩
/-- What Ack answers where the number may not be. -/
theorem sack_bad (ack win : Int) (hbad : ack < una ∨ mostV told nx (una + buf.length) < ack ∨ win < 0 ∨ 65535 < win) (hb : 0 ≤ una ∧ una ≤ 1099511627776 ∧ buf.length ≤ 64) (hnx : 0 ≤ nx ∧ nx ≤ 1099511627776) (w : World) (h : SnX F w s A c gs v l una nx ed buf told done) :
    Calls Try.prog 53 #[.pointer (some ⟨s, 0, none⟩), .int .i64 ack, .int .i64 win] w fun r w' => r = .returned (.tuple #[.int .i64 0, .bool false]) ∧ Fine w w' := by
  have c1 : w.cell? ⟨s, 1, none⟩ = some (.int .i64 una) := h.box.cell 1
  have HM := Lib.hid (smost_any hb hnx w h)
  obtain ⟨mo, hmo⟩ : ∃ z, mostV told nx (una + buf.length) = z := ⟨_, rfl⟩
  rw [hmo] at HM hbad
  clear h hmo
  by_cases g1 : ack < una
  · go_enter Try.func53, Try.ntmps53
    go_wp2_with fail
    exact bodyPost_ret (v := .tuple #[.int .i64 0, .bool false]) (by simp [results, Try.results53, go_sem]) rfl ⟨rfl, Fine.refl w⟩
  · go_enter Try.func53, Try.ntmps53
    go_wp2_with fail
    refine HM.out.mono ?_
    rintro r w1 ⟨rfl, f1⟩
    have F1 := Lib.hid f1
    clear f1
    by_cases g2 : mo < ack
    · have g2' : ack > mo := g2
      go_wp2_with fail
      exact bodyPost_ret (v := .tuple #[.int .i64 0, .bool false]) (by simp [results, Try.results53, go_sem]) rfl ⟨rfl, F1.out⟩
    · have g2' : ¬ ack > mo := g2
      by_cases g3 : win < 0
      · go_wp2_with fail
        exact bodyPost_ret (v := .tuple #[.int .i64 0, .bool false]) (by simp [results, Try.results53, go_sem]) rfl ⟨rfl, F1.out⟩
      · have g4 : win > 65535 := by omega
        go_wp2_with fail
        exact bodyPost_ret (v := .tuple #[.int .i64 0, .bool false]) (by simp [results, Try.results53, go_sem]) rfl ⟨rfl, F1.out⟩
def SackOf (F : Nat → Prop) (s : Nat) (A : Option Addr) (c gs : Nat) (v : Value) (l : List Rn) (una nx : Int) (n : Nat) (ed2 : Int) (buf : List Int) (told done2 : Bool) (w : World) (r : Ending) (w' : World) : Prop :=
  ∃ F' v', r = .returned (.tuple #[.int .i64 (n : Int), .bool true]) ∧ SnX F' w' s A c gs v' (dropL l (una + n)) (una + n) nx ed2 (buf.drop n) told done2 ∧ Kept F w w' ∧ ∀ y, F' y → F y ∨ w.heap.size ≤ y
set_option maxHeartbeats 4000000 in
set_option maxRecDepth 20000 in
theorem sack_low (ack win : Int) (n : Nat) (hn : ack = una + n) (hnn : n ≤ buf.length) (hmo : ack ≤ mostV told nx (una + buf.length)) (hw : 0 ≤ win ∧ win ≤ 65535) (hb : 0 ≤ una ∧ una ≤ 1099511627776 ∧ buf.length ≤ 64) (hnx : 0 ≤ nx ∧ nx ≤ 1099511627776) (hed : 0 ≤ ed ∧ ed ≤ 1099511627776) (w : World) (h : SnX F w s A c gs v l una nx ed buf told done) :
    Calls Try.prog 53 #[.pointer (some ⟨s, 0, none⟩), .int .i64 ack, .int .i64 win] w (SackOf F s A c gs v l una nx n (max ed (ack + win)) buf told done w) := by
  have c1 : w.cell? ⟨s, 1, none⟩ = some (.int .i64 una) := h.box.cell 1
  have HM := Lib.hid (smost_any hb hnx w h)
  obtain ⟨mo, hmo'⟩ : ∃ z, mostV told nx (una + buf.length) = z := ⟨_, rfl⟩
  rw [hmo'] at HM hmo
  obtain ⟨nb, hnb⟩ : ∃ z, buf.length = z := ⟨_, rfl⟩
  obtain ⟨la, hla⟩ : ∃ z, una + (nb : Int) = z := ⟨_, rfl⟩
  have HLA : Hid (∀ w' ed', SnX F w' s A c gs v l una nx ed' buf told done → Calls Try.prog 84 #[.pointer (some ⟨s, 0, none⟩)] w' fun r w'' => r = .returned (.int .i64 la) ∧ Fine w' w'') := Lib.hid (fun w' ed' h' => by have := slast_any w' hb h'; rw [hnb, hla] at this; exact this)
  obtain ⟨aw, haw⟩ : ∃ z, ack + win = z := ⟨_, rfl⟩
  obtain ⟨e2, he2⟩ : ∃ z, (if ed < aw then aw else ed) = z := ⟨_, rfl⟩
  have HE2 : Hid (max ed (ack + win) = e2) := Lib.hid (by rw [← he2, haw]; simp only [Int.max_def]; split <;> split <;> omega)
  have e1 : IntKind.i64.wrap (ack + win) = aw := by rw [haw]; exact IntWalk.i64_in _ (by omega)
  have e3 : IntKind.i64.wrap (ack - una) = (n : Int) := by rw [show ack - una = (n : Int) by omega]; exact IntWalk.i64_in _ (by omega)
  rw [hnb] at hnn hb
  have H := Lib.hid h; have HNB := Lib.hid hnb
  obtain ⟨a2, ha2⟩ : ∃ z, z = ack := ⟨_, rfl⟩
  have HA2 : Hid (a2 = una + (n : Int)) := Lib.hid (by omega)
  have g1 : ¬ ack < una := by omega
  have g2 : ¬ ack > mo := by omega
  have g3 : ¬ win < 0 := by omega
  have g4 : ¬ win > 65535 := by omega
  have g5 : ¬ ack > la := by omega
  have hab : 0 ≤ ack ∧ ack ≤ 1099511627840 := by omega
  clear h hnb hmo' haw hmo hla hn
  rw [HE2.out]
  go_enter Try.func53, Try.ntmps53
  go_wp2_with fail
  refine HM.out.mono ?_
  rintro r w1 ⟨rfl, f1⟩
  have X1 := Lib.hid (H.out.fine f1); have F1 := Lib.hid f1
  have c3 : w1.cell? ⟨s, 3, none⟩ = some (.int .i64 ed) := X1.out.box.cell 3
  have z3 := X1.out.box.frozen 3
  clear f1 c1
  go_upto_region 4 with fail
  have X2 := Lib.hid (X1.out.setEd e2)
  have K2 : Hid (Kept F w (w1.setCell ⟨s, 3, none⟩ (.int .i64 e2))) := Lib.hid ((Kept.of_fine F1.out).setIn (p := ⟨s, 3, none⟩) X1.out.fg _)
  generalize w1.setCell ⟨s, 3, none⟩ (.int .i64 e2) = w2 at X2 K2 ⊢
  clear c3 z3
  go_wp2_with fail
  refine (HLA.out w2 e2 X2.out).mono ?_
  rintro r w5 ⟨rfl, f5⟩
  have X5 := Lib.hid (X2.out.fine f5); have K5 := Lib.hid (K2.out.trans (Kept.of_fine f5))
  clear f5 he2
  subst ha2
  have c4 : w5.cell? ⟨s, 4, none⟩ = some (.slice A nb c) := by have := X5.out.box.cell 4; rw [HNB.out] at this; exact this
  have c1 : w5.cell? ⟨s, 1, none⟩ = some (.int .i64 una) := X5.out.box.cell 1
  have HDEL := Lib.hid (deleteB_any 0 A nb c n buf HNB.out (by omega) (by omega) w5 (by have := X5.out.own; rw [HNB.out] at this; exact this))
  go_wp2_with fail
  refine HDEL.out.mono ?_
  rintro r w6 ⟨rfl, o6, k6⟩
  have k6' : Kept (fun y => (Value.slice A buf.length c).ownBlock = some y) w5 w6 := by rw [HNB.out]; exact k6
  have hdl : nb - n = (buf.drop n).length := by rw [List.length_drop, HNB.out]
  have X6 := X5.out.wrote (n2 := nb - n) (A2 := A) (c2 := c) (b2 := buf.drop n) k6' hdl o6 (.inl (by unfold Value.ownBlock; rcases A with _ | ⟨b, _ | k, _ | p⟩ <;> rfl))
  have K6 : Kept F w (w6.setCell ⟨s, 4, none⟩ (.slice A (nb - n) c)) := (K5.out.trans (k6'.mono (fun y _ e => X5.out.fa y e))).setIn (p := ⟨s, 4, none⟩) X5.out.fg _
  have b6 := X5.out.box.kept k6' (fun e => (X5.out.ne_am s e).1 rfl)
  have d4 := b6.cell 4
  have z4 := b6.frozen 4
  have G6 : ∀ y, Grew F w5 w6 y → F y ∨ w.heap.size ≤ y := fun y hy => hy.imp id (fun h => Nat.le_trans K5.out.size h.1)
  have X6H := Lib.hid X6; have K6H := Lib.hid K6; have G6H := Lib.hid G6
  clear X6 K6 G6 k6 k6' o6 b6 hdl c4 c1
  go_upto_region 9 with fail
  generalize w6.setCell ⟨s, 4, none⟩ (.slice A (nb - n) c) = w7 at X6H K6H ⊢
  have z1 := X6H.out.box.frozen 1
  have d1 : w7.cell? ⟨s, 1, none⟩ = some (.int .i64 una) := X6H.out.box.cell 1
  clear d4 z4
  go_upto_region 10 with fail
  have X8 := Lib.hid (X6H.out.setUna a2)
  have K8 : Hid (Kept F w (w7.setCell ⟨s, 1, none⟩ (.int .i64 a2))) := Lib.hid (K6H.out.setIn (p := ⟨s, 1, none⟩) (X5.out.fg) _)
  have sz8 : w7.heap.size ≤ (w7.setCell ⟨s, 1, none⟩ (.int .i64 a2)).heap.size := ((Kept.refl (· = s) w7).setIn (p := ⟨s, 1, none⟩) rfl (.int .i64 a2)).size
  generalize w7.setCell ⟨s, 1, none⟩ (.int .i64 a2) = w8 at X8 K8 sz8 ⊢
  clear z1 d1
  have d0 : w8.cell? ⟨s, 0, none⟩ = some (.pointer (some ⟨gs, 0, none⟩)) := X8.out.box.cell 0
  go_wp2_with fail
  refine (drop_any 0 gs v l X8.out.tidy a2 (by omega) w8 (Nat.zero_le _) X8.out.set).mono ?_
  rintro r w9 ⟨v9, rfl, s9, k9, h9⟩
  have X9 := X8.out.came k9 s9 (drop_law X8.out.tidy a2).1 h9
  have sz9 := K8.out.size
  have K9 : Kept F w w9 := K8.out.transG k9 (fun _ _ h => h) (fun y hy e => by
    have h1 : Grew F w5 w6 y := e.elim (fun e => e ▸ X8.out.fs) (fun e => X8.out.fv y e)
    exact (G6H.out y h1).elim id (fun h => by omega))
  have R := Lib.hid (And.intro X9 (And.intro K9 (fun y hy => hy.elim (G6H.out y) (fun h => .inr (Nat.le_trans sz9 h.1)) : ∀ y, Grew (Grew F w5 w6) w8 w9 y → F y ∨ w.heap.size ≤ y)))
  clear X9 K9 s9 k9 h9 d0
  rw [HA2.out] at R
  go_wp2_with fail
  exact bodyPost_ret (v := .tuple #[.int .i64 (n : Int), .bool true]) (by simp [results, Try.results53, go_sem]) rfl ⟨_, v9, rfl, R.out⟩
set_option maxHeartbeats 4000000 in
set_option maxRecDepth 20000 in
theorem sack_high (ack win : Int) (n : Nat) (hnl : n = buf.length) (hgt : una + buf.length < ack) (hmo : ack ≤ mostV told nx (una + buf.length)) (hw : 0 ≤ win ∧ win ≤ 65535) (hb : 0 ≤ una ∧ una ≤ 1099511627776 ∧ buf.length ≤ 64) (hnx : 0 ≤ nx ∧ nx ≤ 1099511627776) (hed : 0 ≤ ed ∧ ed ≤ 1099511627776) (w : World) (h : SnX F w s A c gs v l una nx ed buf told done) :
    Calls Try.prog 53 #[.pointer (some ⟨s, 0, none⟩), .int .i64 ack, .int .i64 win] w (SackOf F s A c gs v l una nx n (max ed (ack + win)) buf told true w) := by
  have c1 : w.cell? ⟨s, 1, none⟩ = some (.int .i64 una) := h.box.cell 1
  have HM := Lib.hid (smost_any hb hnx w h)
  obtain ⟨mo, hmo'⟩ : ∃ z, mostV told nx (una + buf.length) = z := ⟨_, rfl⟩
  rw [hmo'] at HM hmo
  obtain ⟨nb, hnb⟩ : ∃ z, buf.length = z := ⟨_, rfl⟩
  obtain ⟨la, hla⟩ : ∃ z, una + (nb : Int) = z := ⟨_, rfl⟩
  have HLA : Hid (∀ w' ed', ∀ dn, SnX F w' s A c gs v l una nx ed' buf told dn → Calls Try.prog 84 #[.pointer (some ⟨s, 0, none⟩)] w' fun r w'' => r = .returned (.int .i64 la) ∧ Fine w' w'') := Lib.hid (fun w' ed' dn h' => by have := slast_any w' hb h'; rw [hnb, hla] at this; exact this)
  obtain ⟨aw, haw⟩ : ∃ z, ack + win = z := ⟨_, rfl⟩
  obtain ⟨e2, he2⟩ : ∃ z, (if ed < aw then aw else ed) = z := ⟨_, rfl⟩
  have HE2 : Hid (max ed (ack + win) = e2) := Lib.hid (by rw [← he2, haw]; simp only [Int.max_def]; split <;> split <;> omega)
  have hmv0 : ack ≤ nx + 1 := by
    rw [← hmo'] at hmo
    unfold mostV at hmo
    split at hmo <;> omega
  have e1 : IntKind.i64.wrap (ack + win) = aw := by rw [haw]; exact IntWalk.i64_in _ (by omega)
  have e3 : IntKind.i64.wrap (la - una) = (n : Int) := by rw [show la - una = (n : Int) by omega]; exact IntWalk.i64_in _ (by omega)
  rw [hnb] at hb hnl hgt
  have H := Lib.hid h; have HNB := Lib.hid hnb
  obtain ⟨a2, ha2⟩ : ∃ z, z = la := ⟨_, rfl⟩
  have HA2 : Hid (a2 = una + (n : Int)) := Lib.hid (by omega)
  have g1 : ¬ ack < una := by omega
  have g2 : ¬ ack > mo := by omega
  have g3 : ¬ win < 0 := by omega
  have g4 : ¬ win > 65535 := by omega
  have g5 : ack > la := by omega
  have hmv : ack ≤ nx + 1 := by
    rw [← hmo'] at hmo
    unfold mostV at hmo
    split at hmo <;> omega
  have hab : 0 ≤ la ∧ la ≤ 1099511627840 := by omega
  have hnn : n ≤ nb := by omega
  clear h hnb hmo' haw hmo hla hnl hgt hmv hmv0
  rw [HE2.out]
  go_enter Try.func53, Try.ntmps53
  go_wp2_with fail
  refine HM.out.mono ?_
  rintro r w1 ⟨rfl, f1⟩
  have X1 := Lib.hid (H.out.fine f1); have F1 := Lib.hid f1
  have c3 : w1.cell? ⟨s, 3, none⟩ = some (.int .i64 ed) := X1.out.box.cell 3
  have z3 := X1.out.box.frozen 3
  clear f1 c1
  go_upto_region 4 with fail
  have X2 := Lib.hid (X1.out.setEd e2)
  have K2 : Hid (Kept F w (w1.setCell ⟨s, 3, none⟩ (.int .i64 e2))) := Lib.hid ((Kept.of_fine F1.out).setIn (p := ⟨s, 3, none⟩) X1.out.fg _)
  generalize w1.setCell ⟨s, 3, none⟩ (.int .i64 e2) = w2 at X2 K2 ⊢
  clear c3 z3
  go_wp2_with fail
  refine (HLA.out w2 e2 done X2.out).mono ?_
  rintro r w3 ⟨rfl, f3⟩
  have X3 := Lib.hid (X2.out.fine f3); have K3 := Lib.hid (K2.out.trans (Kept.of_fine f3))
  have c6 : w3.cell? ⟨s, 6, none⟩ = some (.bool done) := X3.out.box.cell 6
  have z6 := X3.out.box.frozen 6
  clear f3
  go_upto_region 6 with fail
  have X4 := Lib.hid (X3.out.setDone true)
  have K4 : Hid (Kept F w (w3.setCell ⟨s, 6, none⟩ (.bool true))) := Lib.hid (K3.out.setIn (p := ⟨s, 6, none⟩) X3.out.fg _)
  generalize w3.setCell ⟨s, 6, none⟩ (.bool true) = w4 at X4 K4 ⊢
  clear c6 z6
  go_wp2_with fail
  refine (HLA.out w4 e2 true X4.out).mono ?_
  rintro r w5 ⟨rfl, f5⟩
  have X5 := Lib.hid (X4.out.fine f5); have K5 := Lib.hid (K4.out.trans (Kept.of_fine f5))
  clear f5 he2
  subst ha2
  have c4 : w5.cell? ⟨s, 4, none⟩ = some (.slice A nb c) := by have := X5.out.box.cell 4; rw [HNB.out] at this; exact this
  have c1 : w5.cell? ⟨s, 1, none⟩ = some (.int .i64 una) := X5.out.box.cell 1
  have HDEL := Lib.hid (deleteB_any 0 A nb c n buf HNB.out (by omega) (by omega) w5 (by have := X5.out.own; rw [HNB.out] at this; exact this))
  go_wp2_with fail
  refine HDEL.out.mono ?_
  rintro r w6 ⟨rfl, o6, k6⟩
  have k6' : Kept (fun y => (Value.slice A buf.length c).ownBlock = some y) w5 w6 := by rw [HNB.out]; exact k6
  have hdl : nb - n = (buf.drop n).length := by rw [List.length_drop, HNB.out]
  have X6 := X5.out.wrote (n2 := nb - n) (A2 := A) (c2 := c) (b2 := buf.drop n) k6' hdl o6 (.inl (by unfold Value.ownBlock; rcases A with _ | ⟨b, _ | k, _ | p⟩ <;> rfl))
  have K6 : Kept F w (w6.setCell ⟨s, 4, none⟩ (.slice A (nb - n) c)) := (K5.out.trans (k6'.mono (fun y _ e => X5.out.fa y e))).setIn (p := ⟨s, 4, none⟩) X5.out.fg _
  have b6 := X5.out.box.kept k6' (fun e => (X5.out.ne_am s e).1 rfl)
  have d4 := b6.cell 4
  have z4 := b6.frozen 4
  have G6 : ∀ y, Grew F w5 w6 y → F y ∨ w.heap.size ≤ y := fun y hy => hy.imp id (fun h => Nat.le_trans K5.out.size h.1)
  have X6H := Lib.hid X6; have K6H := Lib.hid K6; have G6H := Lib.hid G6
  clear X6 K6 G6 k6 k6' o6 b6 hdl c4 c1
  go_upto_region 9 with fail
  generalize w6.setCell ⟨s, 4, none⟩ (.slice A (nb - n) c) = w7 at X6H K6H ⊢
  have z1 := X6H.out.box.frozen 1
  have d1 : w7.cell? ⟨s, 1, none⟩ = some (.int .i64 una) := X6H.out.box.cell 1
  clear d4 z4
  go_upto_region 10 with fail
  have X8 := Lib.hid (X6H.out.setUna a2)
  have K8 : Hid (Kept F w (w7.setCell ⟨s, 1, none⟩ (.int .i64 a2))) := Lib.hid (K6H.out.setIn (p := ⟨s, 1, none⟩) (X5.out.fg) _)
  have sz8 : w7.heap.size ≤ (w7.setCell ⟨s, 1, none⟩ (.int .i64 a2)).heap.size := ((Kept.refl (· = s) w7).setIn (p := ⟨s, 1, none⟩) rfl (.int .i64 a2)).size
  generalize w7.setCell ⟨s, 1, none⟩ (.int .i64 a2) = w8 at X8 K8 sz8 ⊢
  clear z1 d1
  have d0 : w8.cell? ⟨s, 0, none⟩ = some (.pointer (some ⟨gs, 0, none⟩)) := X8.out.box.cell 0
  go_wp2_with fail
  refine (drop_any 0 gs v l X8.out.tidy a2 (by omega) w8 (Nat.zero_le _) X8.out.set).mono ?_
  rintro r w9 ⟨v9, rfl, s9, k9, h9⟩
  have X9 := X8.out.came k9 s9 (drop_law X8.out.tidy a2).1 h9
  have sz9 := K8.out.size
  have K9 : Kept F w w9 := K8.out.transG k9 (fun _ _ h => h) (fun y hy e => by
    have h1 : Grew F w5 w6 y := e.elim (fun e => e ▸ X8.out.fs) (fun e => X8.out.fv y e)
    exact (G6H.out y h1).elim id (fun h => by omega))
  have R := Lib.hid (And.intro X9 (And.intro K9 (fun y hy => hy.elim (G6H.out y) (fun h => .inr (Nat.le_trans sz9 h.1)) : ∀ y, Grew (Grew F w5 w6) w8 w9 y → F y ∨ w.heap.size ≤ y)))
  clear X9 K9 s9 k9 h9 d0
  rw [HA2.out] at R
  go_wp2_with fail
  exact bodyPost_ret (v := .tuple #[.int .i64 (n : Int), .bool true]) (by simp [results, Try.results53, go_sem]) rfl ⟨_, v9, rfl, R.out⟩
end
end Go.Proofs.Ytnigfdldfmiaiaa
namespace Go.Proofs.Ytnigfdldfmiaiaa
set_option linter.unusedVariables false
set_option linter.unusedSimpArgs false
open Go.ChangeShapes Go.WideShapes Go.ChangeAt Go.RowKit Go.Maps
set_option linter.unusedVariables false
set_option linter.unusedSimpArgs false
section
variable {F : Nat → Prop} {w w' w1 : World} {s : Nat} {A : Option Addr} {c gs : Nat} {v : Value} {l : List Rn} {una nx ed : Int} {buf : List Int} {told done : Bool}
theorem suna_any (w : World) (h : SnX F w s A c gs v l una nx ed buf told done) : Calls Try.prog 56 #[.pointer (some ⟨s, 0, none⟩)] w fun r w' => r = .returned (.int .i64 una) ∧ Fine w w' := by
  have c1 : w.cell? ⟨s, 1, none⟩ = some (.int .i64 una) := h.box.cell 1
  clear h
  go_enter Try.func56, Try.ntmps56
  go_wp2_with fail
  go_ret
  exact ⟨rfl, Fine.refl w⟩
theorem sunext_any (w : World) (h : SnX F w s A c gs v l una nx ed buf told done) : Calls Try.prog 54 #[.pointer (some ⟨s, 0, none⟩)] w fun r w' => r = .returned (.int .i64 nx) ∧ Fine w w' := by
  have c2 : w.cell? ⟨s, 2, none⟩ = some (.int .i64 nx) := h.box.cell 2
  clear h
  go_enter Try.func54, Try.ntmps54
  go_wp2_with fail
  go_ret
  exact ⟨rfl, Fine.refl w⟩
theorem suedge_any (w : World) (h : SnX F w s A c gs v l una nx ed buf told done) : Calls Try.prog 57 #[.pointer (some ⟨s, 0, none⟩)] w fun r w' => r = .returned (.int .i64 ed) ∧ Fine w w' := by
  have c3 : w.cell? ⟨s, 3, none⟩ = some (.int .i64 ed) := h.box.cell 3
  clear h
  go_enter Try.func57, Try.ntmps57
  go_wp2_with fail
  go_ret
  exact ⟨rfl, Fine.refl w⟩
theorem suheld_any (w : World) (h : SnX F w s A c gs v l una nx ed buf told done) : Calls Try.prog 59 #[.pointer (some ⟨s, 0, none⟩)] w fun r w' => r = .returned (.int .i64 buf.length) ∧ Fine w w' := by
  obtain ⟨nb, hnb⟩ : ∃ z, buf.length = z := ⟨_, rfl⟩
  have c4 : w.cell? ⟨s, 4, none⟩ = some (.slice A nb c) := by have := h.box.cell 4; rw [hnb] at this; exact this
  rw [hnb]
  clear h hnb
  go_enter Try.func59, Try.ntmps59
  go_wp2_with fail
  go_ret
  exact ⟨rfl, Fine.refl w⟩
theorem sudone_any (w : World) (h : SnX F w s A c gs v l una nx ed buf told done) : Calls Try.prog 62 #[.pointer (some ⟨s, 0, none⟩)] w fun r w' => r = .returned (.bool done) ∧ Fine w w' := by
  have c6 : w.cell? ⟨s, 6, none⟩ = some (.bool done) := h.box.cell 6
  clear h
  cases done
  · go_enter Try.func62, Try.ntmps62
    go_wp2_with fail
    go_ret
    exact ⟨rfl, Fine.refl w⟩
  · go_enter Try.func62, Try.ntmps62
    go_wp2_with fail
    go_ret
    exact ⟨rfl, Fine.refl w⟩
theorem suend_any (w : World) (h : SnX F w s A c gs v l una nx ed buf told done) : Calls Try.prog 60 #[.pointer (some ⟨s, 0, none⟩)] w fun r w' => r = .returned (.int .i64 (if told = true then 8 else 0)) ∧ SnX F w' s A c gs v l una nx ed buf true done ∧ Kept F w w' := by
  have c5 : w.cell? ⟨s, 5, none⟩ = some (.bool told) := h.box.cell 5
  have z5 := h.box.frozen 5
  have H := Lib.hid h
  clear h
  cases told
  · go_enter Try.func60, Try.ntmps60
    go_wp2_with fail
    go_ret
    exact ⟨rfl, H.out.setTold true, (Kept.refl F w).setIn (p := ⟨s, 5, none⟩) H.out.fg _⟩
  · go_enter Try.func60, Try.ntmps60
    go_wp2_with fail
    go_ret
    exact ⟨rfl, H.out, Kept.refl F w⟩
end
end Go.Proofs.Ytnigfdldfmiaiaa
