/- The law's own same: the receiver and the document's answer alike. -/
import Derived.Test.YtnigfdldfmiaiaaDrv15
namespace Go.Proofs.Ytnigfdldfmiaiaa
open Go.ChangeShapes Go.WideShapes Go.ChangeAt Go.RowKit Go.Maps
set_option linter.unusedVariables false
set_option linter.unusedSimpArgs false
set_option maxHeartbeats 4000000 in
set_option maxRecDepth 20000 in
theorem resame_any {F G : Nat → Prop} {g x : Nat} {In : Int → Bool} {B : Int → Int} {rd nx e : Int} {mz k : Nat} (hk : k ≤ 1000000) (w : World) (hs : RcS F w g In B rd nx e mz) (h : ReS G w x In B rd e k) :
    Calls Try.prog 47 #[.pointer (some ⟨g, 0, none⟩), .pointer (some ⟨x, 0, none⟩)] w fun r w' => r = .returned (.bool true) ∧ Fine w w' := by
  have hi := hs.inv
  have hrn := hi.rn; have hr0 := hi.r0; have hbig := hi.big; have hen := hi.en; have hnr := hi.nr
  have HNX := Lib.hid (fun w' (f : Fine w w') => renext_any (nx := nx) w' (by omega) hi.low hi.no hk (h.fine f))
  have HED := Lib.hid (fun w' (f : Fine w w') => reedge_any w' (by omega) (h.fine f))
  have HAK := Lib.hid (fun w' (f : Fine w w') => ack_any w' (hs.fine f))
  have HEN := Lib.hid (fun w' (f : Fine w w') => ended_any w' (hs.fine f))
  have HWN := Lib.hid (fun w' (f : Fine w w') => win_any w' (hs.fine f))
  have HRD := Lib.hid (fun w' (f : Fine w w') => ready_any w' (hs.fine f))
  have HS := Lib.hid hs; have H := Lib.hid h
  obtain ⟨ed, hed⟩ : ∃ z, rd + 33 = z := ⟨_, rfl⟩
  obtain ⟨wv, hwv⟩ : ∃ z, ed - nx = z := ⟨_, rfl⟩
  obtain ⟨n1, hn1⟩ : ∃ z, nx - 1 = z := ⟨_, rfl⟩
  obtain ⟨rv, hrv⟩ : ∃ z, n1 - rd = z := ⟨_, rfl⟩
  obtain ⟨a, ha⟩ : ∃ z, ackV e nx = z := ⟨_, rfl⟩
  rw [show rd + 33 - nx = wv by omega] at HWN
  rw [show nx - 1 - rd = rv by omega] at HRD
  rw [hed] at HED
  rw [ha] at HAK
  have e1 : IntKind.i64.wrap (ed - nx) = wv := by rw [hwv]; exact IntWalk.i64_in _ (by omega)
  have e2 : IntKind.i64.wrap (nx - 1) = n1 := by rw [hn1]; exact IntWalk.i64_in _ (by omega)
  have e3 : IntKind.i64.wrap (n1 - rd) = rv := by rw [hrv]; exact IntWalk.i64_in _ (by omega)
  have e4 : IntKind.i64.wrap (nx + 1) = nx + 1 := IntWalk.i64_in _ (by omega)
  have g1 : (a == a) = true := by simp
  have g2 : (wv == wv) = true := by simp
  have g3 : (rv == rv) = true := by simp
  have HA := Lib.hid ha
  clear hs h hi hed hwv hn1 hrv ha hen hrn hr0 hbig hnr
  go_enter Try.func47, Try.ntmps47
  go_wp2_with fail
  refine (HNX.out w (Fine.refl w)).mono ?_
  rintro r w2 ⟨rfl, f2⟩
  have F2 := Lib.hid f2
  clear f2
  obtain ⟨Ab, cb, Ai, ci, hX, _⟩ := H.out.fine F2.out
  have c3 : w2.cell? ⟨x, 3, none⟩ = some (.int .i64 e) := hX.box.cell 3
  have q2 : ∀ p : FineBy w2, p.W.cell? ⟨x, 2, none⟩ = some (.int .i64 rd) := fun p => (hX.box.fine p.h).cell 2
  have QNX : Hid (∀ p : FineBy w2, Calls Try.prog 43 #[.pointer (some ⟨x, 0, none⟩)] p.W fun r w' => r = .returned (.int .i64 nx) ∧ Fine p.W w') := Lib.hid (fun p => HNX.out p.W (F2.out.trans p.h))
  have QEDG : Hid (∀ p : FineBy w2, Calls Try.prog 81 #[.pointer (some ⟨x, 0, none⟩)] p.W fun r w' => r = .returned (.int .i64 ed) ∧ Fine p.W w') := Lib.hid (fun p => HED.out p.W (F2.out.trans p.h))
  have QACK : Hid (∀ p : FineBy w2, Calls Try.prog 37 #[.pointer (some ⟨g, 0, none⟩)] p.W fun r w' => r = .returned (.int .i64 a) ∧ Fine p.W w') := Lib.hid (fun p => HAK.out p.W (F2.out.trans p.h))
  have QEND : Hid (∀ p : FineBy w2, Calls Try.prog 48 #[.pointer (some ⟨g, 0, none⟩)] p.W fun r w' => r = .returned (.bool (e == nx)) ∧ Fine p.W w') := Lib.hid (fun p => HEN.out p.W (F2.out.trans p.h))
  have QWIN : Hid (∀ p : FineBy w2, Calls Try.prog 36 #[.pointer (some ⟨g, 0, none⟩)] p.W fun r w' => r = .returned (.int .i64 wv) ∧ Fine p.W w') := Lib.hid (fun p => HWN.out p.W (F2.out.trans p.h))
  have QRDY : Hid (∀ p : FineBy w2, Calls Try.prog 39 #[.pointer (some ⟨g, 0, none⟩)] p.W fun r w' => r = .returned (.int .i64 rv) ∧ Fine p.W w') := Lib.hid (fun p => HRD.out p.W (F2.out.trans p.h))
  clear hX HNX HED HAK HEN HWN HRD
  by_cases hq : e = nx
  · have hq2 : (e == nx) = true := by simpa using hq
    rw [hq2] at QEND
    have ha2 : a = nx + 1 := by rw [← HA.out]; unfold ackV; rw [if_pos hq]
    have e5 : IntKind.i64.wrap (nx + 1) = a := by rw [ha2]; exact e4
    clear hq e4
    have HA2 := Lib.hid ha2
    clear ha2
    go_upto_region 5 with fail
    refine wp_region_quiet_fine (by kernel_rfl) (by kernel_rfl) ?_
    repeat (quiet_step (first | exact Calls.fine_of (QACK.out _) | exact Calls.fine_of (QEND.out _) | exact Calls.fine_of (QWIN.out _) | exact Calls.fine_of (QRDY.out _) | exact Calls.fine_of (QEDG.out _) | exact Calls.fine_of (QNX.out _)))
    refine wpQuiet_nil ?_
    intro wf hwf'
    have hwf := FineBy.of hwf'
    have FW := Lib.hid (F2.out.trans hwf)
    clear hwf' hwf q2
    go_wp2_with fail
    go_ret
    exact ⟨rfl, FW.out⟩
  · have hq2 : (e == nx) = false := by simpa using hq
    rw [hq2] at QEND
    have ha2 : a = nx := by rw [← HA.out]; unfold ackV; rw [if_neg hq]
    rw [ha2] at QACK
    have g4 : (nx == nx) = true := by simp
    clear hq ha2 e4
    go_upto_region 5 with fail
    refine wp_region_quiet_fine (by kernel_rfl) (by kernel_rfl) ?_
    repeat (quiet_step (first | exact Calls.fine_of (QACK.out _) | exact Calls.fine_of (QEND.out _) | exact Calls.fine_of (QWIN.out _) | exact Calls.fine_of (QRDY.out _) | exact Calls.fine_of (QEDG.out _) | exact Calls.fine_of (QNX.out _)))
    refine wpQuiet_nil ?_
    intro wf hwf'
    have hwf := FineBy.of hwf'
    have FW := Lib.hid (F2.out.trans hwf)
    clear hwf' hwf q2
    go_wp2_with fail
    go_ret
    exact ⟨rfl, FW.out⟩
end Go.Proofs.Ytnigfdldfmiaiaa
