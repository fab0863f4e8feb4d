/- A flow: send, Dial. -/
import Derived.Test.YtjldgialhgfhmaaXFlow5
namespace Go.Proofs.Ytjldgialhgfhmaa
set_option linter.unusedVariables false
set_option linter.unusedSimpArgs false
open Go.ChangeShapes Go.WideShapes Go.ChangeAt Go.RowKit Go.Maps
set_option linter.unusedVariables false
set_option linter.unusedSimpArgs false
def Fl.arm (S : Fl) (tick : Int) : Fl := { S with at_ := tick + wait S.r.base S.k, has := true }
def Fl.sent (S : Fl) (tick : Int) : Fl := if S.ps = [] then { S with since := tick, tw := false } else S
def Fl.pushed (S : Fl) (p : Pc) : Fl := { S with ps := pushL S.ps p S.e, e := onN S.e (long p) }
def Fl.armed (S : Fl) (tick : Int) : Fl := if S.has = true then S else S.arm tick
def Fl.send (S : Fl) (p : Pc) (tick : Int) : Fl := (((S.sent tick).pushed p).put (withSeq p S.e)).armed tick
structure Fl.Ok (S : Fl) : Prop where
  r : S.r.ok
  k : S.k ≤ 16
  n : S.ps.length ≤ 800
  x : ∀ p ∈ S.ps, p.xs.length ≤ 1000
  e : 0 ≤ S.e ∧ S.e < 4294967296
  o : S.out.length ≤ 90000
section
variable {F F0 : Nat → Prop} {w w0 : World} {f : Nat} {S : Fl}
theorem FlOf.fine {w1 : World} {S' : Fl} (h : FlOf F f S' w w1) {w2 : World} (f2 : Fine w1 w2) : FlOf F f S' w w2 := by
  obtain ⟨F', j1, j2, j3⟩ := h
  exact ⟨F', j1.fine f2, j2.trans (Kept.of_fine f2), j3⟩
/-- First the one, then the other. -/
theorem FlOf.then_ {w1 w2 : World} {S2 : Fl} {F1 : Nat → Prop} (k1 : Kept F w w1) (g1 : ∀ b, F1 b → F b ∨ w.heap.size ≤ b) (h2 : FlOf F1 f S2 w1 w2) : FlOf F f S2 w w2 := by
  obtain ⟨F2, j1, j2, j3⟩ := h2
  refine ⟨F2, j1, k1.transG j2 (fun _ _ h => h) (fun y hy h => (g1 y h).elim id (fun h => by omega)), fun b hb => ?_⟩
  rcases j3 b hb with h | h
  · exact g1 b h
  · exact .inr (Nat.le_trans k1.size h)
theorem FlS.turn {S' : Fl} {w' : World} (h : FlS F w f S) (hw : ∀ q A c (ros : List Ro), Blk w f 111 (fc q S.r.has S.r.s S.r.v S.k S.st S.rcv S.tries S.at_ S.has S.since S.tw (.slice A ros.length c)) → Blk w' f 111 (fc q S'.r.has S'.r.s S'.r.v S'.k S'.st S'.rcv S'.tries S'.at_ S'.has S'.since S'.tw (.slice A ros.length c))) (k : Kept (· = f) w w') (e1 : S'.ps = S.ps) (e2 : S'.e = S.e) (e3 : S'.out = S.out) : FlOf F f S' w w' := by
  obtain ⟨q, A, c, ros, Q, D, hX⟩ := h
  exact ⟨F, ⟨q, A, c, ros, Q, D, hX.turned (hw q A c ros hX.box) k e1 e2 e3⟩, k.mono (fun y _ e => by have e : y = f := e; exact e ▸ hX.ff), fun b hb => .inl hb⟩
theorem arm_any (tick : Int) (hr : S.r.ok) (hk : S.k ≤ 16) (ht : 0 ≤ tick ∧ tick ≤ 1099511627776) (h : FlS F w f S) : Calls Try.prog 84 #[.pointer (some ⟨f, 0, none⟩), .int .i64 tick] w fun e w' => e = .returned (.tuple #[]) ∧ FlOf F f (S.arm tick) w w' := by
  obtain ⟨q, A, c, ros, Q, D, hX⟩ := h
  refine (farm_any tick S.r hr S.k hk ht hX.box).mono ?_
  rintro e w' ⟨h1, h2, h3⟩
  exact ⟨h1, F, ⟨q, A, c, ros, Q, D, hX.turned (S' := S.arm tick) h2 h3 rfl rfl rfl⟩, h3.mono (fun y _ e => by have e : y = f := e; exact e ▸ hX.ff), fun b hb => .inl hb⟩
theorem qlen_any {q : Nat} {Q : Nat → Prop} {ps : List Pc} {e : Int} (h : QB w Q q ps e) : Calls Try.prog 34 #[.pointer (some ⟨q, 0, none⟩)] w fun x w' => x = .returned (.int .i64 ps.length) ∧ Fine w w' := len_any q Q ps e w h
/-- A piece was pushed. -/
theorem FlX.push {w' : World} {q : Nat} {A : Option Addr} {c : Nat} {ros : List Ro} {Q D Q' : Nat → Prop} {p : Pc} (h : FlX F w f q A c ros Q D S) (hq : QB w' Q' q (pushL S.ps p S.e) (onN S.e (long p))) (k : Kept Q w w') (hQ : ∀ b, Q' b → Q b ∨ w.heap.size ≤ b) : FlX (fun b => F b ∨ Q' b) w' f q A c ros Q' D (S.pushed p) := by
  obtain ⟨_, _, _, _, _, _, _, _, q6⟩ := hq
  have hq : QB w' Q' q (pushL S.ps p S.e) (onN S.e (long p)) := ⟨_, _, _, by assumption, by assumption, by assumption, by assumption, by assumption, q6⟩
  refine ⟨h.box.kept k (fun hb => (h.nq f hb).1 rfl), hq, h.row.kept k (fun b hb hQ => (h.nq b hQ).2.1 hb), h.outs.kept k (fun b hb hQ => (h.nq b hQ).2.2 hb), .inl h.ff, fun b hb => .inr hb, fun b hb => .inl (h.fr b hb), fun b hb => .inl (h.fd b hb), fun b hb => ?_, h.nr, h.nd, fun b hb => ?_⟩
  · rcases hQ b hb with h1 | h1
    · exact h.nq b h1
    · refine ⟨fun e => by have := h.lt f h.ff; omega, fun e => ?_, fun hd => ?_⟩
      · have := h.lt b (h.fr b e); omega
      · have := h.lt b (h.fd b hd); omega
  · rcases hb with hb | hb
    · exact Nat.lt_of_lt_of_le (h.lt b hb) k.size
    · exact q6 b hb
set_option maxHeartbeats 4000000 in
set_option maxRecDepth 20000 in
theorem fsend_any {v : Nat → Prop} {r : Raw} {p : Pc} (tick : Int) (ht : 0 ≤ tick ∧ tick ≤ 1099511627776) (hok : S.Ok) (hxl : p.xs.length ≤ 1000) (hp : Is w v r p) (hv : ∀ b, v b → ¬ F b) (h : FlS F w f S) : Calls Try.prog 69 #[.pointer (some ⟨f, 0, none⟩), .agg r.cells.toArray, .int .i64 tick] w fun e w' => e = .returned (.tuple #[]) ∧ FlOf F f (S.send p tick) w w' := by
  obtain ⟨q, A, c, ros, Q, D, hX⟩ := h
  obtain ⟨rseq, rsyn, rfin, rA, rlen, rcap, rdsn, rlast⟩ := r
  have HOK := Lib.hid hok; have HXL := Lib.hid hxl; have HV := Lib.hid hv
  obtain ⟨x4, hx4⟩ : ∃ x, w.heap.size = x := ⟨_, rfl⟩
  have b4 := Blk.newAt (w := w) (t := 46) (cs := #[.int .u32 rseq, .bool rsyn, .bool rfin, .slice rA rlen rcap, .int .i64 rdsn, .bool rlast]) hx4.symm
  have f4 := (Fine.refl w).alloc (.cells #[.int .u32 rseq, .bool rsyn, .bool rfin, .slice rA rlen rcap, .int .i64 rdsn, .bool rlast] 46)
  have H := Lib.hid hX; have HP0 := Lib.hid hp
  have hx4F : ¬ F x4 := fun hf => by have := hX.lt _ hf; omega
  have HX4F := Lib.hid hx4F
  obtain ⟨has, hhas⟩ : ∃ z, S.has = z := ⟨_, rfl⟩
  have HHAS0 := Lib.hid hhas
  obtain ⟨np, hnp⟩ : ∃ z, S.ps.length = z := ⟨_, rfl⟩
  have HNP := Lib.hid hnp
  clear hX hok hxl hp hv hx4F hhas hnp
  show Calls Try.prog 69 #[.pointer (some ⟨f, 0, none⟩), .agg #[.int .u32 rseq, .bool rsyn, .bool rfin, .slice rA rlen rcap, .int .i64 rdsn, .bool rlast], .int .i64 tick] w _
  go_enter Try.func69, Try.ntmps69
  go_upto_region 1 with fail
  generalize w.alloc (.cells #[.int .u32 rseq, .bool rsyn, .bool rfin, .slice rA rlen rcap, .int .i64 rdsn, .bool rlast] 46) = w1 at b4 f4 ⊢
  have X1 := Lib.hid (H.out.fine f4); have B1 := Lib.hid b4; have F1 := Lib.hid f4; have HP1 := Lib.hid (HP0.out.fine f4)
  have HLEN := Lib.hid (by have := qlen_any X1.out.que; rw [HNP.out] at this; exact this : Calls Try.prog 34 #[.pointer (some ⟨q, 0, none⟩)] w1 fun x w' => x = .returned (.int .i64 (np : Int)) ∧ Fine w1 w')
  have c0 : w1.cell? ⟨f, 0, none⟩ = some (.pointer (some ⟨q, 0, none⟩)) := X1.out.box.cell 0
  clear b4 f4 hx4 HP0 H
  go_wp2_with fail
  refine HLEN.out.mono ?_
  rintro x w2 ⟨rfl, f2⟩
  have X1b := Lib.hid (X1.out.fine f2); have B1b := Lib.hid (B1.out.fine f2); have F1b := Lib.hid (F1.out.trans f2); have HP1b := Lib.hid (HP1.out.fine f2)
  clear f2 c0 X1 B1 F1 HP1 HLEN
  by_cases h0 : np = 0
  · have g0 : ((np : Int) == 0) = true := by simp; omega
    have hS2 : S.sent tick = { S with since := tick, tw := false } := by unfold Fl.sent; rw [if_pos (List.eq_nil_of_length_eq_zero (by rw [HNP.out]; exact h0))]
    have c10 : w2.cell? ⟨f, 10, none⟩ = some (.int .i64 S.since) := X1b.out.box.cell 10
    have c11 : w2.cell? ⟨f, 11, none⟩ = some (.bool S.tw) := X1b.out.box.cell 11
    have z10 := X1b.out.box.frozen 10
    have z11 := X1b.out.box.frozen 11
    have kx : Kept (· = f) w2 ((w2.setCell ⟨f, 10, none⟩ (.int .i64 tick)).setCell ⟨f, 11, none⟩ (.bool false)) := ((Kept.refl (· = f) w2).setIn (p := ⟨f, 10, none⟩) rfl _).setIn (p := ⟨f, 11, none⟩) rfl _
    have X2 : FlX F ((w2.setCell ⟨f, 10, none⟩ (.int .i64 tick)).setCell ⟨f, 11, none⟩ (.bool false)) f q A c ros Q D (S.sent tick) := by
      rw [hS2]
      exact X1b.out.turned ((X1b.out.box.set_ 10 (.int .i64 tick)).set_ 11 (.bool false)) kx rfl rfl rfl
    have HX2 := Lib.hid X2
    have B2 := Lib.hid (B1b.out.kept kx (fun e => HX4F.out (by have e : x4 = f := e; rw [e]; exact X1b.out.ff)))
    have HP2 := Lib.hid (HP1b.out.kept kx (fun b hb e => HV.out b hb (by have e : b = f := e; rw [e]; exact X1b.out.ff)))
    have K2 : Hid (Kept F w ((w2.setCell ⟨f, 10, none⟩ (.int .i64 tick)).setCell ⟨f, 11, none⟩ (.bool false))) := Lib.hid ((Kept.of_fine F1b.out).trans (kx.mono (fun y _ e => by have e : y = f := e; rw [e]; exact X1b.out.ff)))
    have HPS : Hid ((S.sent tick).ps = S.ps ∧ (S.sent tick).e = S.e) := Lib.hid (by rw [hS2]; exact ⟨rfl, rfl⟩)
    have HOUT : Hid ((S.sent tick).out = S.out) := Lib.hid (by rw [hS2])
    have HR2 : Hid ((S.sent tick).r = S.r) := Lib.hid (by rw [hS2])
    have HK2 : Hid ((S.sent tick).k = S.k) := Lib.hid (by rw [hS2])
    have HHAS : Hid ((S.sent tick).has = has) := Lib.hid (by rw [hS2]; exact HHAS0.out)
    have G2 : Hid (∀ b, F b → F b ∨ w.heap.size ≤ b) := Lib.hid (fun b hb => .inl hb)
    clear X2 kx hS2 h0
    go_upto_region 3 with fail
    clear c10 c11 z10 z11 g0 X1b B1b F1b HP1b
    generalize (w2.setCell ⟨f, 10, none⟩ (.int .i64 tick)).setCell ⟨f, 11, none⟩ (.bool false) = w2 at HX2 B2 HP2 K2 ⊢
    obtain ⟨S2, hS2⟩ : ∃ z, S.sent tick = z := ⟨_, rfl⟩
    rw [hS2] at HX2 HPS HOUT HR2 HK2 HHAS
    have HS2 := Lib.hid hS2
    clear hS2
    have X2 := HX2
    have PU := Lib.hid (push_any q Q v S.ps S.e ⟨rseq, rsyn, rfin, rA, rlen, rcap, rdsn, rlast⟩ p)
    have c0 : w2.cell? ⟨f, 0, none⟩ = some (.pointer (some ⟨q, 0, none⟩)) := X2.out.box.cell 0
    have p0 : w2.cell? ⟨x4, 0, none⟩ = some (.int .u32 rseq) := B2.out.cell 0
    have p1 : w2.cell? ⟨x4, 1, none⟩ = some (.bool rsyn) := B2.out.cell 1
    have p2 : w2.cell? ⟨x4, 2, none⟩ = some (.bool rfin) := B2.out.cell 2
    have p3 : w2.cell? ⟨x4, 3, none⟩ = some (.slice rA rlen rcap) := B2.out.cell 3
    have p4 : w2.cell? ⟨x4, 4, none⟩ = some (.int .i64 rdsn) := B2.out.cell 4
    have p5 : w2.cell? ⟨x4, 5, none⟩ = some (.bool rlast) := B2.out.cell 5
    have X3 := Lib.hid (X2.out.fine (Fine.refl w2).drew)
    have HP3 := Lib.hid (HP2.out.fine (Fine.refl w2).drew)
    have PUW := Lib.hid (PU.out w2.drew (by have := X3.out.que; rw [HPS.out.1, HPS.out.2] at this; exact this) HP3.out (fun b hb hQ => HV.out b hb (X3.out.fq b hQ)) HOK.out.e (by have := HOK.out.n; omega) HXL.out)
    have HPUT : Hid (∀ w4 r' Q', QB w4 Q' q (pushL S.ps p S.e) (onN S.e (long p)) → Is w4 (fun b => w2.drew.heap.size ≤ b ∧ b < w4.heap.size ∧ ¬ Q' b ∧ Unf w4 b) r' (withSeq p S.e) → Kept Q w2.drew w4 → (∀ b, Q' b → Q b ∨ w2.drew.heap.size ≤ b) → Calls Try.prog 83 #[.pointer (some ⟨f, 0, none⟩), .agg (Raw.cells r').toArray] w4 fun e w' => e = .returned (.tuple #[]) ∧ FlOf F f ((S2.pushed p).put (withSeq p S.e)) w2 w') := Lib.hid (fun w4 r' Q' hq hp' k4 hQ' => by
      have X4 := X3.out.push (p := p) (by rw [HPS.out.1, HPS.out.2]; exact hq) k4 hQ'
      have FR4 : ∀ b, F b ∨ Q' b → F b ∨ w2.heap.size ≤ b := fun b hb => hb.elim .inl (fun hb => (hQ' b hb).elim (fun h => .inl (X3.out.fq b h)) .inr)
      have K4 : Kept F w2 w4 := (Kept.of_fine (Fine.refl w2).drew).trans (k4.mono (fun y _ hy => X3.out.fq y hy))
      refine (fput_any (p := withSeq p S.e) (by show S2.out.length ≤ 100000; rw [HOUT.out]; have := HOK.out.o; omega) hp' (fun b hb => ⟨fun hf => hf.elim (fun hf => by have := X3.out.lt b hf; have := hb.1; omega) (fun hf => hb.2.2.1 hf), hb.2.1⟩) ⟨q, A, c, ros, Q', D, X4⟩).mono ?_
      rintro x w5 ⟨rfl, F5, j1, j2, j3⟩
      refine ⟨rfl, F5, j1, K4.transG j2 (fun _ _ h => h) (fun y hy h => (FR4 y h).elim id (fun h => by omega)), fun b hb => ?_⟩
      rcases j3 b hb with h | h | h
      · exact FR4 b h
      · exact .inr h.1
      · exact .inr (Nat.le_trans K4.size h))
    clear PU
    go_cut [] (fun wx => Hid (FlOf F f ((S2.pushed p).put (withSeq p S.e)) w2 wx))
    case first =>
      go_region_law (first | (go_simp; go_at_call 83; refine (HPUT.out _ _ _ hq hp' k4 hQ').mono ?_; rintro x w5 ⟨rfl, h5⟩) | (go_simp; go_at_call 28; refine PUW.out.mono ?_; rintro x w4 ⟨r', Q', rfl, hq, hp', k4, hQ'⟩))
      all_goals
        have H5 := Lib.hid h5
        clear hq hp' k4 hQ' h5
        go_wp2_with fail
        go_meet
        exact Lib.hid H5.out
    case rest =>
    obtain ⟨w5, hw5⟩ : ∃ z, z = wc := ⟨_, rfl⟩
    subst hw5
    obtain ⟨F5, j1, j2, j3⟩ := hcut.out
    have J5 := Lib.hid j1; have K5 := Lib.hid j2; have G5 := Lib.hid j3
    clear j1 j2 j3 hcut PUW HPUT c0 p0 p1 p2 p3 p4 p5
    have z6 : w5.cell? ⟨f, 9, none⟩ = some (.bool has) := by
      obtain ⟨q5, A5, c5, ros5, Q5, D5, hX5⟩ := J5.out
      have := hX5.box.cell 9
      rw [← HHAS.out]
      exact this
    have HARM := Lib.hid (arm_any tick (S := (S2.pushed p).put (withSeq p S.e)) (by show S2.r.ok; rw [HR2.out]; exact HOK.out.r) (by show S2.k ≤ 16; rw [HK2.out]; exact HOK.out.k) ht J5.out)
    cases has with
    | true =>
      go_wp2_with fail
      exact bodyPost_end (v := .tuple #[]) (by simp [results, Try.results69, go_sem]) rfl ⟨rfl, FlOf.then_ K2.out G2.out ⟨F5, by have h : S.send p tick = (S2.pushed p).put (withSeq p S.e) := (by unfold Fl.send Fl.armed; rw [HS2.out, if_pos (show ((S2.pushed p).put (withSeq p S.e)).has = true from HHAS.out)]); rw [h]; exact J5.out, K5.out, G5.out⟩⟩
    | false =>
      go_wp2_with fail
      refine HARM.out.mono ?_
      rintro x w6 ⟨rfl, h6⟩
      have H6 := Lib.hid h6
      clear h6
      go_wp2_with fail
      exact bodyPost_end (v := .tuple #[]) (by simp [results, Try.results69, go_sem]) rfl ⟨rfl, FlOf.then_ K2.out G2.out (FlOf.then_ K5.out G5.out (by have h : S.send p tick = ((S2.pushed p).put (withSeq p S.e)).arm tick := (by unfold Fl.send Fl.armed; rw [HS2.out, if_neg (show ¬ ((S2.pushed p).put (withSeq p S.e)).has = true from (by show ¬ S2.has = true; rw [HHAS.out]; decide))]); rw [h]; exact H6.out))⟩
  · have g0 : ((np : Int) == 0) = false := by simp; omega
    have hS2 : S.sent tick = S := by unfold Fl.sent; rw [if_neg (fun e => h0 (by rw [← HNP.out, e]; rfl))]
    have HX2 : Hid (FlX F w2 f q A c ros Q D (S.sent tick)) := Lib.hid (by rw [hS2]; exact X1b.out)
    have B2 := B1b; have HP2 := HP1b
    have K2 : Hid (Kept F w w2) := Lib.hid (Kept.of_fine F1b.out)
    have HPS : Hid ((S.sent tick).ps = S.ps ∧ (S.sent tick).e = S.e) := Lib.hid (by rw [hS2]; exact ⟨rfl, rfl⟩)
    have HOUT : Hid ((S.sent tick).out = S.out) := Lib.hid (by rw [hS2])
    have HR2 : Hid ((S.sent tick).r = S.r) := Lib.hid (by rw [hS2])
    have HK2 : Hid ((S.sent tick).k = S.k) := Lib.hid (by rw [hS2])
    have HHAS : Hid ((S.sent tick).has = has) := Lib.hid (by rw [hS2]; exact HHAS0.out)
    have G2 : Hid (∀ b, F b → F b ∨ w.heap.size ≤ b) := Lib.hid (fun b hb => .inl hb)
    clear hS2 h0
    go_upto_region 3 with fail
    clear g0 X1b B1b F1b HP1b
    obtain ⟨S2, hS2⟩ : ∃ z, S.sent tick = z := ⟨_, rfl⟩
    rw [hS2] at HX2 HPS HOUT HR2 HK2 HHAS
    have HS2 := Lib.hid hS2
    clear hS2
    have X2 := HX2
    have PU := Lib.hid (push_any q Q v S.ps S.e ⟨rseq, rsyn, rfin, rA, rlen, rcap, rdsn, rlast⟩ p)
    have c0 : w2.cell? ⟨f, 0, none⟩ = some (.pointer (some ⟨q, 0, none⟩)) := X2.out.box.cell 0
    have p0 : w2.cell? ⟨x4, 0, none⟩ = some (.int .u32 rseq) := B2.out.cell 0
    have p1 : w2.cell? ⟨x4, 1, none⟩ = some (.bool rsyn) := B2.out.cell 1
    have p2 : w2.cell? ⟨x4, 2, none⟩ = some (.bool rfin) := B2.out.cell 2
    have p3 : w2.cell? ⟨x4, 3, none⟩ = some (.slice rA rlen rcap) := B2.out.cell 3
    have p4 : w2.cell? ⟨x4, 4, none⟩ = some (.int .i64 rdsn) := B2.out.cell 4
    have p5 : w2.cell? ⟨x4, 5, none⟩ = some (.bool rlast) := B2.out.cell 5
    have X3 := Lib.hid (X2.out.fine (Fine.refl w2).drew)
    have HP3 := Lib.hid (HP2.out.fine (Fine.refl w2).drew)
    have PUW := Lib.hid (PU.out w2.drew (by have := X3.out.que; rw [HPS.out.1, HPS.out.2] at this; exact this) HP3.out (fun b hb hQ => HV.out b hb (X3.out.fq b hQ)) HOK.out.e (by have := HOK.out.n; omega) HXL.out)
    have HPUT : Hid (∀ w4 r' Q', QB w4 Q' q (pushL S.ps p S.e) (onN S.e (long p)) → Is w4 (fun b => w2.drew.heap.size ≤ b ∧ b < w4.heap.size ∧ ¬ Q' b ∧ Unf w4 b) r' (withSeq p S.e) → Kept Q w2.drew w4 → (∀ b, Q' b → Q b ∨ w2.drew.heap.size ≤ b) → Calls Try.prog 83 #[.pointer (some ⟨f, 0, none⟩), .agg (Raw.cells r').toArray] w4 fun e w' => e = .returned (.tuple #[]) ∧ FlOf F f ((S2.pushed p).put (withSeq p S.e)) w2 w') := Lib.hid (fun w4 r' Q' hq hp' k4 hQ' => by
      have X4 := X3.out.push (p := p) (by rw [HPS.out.1, HPS.out.2]; exact hq) k4 hQ'
      have FR4 : ∀ b, F b ∨ Q' b → F b ∨ w2.heap.size ≤ b := fun b hb => hb.elim .inl (fun hb => (hQ' b hb).elim (fun h => .inl (X3.out.fq b h)) .inr)
      have K4 : Kept F w2 w4 := (Kept.of_fine (Fine.refl w2).drew).trans (k4.mono (fun y _ hy => X3.out.fq y hy))
      refine (fput_any (p := withSeq p S.e) (by show S2.out.length ≤ 100000; rw [HOUT.out]; have := HOK.out.o; omega) hp' (fun b hb => ⟨fun hf => hf.elim (fun hf => by have := X3.out.lt b hf; have := hb.1; omega) (fun hf => hb.2.2.1 hf), hb.2.1⟩) ⟨q, A, c, ros, Q', D, X4⟩).mono ?_
      rintro x w5 ⟨rfl, F5, j1, j2, j3⟩
      refine ⟨rfl, F5, j1, K4.transG j2 (fun _ _ h => h) (fun y hy h => (FR4 y h).elim id (fun h => by omega)), fun b hb => ?_⟩
      rcases j3 b hb with h | h | h
      · exact FR4 b h
      · exact .inr h.1
      · exact .inr (Nat.le_trans K4.size h))
    clear PU
    go_cut [] (fun wx => Hid (FlOf F f ((S2.pushed p).put (withSeq p S.e)) w2 wx))
    case first =>
      go_region_law (first | (go_simp; go_at_call 83; refine (HPUT.out _ _ _ hq hp' k4 hQ').mono ?_; rintro x w5 ⟨rfl, h5⟩) | (go_simp; go_at_call 28; refine PUW.out.mono ?_; rintro x w4 ⟨r', Q', rfl, hq, hp', k4, hQ'⟩))
      all_goals
        have H5 := Lib.hid h5
        clear hq hp' k4 hQ' h5
        go_wp2_with fail
        go_meet
        exact Lib.hid H5.out
    case rest =>
    obtain ⟨w5, hw5⟩ : ∃ z, z = wc := ⟨_, rfl⟩
    subst hw5
    obtain ⟨F5, j1, j2, j3⟩ := hcut.out
    have J5 := Lib.hid j1; have K5 := Lib.hid j2; have G5 := Lib.hid j3
    clear j1 j2 j3 hcut PUW HPUT c0 p0 p1 p2 p3 p4 p5
    have z6 : w5.cell? ⟨f, 9, none⟩ = some (.bool has) := by
      obtain ⟨q5, A5, c5, ros5, Q5, D5, hX5⟩ := J5.out
      have := hX5.box.cell 9
      rw [← HHAS.out]
      exact this
    have HARM := Lib.hid (arm_any tick (S := (S2.pushed p).put (withSeq p S.e)) (by show S2.r.ok; rw [HR2.out]; exact HOK.out.r) (by show S2.k ≤ 16; rw [HK2.out]; exact HOK.out.k) ht J5.out)
    cases has with
    | true =>
      go_wp2_with fail
      exact bodyPost_end (v := .tuple #[]) (by simp [results, Try.results69, go_sem]) rfl ⟨rfl, FlOf.then_ K2.out G2.out ⟨F5, by have h : S.send p tick = (S2.pushed p).put (withSeq p S.e) := (by unfold Fl.send Fl.armed; rw [HS2.out, if_pos (show ((S2.pushed p).put (withSeq p S.e)).has = true from HHAS.out)]); rw [h]; exact J5.out, K5.out, G5.out⟩⟩
    | false =>
      go_wp2_with fail
      refine HARM.out.mono ?_
      rintro x w6 ⟨rfl, h6⟩
      have H6 := Lib.hid h6
      clear h6
      go_wp2_with fail
      exact bodyPost_end (v := .tuple #[]) (by simp [results, Try.results69, go_sem]) rfl ⟨rfl, FlOf.then_ K2.out G2.out (FlOf.then_ K5.out G5.out (by have h : S.send p tick = ((S2.pushed p).put (withSeq p S.e)).arm tick := (by unfold Fl.send Fl.armed; rw [HS2.out, if_neg (show ¬ ((S2.pushed p).put (withSeq p S.e)).has = true from (by show ¬ S2.has = true; rw [HHAS.out]; decide))]); rw [h]; exact H6.out))⟩
end
end Go.Proofs.Ytjldgialhgfhmaa
