/- The law DrecvActs. -/
import Derived.Test.YtnigfdldfmiaiaaDrv16
import Derived.Test.YtnigfdldfmiaiaaDrv9
import Derived.Deep.RegionHeld3
namespace Go.Proofs.Ytnigfdldfmiaiaa
open Go.ChangeShapes Go.WideShapes Go.ChangeAt Go.RowKit Go.Maps
set_option linter.unusedVariables false
set_option linter.unusedSimpArgs false
/-- The receiver and the document's, side by side. -/
structure Pr (w0 w : World) (g x : Nat) (F G : Nat → Prop) (In : Int → Bool) (B : Int → Int) (rd nx e : Int) (mz k : Nat) : Prop where
  s : RcS F w g In B rd nx e mz
  r : ReS G w x In B rd e k
  dj : ∀ y, F y → ¬ G y
  fo : ∀ y, F y → w0.heap.size ≤ y
  go : ∀ y, G y → w0.heap.size ≤ y
  fine : Fine w0 w
theorem Pr.wfine {w0 w w' : World} {g x : Nat} {F G : Nat → Prop} {In : Int → Bool} {B : Int → Int} {rd nx e : Int} {mz k : Nat} (h : Pr w0 w g x F G In B rd nx e mz k) (f : Fine w w') : Pr w0 w' g x F G In B rd nx e mz k :=
  ⟨h.s.fine f, h.r.fine f, h.dj, h.fo, h.go, h.fine.trans f⟩
/-- First the one has moved, then the other. -/
theorem Pr.moved {w0 w w1 w2 w3 : World} {g x : Nat} {F G F' G' : Nat → Prop} {In In' : Int → Bool} {B B' : Int → Int} {rd nx e rd' nx' e' : Int} {mz k mz' k' : Nat} (h : Pr w0 w g x F G In B rd nx e mz k) (k1 : Kept F w w1) (s1 : RcS F' w1 g In' B' rd' nx' e' mz') (hF : ∀ y, F' y → F y ∨ w.heap.size ≤ y) (f : Fine w1 w2) (k2 : Kept G w2 w3) (r3 : ReS G' w3 x In' B' rd' e' k') (hG : ∀ y, G' y → G y ∨ w2.heap.size ≤ y) :
    Pr w0 w3 g x F' G' In' B' rd' nx' e' mz' k' := by
  have l1 := s1.lt
  have hs := h.fine.size
  have h1 := k1.size
  have h2 := f.size
  have hd : ∀ y, F' y → ¬ G y := fun y hy hg => by
    rcases hF y hy with a | a
    · exact h.dj y a hg
    · have := h.r.lt y hg
      omega
  refine ⟨(s1.fine f).kept k2 hd, r3, fun y hy hg => ?_, fun y hy => ?_, fun y hy => ?_, ?_⟩
  · rcases hG y hg with a | a
    · exact hd y hy a
    · have := l1 y hy
      omega
  · rcases hF y hy with a | a
    · exact h.fo y a
    · omega
  · rcases hG y hy with a | a
    · exact h.go y a
    · omega
  · exact ((h.fine.kept k1 (fun y hy hf => by have := h.fo y hf; omega)).trans f).kept k2 (fun y hy hf => by have := h.go y hf; omega)
set_option maxHeartbeats 8000000 in
set_option maxRecDepth 20000 in
theorem drecvActs_main (w : World) (A : Option Addr) (n cap : Nat) (acts : List Da) (hn100 : n ≤ 100) (hr : RS layDa w A cap acts) (hn : acts.length = n) (hok : ∀ x ∈ acts, DaOk w x) :
    Calls Try.prog 11 #[.slice A n cap] w fun r w' => r = .returned (.bool true) ∧ Fine w w' := by
  have HR := Lib.hid hr; have HOK := Lib.hid hok; have HN := Lib.hid hn
  have hz2 : ¬ (n : Int) > 100 := by omega
  clear hr hok hn
  go_enter Try.func11, Try.ntmps11
  go_wp2_with fail
  refine (drecvWakes_any w).mono ?_
  rintro r w1 ⟨rfl, f1⟩
  have F1 := Lib.hid f1
  clear f1
  go_wp2_with fail
  refine (rnewv_any w1).mono ?_
  rintro r w2 ⟨g, rfl, h2, f2⟩
  have H2 := Lib.hid h2; have F2 := Lib.hid (F1.out.trans f2)
  have hs12 := F1.out.size
  have hs22 := F2.out.size
  clear h2 f2
  go_wp2_with fail
  refine (renew_any w2).mono ?_
  rintro r w3 ⟨rfl, r3, f3⟩
  obtain ⟨x, hx⟩ : ∃ x, w2.heap.size = x := ⟨_, rfl⟩
  rw [hx] at r3 ⊢
  have P3 : Hid (Pr w w3 g x (fun y => w1.heap.size ≤ y ∧ y < w2.heap.size) (· = x) (fun _ => false) (fun _ => 0) 0 1 0 0 0) := Lib.hid ⟨H2.out.fine f3, r3, fun y hy e => by have := hy.2; have e : y = x := e; omega, fun y hy => by have := hy.1; omega, fun y hy => by have hy : y = x := hy; omega, F2.out.trans f3⟩
  clear r3 f3 hx hs22 hs12
  go_wp2_with fail
  go_loopw [19] (fun s19 wr => ∃ (i : Nat), i ≤ n ∧ s19 = .int .i64 i ∧ Hid (∃ F G In B rd nx e mz k, Pr w wr g x F G In B rd nx e mz k ∧ mz ≤ 100 * i ∧ rd ≤ 32 * i ∧ k ≤ 33 + 32 * i)) (fun s19 _ => n - (intOf s19).toNat)
  case atStart => exact ⟨0, Nat.zero_le _, rfl, Lib.hid ⟨_, _, _, _, _, _, _, _, _, P3.out, by omega, by omega, by omega⟩⟩
  case round =>
    obtain ⟨i, hi, rfl, HJ⟩ := hrel
    obtain ⟨F, G, In, B, rd, nx, e, mz, k, j1, j2, j3, j4⟩ := HJ.out
    have J1 := Lib.hid j1
    clear j1 HJ
    by_cases hlt : i < n
    · obtain ⟨r, hr0⟩ : ∃ r, acts[i]? = some r := ⟨_, List.getElem?_eq_getElem (by have := HN.out; omega)⟩
      have hrok := HOK.out r (List.mem_of_getElem? hr0)
      obtain ⟨bb, o, rfl, hb, hc⟩ := (HR.out.fine J1.out.fine).at_ hr0
      obtain ⟨rk, rn, rA, rl, rc, zs⟩ := r
      have d0 := hc 0 (.int .i64 rk) rfl
      have d1 := hc 1 (.int .i64 rn) rfl
      have d2 := hc 2 (.slice rA rl rc) rfl
      simp only [← Nat.add_assoc, Nat.add_zero] at d0 d1 d2
      have HD := Lib.hid hrok
      obtain ⟨xr, hxr⟩ : ∃ x, wr.heap.size = x := ⟨_, rfl⟩
      have b5 := Blk.newAt (w := wr) (t := 57) (cs := #[.int .i64 rk, .int .i64 rn, .slice rA rl rc]) hxr.symm
      have f5 := (Fine.refl wr).alloc (.cells #[.int .i64 rk, .int .i64 rn, .slice rA rl rc] 57)
      have hxF : ¬ F xr := fun hf => by have := J1.out.s.lt _ hf; omega
      have hxG : ¬ G xr := fun hf => by have := J1.out.r.lt _ hf; omega
      clear hc hr0 hrok
      go_upto_region 9 with fail
      generalize wr.alloc (.cells #[.int .i64 rk, .int .i64 rn, .slice rA rl rc] 57) = w5 at b5 f5 ⊢
      have B5 := Lib.hid b5; have J5 := Lib.hid (J1.out.wfine f5)
      have c0 : w5.cell? ⟨xr, 0, none⟩ = some (.int .i64 rk) := b5.cell 0
      have c1 : w5.cell? ⟨xr, 1, none⟩ = some (.int .i64 rn) := b5.cell 1
      have c2 : w5.cell? ⟨xr, 2, none⟩ = some (.slice rA rl rc) := b5.cell 2
      have hnxb : 1 ≤ nx ∧ nx ≤ 4000 := by have := J1.out.s.inv; have := this.nr; have := J1.out.s.inv.rn; have := J1.out.s.inv.r0; omega
      clear b5 f5 hxr d0 d1 d2
      have hnb := nearV_bd rn
      obtain ⟨nv, hnv⟩ : ∃ z, nearV rn = z := ⟨_, rfl⟩
      obtain ⟨d, hd⟩ : ∃ z, nx + nv = z := ⟨_, rfl⟩
      rw [hnv] at hnb
      have HNV := Lib.hid hnv
      have e2 : IntKind.i64.wrap (nx + nv) = d := by rw [hd]; exact IntWalk.i64_in _ (by omega)
      have hdb : -1000 ≤ d ∧ d ≤ 1099511627776 := by omega
      have HNR : Hid (∀ w', Calls Try.prog 38 #[.int .i64 rn] w' fun r w'' => r = .returned (.int .i64 nv) ∧ Fine w' w'') := Lib.hid (fun w' => by have := near_any rn w'; rw [HNV.out] at this; exact this)
      clear hnv hd
      by_cases hk0 : rk = 0
      · subst hk0
        by_cases hbig : 100 < rl
        · have hbig2 : (rl : Int) > 100 := by omega
          go_wp2_with fail
          go_ret
          exact ⟨rfl, J5.out.fine⟩
        · have hbig2 : ¬ (rl : Int) > 100 := by omega
          go_upto_region 13 with fail
          clear c0 hbig2
          obtain ⟨wd, hwd⟩ : ∃ z, w5.drew = z := ⟨_, rfl⟩
          have fd : Fine w5 wd := by rw [← hwd]; exact (Fine.refl w5).drew
          have JD := Lib.hid (J5.out.wfine fd)
          have HCB : Hid (∀ w', Kept (fun y => F y ∨ G y) wd w' → w'.cell? ⟨xr, 1, none⟩ = some (.int .i64 rn) ∧ w'.cell? ⟨xr, 2, none⟩ = some (.slice rA rl rc)) := Lib.hid (fun w' k => by
            have := (B5.out.fine fd).kept k (fun hf => hf.elim hxF hxG)
            exact ⟨this.cell 1, this.cell 2⟩)
          have hlen : zs.length = rl := HD.out.2.2.1
          have hrs : ∀ w', Fine w w' → RS layB w' rA rc zs := fun w' f => HD.out.2.2.2.1.fine f
          have hfar : 0 < rl → ∀ b o, rA = some ⟨b, o, none⟩ → ¬ F b ∧ ¬ G b := fun h0 b o e => by
            obtain ⟨b', o', e', h, _⟩ := HD.out.2.2.2.1.2.2.2 (by have := HD.out.2.2.1; dsimp only at this ⊢; omega)
            dsimp only at e'
            rw [e] at e'; injection e' with e'; injection e' with e' _ _
            exact ⟨fun hf => by have := J5.out.fo b hf; omega, fun hf => by have := J5.out.go b hf; omega⟩
          have hfo := J5.out.fo
          have hgo := J5.out.go
          have hdj := J5.out.dj
          have hINV := J5.out.s.inv
          obtain ⟨c, hc⟩ : ∃ c, cntP (fun j => tkB In rd nx e (d + j)) rl = c := ⟨_, rfl⟩
          have HPUT : Hid (∀ w', Fine wd w' → Calls Try.prog 33 #[.pointer (some ⟨g, 0, none⟩), .int .i64 d, .slice rA rl rc] w' fun r w'' => r = .returned (.int .i64 c) ∧ Kept F w' w'' ∧ ∃ F' nx', RcS F' w'' g (putI In rd nx e d rl) (putV In rd nx e d zs B) rd nx' e (mz + rl) ∧ nx ≤ nx' ∧ ∀ y, F' y → F y ∨ w'.heap.size ≤ y) := Lib.hid (fun w' f => by
            have := sput_any d (by omega) zs rl rc rA hlen (by omega) HD.out.2.2.2.2 (by omega) w' (hrs w' (JD.out.fine.trans f)) (fun h0 b o e => (hfar h0 b o e).1) (JD.out.s.fine f)
            unfold PutS at this
            rw [hlen, hc] at this
            exact this)
          have HREP : Hid (∀ w', Kept F wd w' → Calls Try.prog 44 #[.pointer (some ⟨x, 0, none⟩), .int .i64 d, .slice rA rl rc] w' fun r w'' => r = .returned (.int .i64 c) ∧ (∃ G' k', ReS G' w'' x (putI In rd nx e d rl) (putV In rd nx e d zs B) rd e k' ∧ k' ≤ 33 + 32 * (i + 1) ∧ ∀ y, G' y → G y ∨ w'.heap.size ≤ y) ∧ Kept G w' w'') := Lib.hid (fun w' kf => by
            have hX := JD.out.r.kept kf (fun y hy hf => hdj y hf hy)
            have hW : Fine w w' := JD.out.fine.kept kf (fun y hy hf => by have := hfo y hf; omega)
            refine (reput_any d hdb hINV (by omega) zs rl rc rA hlen (by omega) w' (hrs w' hW) (fun h0 b o e => (hfar h0 b o e).2) hX).mono ?_
            rintro r w'' ⟨h1, ⟨G', k', h2, h3, h4, h5⟩, h6⟩
            refine ⟨by rw [h1, hc], ⟨G', k', ?_, by omega, h5⟩, h6⟩
            have e4 : putV In rd nx e d zs B = prV In rd nx e d zs rl B := by unfold putV prV; rw [hlen]
            rw [e4]
            exact h2)
          have HNX : Hid (∀ w', Kept F wd w' → Calls Try.prog 43 #[.pointer (some ⟨x, 0, none⟩)] w' fun r w'' => r = .returned (.int .i64 nx) ∧ Fine w' w'') := Lib.hid (fun w' kf => renext_any w' (by omega) hINV.low hINV.no (by omega) (JD.out.r.kept kf (fun y hy hf => hdj y hf hy)))
          generalize putI In rd nx e d rl = In9 at HPUT HREP
          generalize putV In rd nx e d zs B = B9 at HPUT HREP
          have k0 : Kept F wd wd := Kept.refl _ _
          have K0 : Kept (fun y => F y ∨ G y) wd wd := Kept.refl _ _
          have hcc : (c != c) = false := by simp
          have hzl : rl ≤ 100 := by omega
          clear hc hlen hrs hfar hfo hgo hdj hINV HD fd
          go_cut [51] (fun s51 wx => s51 = .bool false ∧ Hid (∃ F9 G9 nx9 k9, Pr w wx g x F9 G9 In9 B9 rd nx9 e (mz + rl) k9 ∧ k9 ≤ 33 + 32 * (i + 1)))
          case first =>
            go_region_held3 (fun w' => w'.cell? ⟨xr, 1, none⟩ = some (.int .i64 rn) ∧ w'.cell? ⟨xr, 2, none⟩ = some (.slice rA rl rc)) (first | (subst hwd; refine HCB.out _ ?_; assumption) | (refine HCB.out _ ?_; assumption)) (first | (go_at_call 44; refine (HREP.out _ kE).mono ?_; rintro e wF ⟨rfl, ⟨G9, k9, r9, hk9, hG9⟩, kF⟩; have KF : Kept (fun y => F y ∨ G y) wd wF := (kE.mono (fun _ _ h => Or.inl h)).trans (kF.mono (fun _ _ h => Or.inr h))) | (go_at_call 33; refine (HPUT.out _ fB).mono ?_; rintro e wC ⟨rfl, kC0, F9, nx9, h9, hn9, hF9⟩; have kC : Kept F wd wC := (Kept.of_fine fB).trans kC0; have KC : Kept (fun y => F y ∨ G y) wd wC := kC.mono (fun _ _ h => Or.inl h)) | (go_at_call 43; refine (HNX.out _ kC).mono ?_; rintro e wD ⟨rfl, fD⟩; have kD := kC.trans (Kept.of_fine fD); have KD : Kept (fun y => F y ∨ G y) wd wD := kD.mono (fun _ _ h => Or.inl h)) | (go_at_call 43; refine (HNX.out _ k0).mono ?_; rintro e wA ⟨rfl, fA⟩; have KA : Kept (fun y => F y ∨ G y) wd wA := Kept.of_fine fA) | (go_at_call 38; refine (HNR.out _).mono ?_; rintro e wE ⟨rfl, fE⟩; have kE := kD.trans (Kept.of_fine fE); have KE : Kept (fun y => F y ∨ G y) wd wE := kE.mono (fun _ _ h => Or.inl h)) | (go_at_call 38; refine (HNR.out _).mono ?_; rintro e wB ⟨rfl, fB0⟩; have fB := fA.trans fB0; have KB : Kept (fun y => F y ∨ G y) wd wB := Kept.of_fine fB))
            all_goals
              have P9 := Lib.hid (JD.out.moved kC h9 (fun y hy => (hF9 y hy).imp id (fun h => Nat.le_trans fB.size h)) (fD.trans fE) kF r9 hG9)
              clear kC h9 hF9 fB fD fE kF r9 hG9 kC0 kD kE KA KB KC KD KE KF fA fB0
              go_wp2_with fail
              go_meet
              exact ⟨rfl, Lib.hid ⟨F9, G9, nx9, k9, P9.out, hk9⟩⟩
          case rest =>
            obtain ⟨rfl, HC⟩ := hcut
            obtain ⟨F9, G9, nx9, k9, j9, hk9⟩ := HC.out
            obtain ⟨w9, hw9⟩ : ∃ z, z = wc := ⟨_, rfl⟩
            subst hw9
            have J9 := Lib.hid j9
            obtain ⟨rd9, hrd9'⟩ : ∃ z, z = rd := ⟨_, rfl⟩
            obtain ⟨e9, he9⟩ : ∃ z, z = e := ⟨_, rfl⟩
            obtain ⟨mz9, hmz9'⟩ : ∃ z, z = mz + rl := ⟨_, rfl⟩
            rw [← hrd9', ← he9, ← hmz9'] at J9
            have hmz9 : mz9 ≤ 100 * (i + 1) := by omega
            have hrd9 : rd9 ≤ 32 * ((i + 1 : Nat) : Int) := by omega
            clear hrd9' he9 hmz9' j9 HC JD HCB HPUT HREP HNX k0 K0 e2
            go_wp2_with fail
            refine (resame_any (by omega) w9 J9.out.s J9.out.r).mono ?_
            rintro e v1 ⟨rfl, f1⟩
            have K1 := Lib.hid f1
            clear f1
            go_wp2_with fail
            exact ⟨⟨i + 1, hlt, by simp, Lib.hid ⟨F9, G9, In9, B9, rd9, nx9, e9, mz9, k9, J9.out.wfine K1.out, hmz9, hrd9, hk9⟩⟩, by simp only [intOf]; omega⟩
      · have hk0b : (rk == 0) = false := by simpa using hk0
        by_cases hk1 : rk = 1
        · subst hk1
          go_upto_region 16 with fail
          obtain ⟨wd, hwd⟩ : ∃ z, w5.drew = z := ⟨_, rfl⟩
          have fd : Fine w5 wd := by rw [← hwd]; exact (Fine.refl w5).drew
          have JD := Lib.hid (J5.out.wfine fd)
          have HCB : Hid (∀ w', Kept (fun y => F y ∨ G y) wd w' → w'.cell? ⟨xr, 1, none⟩ = some (.int .i64 rn)) := Lib.hid (fun w' k => by
            have := (B5.out.fine fd).kept k (fun hf => hf.elim hxF hxG)
            exact this.cell 1)
          have hdj := J5.out.dj
          have hINV := J5.out.s.inv
          have hex : ∃ q e9, (∀ w', Fine wd w' → Calls Try.prog 41 #[.pointer (some ⟨g, 0, none⟩), .int .i64 d] w' fun r w'' => r = .returned (.bool q) ∧ Kept F w' w'' ∧ RcS F w'' g In B rd nx e9 mz) ∧ (∀ w', Kept F wd w' → Calls Try.prog 45 #[.pointer (some ⟨x, 0, none⟩), .int .i64 d] w' fun r w'' => r = .returned (.bool q) ∧ Kept G w' w'' ∧ ReS G w'' x In B rd e9 k) := by
            by_cases hE : endB In rd nx e d
            · refine ⟨true, d, fun w' f => (end_any d (by omega) w' (JD.out.s.fine f)).mono ?_, fun w' kf => (retell_any d (by omega) hINV (by omega) w' (JD.out.r.kept kf (fun y hy hf => hdj y hf hy))).mono ?_⟩
              · rintro r w'' ⟨h1, h2 | h2⟩
                · exact ⟨h2.1, h1, h2.2.2⟩
                · exact absurd hE h2.2.1
              · rintro r w'' ⟨h1, h2 | h2⟩
                · exact ⟨h2.1, h1, h2.2.2⟩
                · exact absurd hE h2.2.1
            · refine ⟨false, e, fun w' f => (end_any d (by omega) w' (JD.out.s.fine f)).mono ?_, fun w' kf => (retell_any d (by omega) hINV (by omega) w' (JD.out.r.kept kf (fun y hy hf => hdj y hf hy))).mono ?_⟩
              · rintro r w'' ⟨h1, h2 | h2⟩
                · exact absurd h2.2.1 hE
                · exact ⟨h2.1, h1, h2.2.2⟩
              · rintro r w'' ⟨h1, h2 | h2⟩
                · exact absurd h2.2.1 hE
                · exact ⟨h2.1, h1, h2.2.2⟩
          obtain ⟨q, e9, hE1, hE2⟩ := hex
          have HEND := Lib.hid hE1; have HTEL := Lib.hid hE2
          have HNX : Hid (∀ w', Kept F wd w' → Calls Try.prog 43 #[.pointer (some ⟨x, 0, none⟩)] w' fun r w'' => r = .returned (.int .i64 nx) ∧ Fine w' w'') := Lib.hid (fun w' kf => renext_any w' (by omega) hINV.low hINV.no (by omega) (JD.out.r.kept kf (fun y hy hf => hdj y hf hy)))
          have k0 : Kept F wd wd := Kept.refl _ _
          have K0 : Kept (fun y => F y ∨ G y) wd wd := Kept.refl _ _
          have hcc : (q != q) = false := by simp
          clear hE1 hE2 hdj hINV HD fd c0 c2
          go_cut [70] (fun s70 wx => s70 = .bool false ∧ Hid (Pr w wx g x F G In B rd nx e9 mz k))
          case first =>
            go_region_held3 (fun w' => w'.cell? ⟨xr, 1, none⟩ = some (.int .i64 rn)) (first | (subst hwd; refine HCB.out _ ?_; assumption) | (refine HCB.out _ ?_; assumption)) (first | (go_at_call 45; refine (HTEL.out _ kE).mono ?_; rintro e wF ⟨rfl, kF, r9⟩; have KF : Kept (fun y => F y ∨ G y) wd wF := (kE.mono (fun _ _ h => Or.inl h)).trans (kF.mono (fun _ _ h => Or.inr h))) | (go_at_call 41; refine (HEND.out _ fB).mono ?_; rintro e wC ⟨rfl, kC0, h9⟩; have kC : Kept F wd wC := (Kept.of_fine fB).trans kC0; have KC : Kept (fun y => F y ∨ G y) wd wC := kC.mono (fun _ _ h => Or.inl h)) | (go_at_call 43; refine (HNX.out _ kC).mono ?_; rintro e wD ⟨rfl, fD⟩; have kD := kC.trans (Kept.of_fine fD); have KD : Kept (fun y => F y ∨ G y) wd wD := kD.mono (fun _ _ h => Or.inl h)) | (go_at_call 43; refine (HNX.out _ k0).mono ?_; rintro e wA ⟨rfl, fA⟩; have KA : Kept (fun y => F y ∨ G y) wd wA := Kept.of_fine fA) | (go_at_call 38; refine (HNR.out _).mono ?_; rintro e wE ⟨rfl, fE⟩; have kE := kD.trans (Kept.of_fine fE); have KE : Kept (fun y => F y ∨ G y) wd wE := kE.mono (fun _ _ h => Or.inl h)) | (go_at_call 38; refine (HNR.out _).mono ?_; rintro e wB ⟨rfl, fB0⟩; have fB := fA.trans fB0; have KB : Kept (fun y => F y ∨ G y) wd wB := Kept.of_fine fB))
            all_goals
              have P9 := Lib.hid (JD.out.moved kC h9 (fun y hy => Or.inl hy) (fD.trans fE) kF r9 (fun y hy => Or.inl hy))
              clear kC h9 fB fD fE kF r9 kC0 kD kE KA KB KC KD KE KF fA fB0
              go_wp2_with fail
              go_meet
              exact ⟨rfl, Lib.hid P9.out⟩
          case rest =>
            obtain ⟨rfl, HC⟩ := hcut
            obtain ⟨w9, hw9⟩ : ∃ z, z = wc := ⟨_, rfl⟩
            subst hw9
            have J9 := HC
            obtain ⟨F9, hF9⟩ : ∃ z, z = F := ⟨_, rfl⟩
            obtain ⟨G9, hG9⟩ : ∃ z, z = G := ⟨_, rfl⟩
            obtain ⟨In9, hIn9⟩ : ∃ z, z = In := ⟨_, rfl⟩
            obtain ⟨B9, hB9⟩ : ∃ z, z = B := ⟨_, rfl⟩
            obtain ⟨rd9, hrd9'⟩ : ∃ z, z = rd := ⟨_, rfl⟩
            obtain ⟨nx9, hnx9⟩ : ∃ z, z = nx := ⟨_, rfl⟩
            obtain ⟨mz9, hmz9'⟩ : ∃ z, z = mz := ⟨_, rfl⟩
            obtain ⟨k9, hk9'⟩ : ∃ z, z = k := ⟨_, rfl⟩
            rw [← hF9, ← hG9, ← hIn9, ← hB9, ← hrd9', ← hnx9, ← hmz9', ← hk9'] at J9
            have hmz9 : mz9 ≤ 100 * (i + 1) := by omega
            have hrd9 : rd9 ≤ 32 * ((i + 1 : Nat) : Int) := by omega
            have hk9 : k9 ≤ 33 + 32 * (i + 1) := by omega
            clear HC hF9 hG9 hIn9 hB9 hrd9' hnx9 hmz9' hk9' JD HCB HEND HTEL HNX k0 K0 e2
            go_wp2_with fail
            refine (resame_any (by omega) w9 J9.out.s J9.out.r).mono ?_
            rintro e v1 ⟨rfl, f1⟩
            have K1 := Lib.hid f1
            clear f1
            go_wp2_with fail
            exact ⟨⟨i + 1, hlt, by simp, Lib.hid ⟨F9, G9, In9, B9, rd9, nx9, e9, mz9, k9, J9.out.wfine K1.out, hmz9, hrd9, hk9⟩⟩, by simp only [intOf]; omega⟩
        · have hk1b : (rk == 1) = false := by simpa using hk1
          by_cases hk2 : rk = 2
          · subst hk2
            go_wp2_with fail
            refine (read_any rn HD.out.2.1 (by omega) w5 J5.out.s).mono ?_
            rintro e1 w6 ⟨v, ys, er, rd9, F9, rfl, o8, hA, hB, h9, kk9, hF9, _⟩
            have hINV := J5.out.s.inv
            have hdj := J5.out.dj
            have r6 := J5.out.r.kept kk9 (fun y hy hf => hdj y hf hy)
            have HGET := Lib.hid (reget_any rn HD.out.2.1 hINV (by omega) w6 r6)
            have B6 := Lib.hid (B5.out.kept kk9 hxF)
            have c1' : w6.cell? ⟨xr, 1, none⟩ = some (.int .i64 rn) := B6.out.cell 1
            have hrdb : Hid (rd9 ≤ rd + 32) := Lib.hid (by
              have h1 := hINV.nr; have h2 := hINV.rn
              by_cases h0 : rd + 1 = nx
              · obtain ⟨_, _, h⟩ := hA h0
                omega
              · obtain ⟨_, h3, _⟩ := hB h0
                omega)
            obtain ⟨A8, c8, rfl, rs8, from8⟩ := o8.form
            have HA := Lib.hid hA; have HB := Lib.hid hB; have H9 := Lib.hid h9; have KK9 := Lib.hid kk9; have HF9 := Lib.hid hF9; have RS8 := Lib.hid rs8; have FROM8 := Lib.hid from8
            obtain ⟨ln, hln⟩ : ∃ z, ys.length = z := ⟨_, rfl⟩
            rw [hln]
            have HLN := Lib.hid hln
            clear from8 o8 hA hB h9 kk9 hF9 rs8 hINV hdj r6 c0 c1 c2 e2 hln
            go_wp2_with fail
            refine HGET.out.mono ?_
            rintro e2 w7 ⟨A7, n7, c7, er7, xs7, rd7, rfl, rs7, hn7, hA7, hB7, r7, kG⟩
            have heq : Hid (ys = xs7 ∧ er = er7 ∧ rd9 = rd7) := Lib.hid (by
              by_cases h0 : rd + 1 = nx
              · obtain ⟨a1, a2, a3⟩ := HA.out h0
                obtain ⟨b1, b2, b3⟩ := hA7 h0
                exact ⟨a1.trans b1.symm, a2.trans b2.symm, a3.trans b3.symm⟩
              · obtain ⟨a1, a2, a3⟩ := HB.out h0
                obtain ⟨b1, b2, b3⟩ := hB7 h0
                have h := a2.trans b2.symm
                exact ⟨by rw [a3, b3, h], a1.trans b1.symm, h⟩)
            obtain ⟨q1, q2, q3⟩ := heq.out
            subst q1 q2 q3
            rw [HLN.out] at hn7
            subst hn7
            have P7 := Lib.hid (J5.out.moved KK9.out H9.out HF9.out (Fine.refl w6) kG r7 (fun y hy => Or.inl hy))
            have RS87 : Hid (RS layB w7 A8 c8 ys) := Lib.hid (RS8.out.kept kG (fun b o e hg => by have := FROM8.out b o e; have := J5.out.r.lt b hg; omega))
            have RS77 := Lib.hid rs7
            clear heq rs7 hA7 hB7 r7 kG HA HB H9 KK9 HF9 RS8 FROM8 HGET c1'
            obtain ⟨x9, hx9⟩ : ∃ y, w7.heap.size = y := ⟨_, rfl⟩
            have b9 := Blk.newAt (w := w7) (t := 62) (cs := #[.slice A7 ln c7, .int .i64 er]) hx9.symm
            have f9 := (Fine.refl w7).alloc (.cells #[.slice A7 ln c7, .int .i64 er] 62)
            have hee : (er != er) = false := by simp
            go_upto_region 21 with fail
            generalize w7.alloc (.cells #[.slice A7 ln c7, .int .i64 er] 62) = w8 at b9 f9 ⊢
            have P8 := Lib.hid (P7.out.wfine f9)
            have HSA := Lib.hid (same_any A8 A7 c8 c7 ln ln ys ys HLN.out HLN.out w8 (RS87.out.fine f9) (RS77.out.fine f9))
            rw [decide_eq_true (rfl : ys = ys)] at HSA
            have B98 := Lib.hid b9
            have y0 : w8.cell? ⟨x9, 0, none⟩ = some (.slice A7 ln c7) := b9.cell 0
            have y1 : ∀ p : FineBy w8, p.W.cell? ⟨x9, 1, none⟩ = some (.int .i64 er) := fun p => (B98.out.fine p.h).cell 1
            clear b9 f9 hx9 P7 RS87 RS77 y1
            go_wp2_with fail
            refine HSA.out.mono ?_
            rintro e3 w9 ⟨rfl, f9⟩
            have P9 := Lib.hid (P8.out.wfine f9)
            have y1 : w9.cell? ⟨x9, 1, none⟩ = some (.int .i64 er) := (B98.out.fine f9).cell 1
            clear f9 y0 HSA P8
            obtain ⟨G9, hG9⟩ : ∃ z, z = G := ⟨_, rfl⟩
            obtain ⟨In9, hIn9⟩ : ∃ z, z = In := ⟨_, rfl⟩
            obtain ⟨B9, hB9⟩ : ∃ z, z = B := ⟨_, rfl⟩
            obtain ⟨nx9, hnx9⟩ : ∃ z, z = nx := ⟨_, rfl⟩
            obtain ⟨e9, he9⟩ : ∃ z, z = e := ⟨_, rfl⟩
            obtain ⟨mz9, hmz9'⟩ : ∃ z, z = mz := ⟨_, rfl⟩
            obtain ⟨k9, hk9'⟩ : ∃ z, z = k := ⟨_, rfl⟩
            have J9 := P9
            rw [← hG9, ← hIn9, ← hB9, ← hnx9, ← he9, ← hmz9', ← hk9'] at J9
            have hmz9 : mz9 ≤ 100 * (i + 1) := by omega
            have hrd9 : rd9 ≤ 32 * ((i + 1 : Nat) : Int) := by have := hrdb.out; omega
            have hk9 : k9 ≤ 33 + 32 * (i + 1) := by omega
            clear hG9 hIn9 hB9 hnx9 he9 hmz9' hk9' P9
            go_wp2_with fail
            refine (resame_any (by omega) w9 J9.out.s J9.out.r).mono ?_
            rintro e v1 ⟨rfl, f1⟩
            have K1 := Lib.hid f1
            clear f1
            go_wp2_with fail
            exact ⟨⟨i + 1, hlt, by simp, Lib.hid ⟨F9, G9, In9, B9, rd9, nx9, e9, mz9, k9, J9.out.wfine K1.out, hmz9, hrd9, hk9⟩⟩, by simp only [intOf]; omega⟩
          · have hk2b : (rk == 2) = false := by simpa using hk2
            obtain ⟨F9, hF9⟩ : ∃ z, z = F := ⟨_, rfl⟩
            obtain ⟨G9, hG9⟩ : ∃ z, z = G := ⟨_, rfl⟩
            obtain ⟨In9, hIn9⟩ : ∃ z, z = In := ⟨_, rfl⟩
            obtain ⟨B9, hB9⟩ : ∃ z, z = B := ⟨_, rfl⟩
            obtain ⟨rd9, hrd9'⟩ : ∃ z, z = rd := ⟨_, rfl⟩
            obtain ⟨nx9, hnx9⟩ : ∃ z, z = nx := ⟨_, rfl⟩
            obtain ⟨e9, he9⟩ : ∃ z, z = e := ⟨_, rfl⟩
            obtain ⟨mz9, hmz9'⟩ : ∃ z, z = mz := ⟨_, rfl⟩
            obtain ⟨k9, hk9'⟩ : ∃ z, z = k := ⟨_, rfl⟩
            have J9 := J5
            rw [← hF9, ← hG9, ← hIn9, ← hB9, ← hrd9', ← hnx9, ← he9, ← hmz9', ← hk9'] at J9
            obtain ⟨w9, hw9⟩ : ∃ z, z = w5 := ⟨_, rfl⟩
            have hmz9 : mz9 ≤ 100 * (i + 1) := by omega
            have hrd9 : rd9 ≤ 32 * ((i + 1 : Nat) : Int) := by omega
            have hk9 : k9 ≤ 33 + 32 * (i + 1) := by omega
            clear hF9 hG9 hIn9 hB9 hrd9' hnx9 he9 hmz9' hk9'
            subst hw9
            go_wp2_with fail
            refine (resame_any (by omega) w9 J9.out.s J9.out.r).mono ?_
            rintro e v1 ⟨rfl, f1⟩
            have K1 := Lib.hid f1
            clear f1
            go_wp2_with fail
            exact ⟨⟨i + 1, hlt, by simp, Lib.hid ⟨F9, G9, In9, B9, rd9, nx9, e9, mz9, k9, J9.out.wfine K1.out, hmz9, hrd9, hk9⟩⟩, by simp only [intOf]; omega⟩
    · have hie : i = n := by omega
      subst hie
      go_wp2_with fail
      go_ret
      exact ⟨rfl, J1.out.fine⟩
set_option maxHeartbeats 2000000 in
set_option maxRecDepth 20000 in
theorem lawDrecvActs (w : World) (A : Option Addr) (len cap : Nat) (z : List Da) (h : RS layDa w A cap z ∧ z.length = len ∧ ∀ x ∈ z, DaOk w x) :
    Calls Try.prog 11 #[.slice A len cap] w fun e w' => e = .returned (.bool true) ∧ Below w.heap.size w w' := by
  show Calls _ _ _ _ fun e w' => e = .returned (.bool true) ∧ Fine w w'
  obtain ⟨h1, h2, h3⟩ := h
  by_cases hl : len ≤ 100
  · exact drecvActs_main w A len cap z hl h1 h2 h3
  · clear h1 h2 h3
    have h4 : (len : Int) > 100 := by omega
    go_enter Try.func11, Try.ntmps11
    go_wp2_with fail
    refine (drecvWakes_any w).mono ?_
    rintro r w1 ⟨rfl, f1⟩
    have F1 := Lib.hid f1
    clear f1
    go_wp2_with fail
    go_ret
    exact ⟨rfl, F1.out⟩
end Go.Proofs.Ytnigfdldfmiaiaa
