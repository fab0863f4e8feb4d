/- Two flows: a step, the first one sends. -/
import Derived.Test.YtjldgialhgfhmaaNl
import Derived.Deep.RegionLaw
import Derived.Deep.Cut
import Derived.Deep.CutBlock
namespace Go.Proofs.Ytjldgialhgfhmaa
set_option linter.unusedVariables false
set_option linter.unusedSimpArgs false
open Go.ChangeShapes Go.WideShapes Go.ChangeAt Go.RowKit Go.Maps
set_option linter.unusedVariables false
set_option linter.unusedSimpArgs false
section
variable {col : Nat → Nat} {w0 w : World} {g : Nat} {P : Pr}
set_option maxHeartbeats 16000000 in
set_option maxRecDepth 100000 in
theorem step_send0 (h : PrS col w0 w g P) (kind i : Int) (hk : kind = 3) (hi : -9223372036854775808 ≤ i ∧ i ≤ 9223372036854775807) (hF : Fits P kind i) :
    Calls Try.prog 43 #[.pointer (some ⟨g, 0, none⟩), .agg #[.int .i64 kind, .int .i64 i]] w fun e w' => e = .returned (.tuple #[]) ∧ PrOf col w0 g (P.step kind i) w w' := by
  have HKD := Lib.hid hk
  clear hk
  have HH := Lib.hid h; have HF := Lib.hid hF
  obtain ⟨x3, hx3⟩ : ∃ x, w.heap.size = x := ⟨_, rfl⟩
  have b3 := Blk.newAt (w := w) (t := 79) (cs := #[.int .i64 kind, .int .i64 i]) hx3.symm
  have f3 := (Fine.refl w).alloc (.cells #[.int .i64 kind, .int .i64 i] 79)
  have hc3 : Hid (col x3 = 0) := Lib.hid (by
    obtain ⟨_, _, _, _, _, _, _, _, _, X⟩ := h
    exact Classical.byContradiction fun e => by have := (X.base x3 e).2; omega)
  clear h hF
  go_enter Try.func43, Try.ntmps43
  go_upto_region 1 with fail
  try rw [hx3]
  generalize w.alloc (.cells #[.int .i64 kind, .int .i64 i] 79) = w1 at b3 f3 ⊢
  have B1 := Lib.hid b3; have F1 := Lib.hid f3
  have HX3 : Hid (x3 < w1.heap.size) := Lib.hid b3.lt
  clear b3 f3 hx3
  go_wp2_with fail
  refine (flush_any (HH.out.fine_ F1.out) (fun o ho => HF.out.a.f0.out o ho) (fun o ho => HF.out.a.out1 o ho)).mono ?_
  rintro e w2 ⟨rfl, hr2⟩
  have HR2 := Lib.hid hr2
  obtain ⟨c2, ⟨f0, p1, wA, wc, ks, a0, a1, b0, b1, X⟩, j2, j3⟩ := hr2
  have hc3' : Hid (c2 x3 = 0) := Lib.hid (Classical.byContradiction fun e => (j3 x3 e).elim (fun h => h hc3.out) (fun h => by have := HX3.out; omega))
  have X2 := Lib.hid X; have J2 := Lib.hid j2; have J3 := Lib.hid j3
  have B2 := Lib.hid (B1.out.kept j2 (fun e => e hc3.out))
  obtain ⟨m, hm⟩ : ∃ m, ks.length = m := ⟨_, rfl⟩
  have HM := Lib.hid hm
  have hmb : m ≤ 60 := by
    have h1 := HF.out.b.w
    rw [X.wpl, List.length_map, hm] at h1
    exact h1
  have d0 : w2.cell? ⟨x3, 0, none⟩ = some (.int .i64 kind) := B2.out.cell 0
  have d1 : w2.cell? ⟨x3, 1, none⟩ = some (.int .i64 i) := B2.out.cell 1
  have y2 : w2.cell? ⟨g, 2, none⟩ = some (.slice wA m wc) := by have := X.box.cell 2; rw [hm] at this; exact this
  clear X j2 j3 hm
  go_upto_region 2 with fail
  obtain ⟨iv, hiv⟩ : ∃ z, min (max i 0) ((m : Int) - 1) = z := ⟨_, rfl⟩
  have HIV := Lib.hid hiv
  clear hiv
  go_cut [4] (fun s4 wx => s4 = .int .i64 iv ∧ Hid (Fine w2 wx))
  case first =>
    have em : IntKind.i64.wrap ((m : Int) - 1) = (m : Int) - 1 := IntWalk.i64_in _ (by omega)
    have EI := Lib.hid (ite_min i ((m : Int) - 1))
    go_region_law (fail)
    all_goals
      go_wp2_with fail
      all_goals
        go_meet
        refine ⟨congrArg (Value.int .i64) ?_, Lib.hid (Fine.refl w2).drew⟩
        have hI := HIV.out
        first
        | (rw [EI.out]; exact hI)
        | omega
  case rest =>
  obtain ⟨rfl, HF3⟩ := hcut
  obtain ⟨w3, hw3⟩ : ∃ z, z = wc := ⟨_, rfl⟩
  subst hw3
  clear d0 d1 y2
  have X3 := Lib.hid (X2.out.fine_ HF3.out)
  have J23 := Lib.hid (J2.out.trans (Kept.of_fine HF3.out))
  have B3 := Lib.hid (B2.out.fine HF3.out)
  have HX33 : Hid (x3 < w3.heap.size) := Lib.hid (by have := HX3.out; have := J23.out.size; omega)
  have d0 : w3.cell? ⟨x3, 0, none⟩ = some (.int .i64 kind) := B3.out.cell 0
  have d1 : w3.cell? ⟨x3, 1, none⟩ = some (.int .i64 i) := B3.out.cell 1
  have y2 : w3.cell? ⟨g, 2, none⟩ = some (.slice wA m wc) := by have := X3.out.box.cell 2; rw [HM.out] at this; exact this
  clear X2 J2 B2 HF3 HR2 HX3
  have hk := HKD.out
  subst hk
  clear HKD y2
  have ew0 : IntKind.i64.wrap 0 = 0 := rfl
  have ew1 : IntKind.i64.wrap 1 = 1 := rfl
  go_upto_block 0 with fail
  go_cut [] (fun wx => Hid (PrOf col w0 g (P.flush.act 3 i) w1 wx))
  case rest =>
    obtain ⟨w7, hw7⟩ : ∃ z, z = wc := ⟨_, rfl⟩
    subst hw7
    have HZ := hcut
    obtain ⟨c7, hS7, k7, l7⟩ := HZ.out
    have HS7 := Lib.hid hS7; have K7 := Lib.hid k7; have L7 := Lib.hid l7
    clear hS7 k7 l7
    go_wp2_with fail
    refine (flush_any HS7.out (fun o ho => HF.out.c.f0.out o ho) (fun o ho => HF.out.c.out1 o ho)).mono ?_
    rintro e wZ ⟨rfl, hZ⟩
    have HZZ := Lib.hid (PrOf.made (PrOf.after K7.out L7.out hZ) F1.out)
    clear hZ
    go_wp2_with fail
    exact bodyPost_end (v := .tuple #[]) (by simp [results, Try.results43, go_sem]) rfl ⟨rfl, HZZ.out⟩
  case first =>
  obtain ⟨x6, hx6⟩ : ∃ z, w3.heap.size = z := ⟨_, rfl⟩
  have hc6 : Hid (c2 x6 = 0) := Lib.hid (Classical.byContradiction fun e => by have := (X3.out.base x6 e).2; omega)
  have HX6 := Lib.hid hx6
  clear hx6
  go_wp2_with fail
  refine (lbytes_any i w3).mono ?_
  rintro e w4 ⟨n, rfl, hn, hn12, hb, f4⟩
  rw [HX6.out] at hb
  rw [HX6.out]
  have X4 := Lib.hid (X3.out.fine_ f4)
  have B34 := Lib.hid (B3.out.fine f4)
  have J24 := Lib.hid (J23.out.trans (Kept.of_fine f4))
  have HN : Hid (n = (bytesN i).length) := Lib.hid hn
  have HR := Lib.hid (RS.ofBlk (E := LB) (xs := bytesN i) hb rfl hn (by unfold maxLen; omega))
  have HX64 : Hid (x6 < w4.heap.size) := Lib.hid hb.lt
  have hx34 : Hid (x3 < w4.heap.size) := Lib.hid B34.out.lt
  obtain ⟨tick, htick⟩ : ∃ z, P.flush.tick = z := ⟨_, rfl⟩
  have HTK := Lib.hid htick
  have d0 : w4.cell? ⟨x3, 0, none⟩ = some (.int .i64 3) := B34.out.cell 0
  have y7 : w4.cell? ⟨g, 7, none⟩ = some (.int .i64 tick) := by have := X4.out.box.cell 7; rw [← htick]; exact this
  clear hn hb f4 htick d1 X3 B3 J23 HX33
  have HT : Hid (0 ≤ P.flush.tick ∧ P.flush.tick ≤ 1099511627776) := Lib.hid (by have := HF.out.b.t; omega)
  by_cases hc : P.flush.f0.canSend (bytesN i)
  · have HS : Hid (∀ w', Fine w4 w' → Calls Try.prog 57 #[.pointer (some ⟨f0, 0, none⟩), .slice (some ⟨x6, 0, none⟩) n n, .int .i64 1, .bool false, .int .i64 tick] w' fun e w'' => e = .returned (.int .i64 0) ∧ SentOf c2 w0 g { P.flush with f0 := P.flush.f0.send (dataP (bytesN i)) P.flush.tick } (some ⟨x6, 0, none⟩) n (bytesN i) w' w'') := Lib.hid (fun w' f => by
      have := X4.out.send0 (HF.out.b.f0) HT.out HN.out.symm HR.out (fun b o e => by injection e with e; injection e with e; rw [← e]; exact hc6.out) hc w' f
      rw [← HTK.out]
      exact this)
    have y0 : w4.cell? ⟨g, 0, none⟩ = some (.pointer (some ⟨f0, 0, none⟩)) := X4.out.box.cell 0
    have HACT : Hid (P.flush.act 3 i = { P.flush with f0 := P.flush.f0.send (dataP (bytesN i)) P.flush.tick, s0 := P.flush.s0 ++ bytesN i }) := Lib.hid (act_send0 hc)
    clear hc
    go_upto_region 11 with fail
    go_cut [95] (fun s95 wx => s95 = .bool true ∧ Hid (SentOf c2 w0 g { P.flush with f0 := P.flush.f0.send (dataP (bytesN i)) P.flush.tick } (some ⟨x6, 0, none⟩) n (bytesN i) w4 wx))
    case first =>
      go_region_law (go_simp; go_at_call 57; refine (HS.out _ (by first | exact (Fine.refl w4).drew | exact Fine.refl w4)).mono ?_; rintro e wF ⟨rfl, R⟩; have RR := Lib.hid R; clear R)
      all_goals
        go_wp2_with fail
        go_meet
        exact ⟨rfl, Lib.hid (by first | exact RR.out.made (Fine.refl w4).drew | exact RR.out)⟩
    case rest =>
      obtain ⟨rfl, H5⟩ := hcut
      obtain ⟨w5, hw5⟩ : ∃ z, z = wc := ⟨_, rfl⟩
      subst hw5
      obtain ⟨c5, ⟨q0, q1, qA, qc, qs, qa0, qa1, qb0, qb1, X5⟩, r5, k5, l5⟩ := H5.out
      obtain ⟨vA5, vn5, vc5⟩ := qa0
      have B35 := Lib.hid (B34.out.kept k5 (fun e => e hc3'.out))
      have hx5 : Hid (c5 x3 = 0) := Lib.hid (Classical.byContradiction fun e => (l5 x3 e).elim (fun e2 => e2 hc3'.out) (fun e2 => by have := hx34.out; omega))
      have y5 : w5.cell? ⟨g, 3, none⟩ = some (.slice vA5 vn5 vc5) := X5.box.cell 3
      have z5 := X5.box.frozen 3
      have d0 : w5.cell? ⟨x3, 0, none⟩ = some (.int .i64 3) := B35.out.cell 0
      have X5' := Lib.hid X5; have R5 := Lib.hid r5; have K5 := Lib.hid k5; have L5 := Lib.hid l5
      have HL5 : Hid (P.flush.s0.length ≤ 1000000) := Lib.hid HF.out.b.s0
      clear X5 r5 k5 l5 H5 HS y0 y7
      go_upto_region 12 with fail
      go_region_law (refine step_appE rfl sliceB (.tmp 107) (.tmp 108) rfl 0 (.slice vA5 vn5 vc5) P.flush.s0 rfl X5'.out.r0 (some ⟨x6, 0, none⟩) n n (bytesN i) rfl HN.out (R5.out.fine (by first | exact (Fine.refl w5).drew | exact Fine.refl w5)) (by have := HL5.out; have := HN.out; omega) (by have := HL5.out; have := HN.out; unfold maxLen; omega) (Nat.zero_le _) ?_; intro x2 wB oB kB0 gB0 bB; obtain ⟨A3, c3, hx2, _, _⟩ := oB.form; obtain ⟨n3, hn3⟩ : ∃ z, (P.flush.s0 ++ bytesN i).length = z := ⟨_, rfl⟩; rw [hn3] at hx2; subst hx2; have KB : Kept (fun y => (Value.slice vA5 vn5 vc5).ownBlock = some y) w5.drew wB := Kept.grown (Kept.refl _ _) gB0 (fun k hk _ => hk); have BB := (X5'.out.fine_ (Fine.refl w5).drew).box.kept KB (fun e => by have e := X5'.out.c0 g e; rw [X5'.out.cg] at e; cases e); have yB0 := BB.cell 3; have yB1 := BB.frozen 3; have b3B := (B35.out.fine (Fine.refl w5).drew).kept KB (fun e => by have e := X5'.out.c0 x3 e; rw [hx5.out] at e; cases e); have yd0 : wB.cell? ⟨x3, 0, none⟩ = some (.int .i64 3) := b3B.cell 0; have OB := Lib.hid oB; have KB' := Lib.hid KB; have BB' := Lib.hid bB; clear oB kB0 gB0 bB BB KB hn3 b3B)
      all_goals
        go_wp2_with fail
        go_meet
        have HG := X5'.out.grew_s0 (Fine.refl w5).drew (v3 := ⟨A3, n3, c3⟩) KB'.out OB.out BB'.out
        rw [HACT.out]
        exact Lib.hid (PrOf.after J24.out J3.out (PrOf.after K5.out L5.out HG))
  · obtain ⟨q4, hq4⟩ : ∃ z : Option Addr, some ⟨f0, 0, none⟩ = z := ⟨_, rfl⟩
    have HQ4 := Lib.hid hq4
    have y0 : w4.cell? ⟨g, 0, none⟩ = some (.pointer q4) := by rw [← hq4]; exact X4.out.box.cell 0
    clear hq4
    have HS : Hid (∀ w', Fine w4 w' → Calls Try.prog 57 #[.pointer q4, .slice (some ⟨x6, 0, none⟩) n n, .int .i64 1, .bool false, .int .i64 tick] w' fun e w'' => (∃ k : Int, k ≠ 0 ∧ e = .returned (.int .i64 k)) ∧ Fine w' w'') := Lib.hid (fun w' f => by
      have := (X4.out.nosend (A := some ⟨x6, 0, none⟩) (c := n) HN.out.symm).1 hc w' f
      rw [← HQ4.out, ← HTK.out]
      exact this)
    have HACT : Hid (P.flush.act 3 i = P.flush) := Lib.hid (act_nosend0 hc)
    clear hc
    go_upto_region 11 with fail
    go_cut [95] (fun s95 wx => s95 = .bool false ∧ Hid (Fine w4 wx))
    case first =>
      go_region_law (go_simp; go_at_call 57; refine (HS.out _ (by first | exact (Fine.refl w4).drew | exact Fine.refl w4)).mono ?_; rintro e wF ⟨⟨kr, hkr, rfl⟩, R⟩; have gk : (kr == 0) = false := (by simpa using hkr); have RR := Lib.hid R; clear R hkr)
      all_goals
        go_wp2_with fail
        go_meet
        first
        | exact ⟨rfl, Lib.hid (by first | exact (Fine.refl w4).drew.trans RR.out | exact RR.out)⟩
        | exact ⟨by rw [gk], Lib.hid (by first | exact (Fine.refl w4).drew.trans RR.out | exact RR.out)⟩
    case rest =>
      obtain ⟨rfl, H5⟩ := hcut
      obtain ⟨w5, hw5⟩ : ∃ z, z = wc := ⟨_, rfl⟩
      subst hw5
      have HZ := Lib.hid (PrOf.after J24.out J3.out (PrOf.self ⟨_, _, _, _, _, _, _, _, _, X4.out⟩ H5.out))
      have HZ : Hid (PrOf col w0 g (P.flush.act 3 i) w1 w5) := Lib.hid (by rw [HACT.out]; exact HZ.out)
      clear H5 y0 y7 HS
      go_wp2_with fail
      go_meet
      exact HZ
end
end Go.Proofs.Ytjldgialhgfhmaa
