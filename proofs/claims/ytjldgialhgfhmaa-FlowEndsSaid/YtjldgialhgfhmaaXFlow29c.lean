/- Two flows: a step, one closes, nothing. -/
import Derived.Test.YtjldgialhgfhmaaNl
import Derived.Deep.RegionLaw
import Derived.Deep.Cut
import Derived.Deep.CutBlock
namespace Go.Proofs.Ytjldgialhgfhmaa
set_option linter.unusedVariables false
set_option linter.unusedSimpArgs false
open Go.ChangeShapes Go.WideShapes Go.ChangeAt Go.RowKit Go.Maps
set_option linter.unusedVariables false
set_option linter.unusedSimpArgs false
section
variable {col : Nat → Nat} {w0 w : World} {g : Nat} {P : Pr}
set_option maxHeartbeats 16000000 in
set_option maxRecDepth 100000 in
theorem step_close0 (h : PrS col w0 w g P) (kind i : Int) (hk : kind = 5) (hi : -9223372036854775808 ≤ i ∧ i ≤ 9223372036854775807) (hF : Fits P kind i) :
    Calls Try.prog 43 #[.pointer (some ⟨g, 0, none⟩), .agg #[.int .i64 kind, .int .i64 i]] w fun e w' => e = .returned (.tuple #[]) ∧ PrOf col w0 g (P.step kind i) w w' := by
  have HKD := Lib.hid hk
  clear hk
  have HH := Lib.hid h; have HF := Lib.hid hF
  obtain ⟨x3, hx3⟩ : ∃ x, w.heap.size = x := ⟨_, rfl⟩
  have b3 := Blk.newAt (w := w) (t := 79) (cs := #[.int .i64 kind, .int .i64 i]) hx3.symm
  have f3 := (Fine.refl w).alloc (.cells #[.int .i64 kind, .int .i64 i] 79)
  have hc3 : Hid (col x3 = 0) := Lib.hid (by
    obtain ⟨_, _, _, _, _, _, _, _, _, X⟩ := h
    exact Classical.byContradiction fun e => by have := (X.base x3 e).2; omega)
  clear h hF
  go_enter Try.func43, Try.ntmps43
  go_upto_region 1 with fail
  try rw [hx3]
  generalize w.alloc (.cells #[.int .i64 kind, .int .i64 i] 79) = w1 at b3 f3 ⊢
  have B1 := Lib.hid b3; have F1 := Lib.hid f3
  have HX3 : Hid (x3 < w1.heap.size) := Lib.hid b3.lt
  clear b3 f3 hx3
  go_wp2_with fail
  refine (flush_any (HH.out.fine_ F1.out) (fun o ho => HF.out.a.f0.out o ho) (fun o ho => HF.out.a.out1 o ho)).mono ?_
  rintro e w2 ⟨rfl, hr2⟩
  have HR2 := Lib.hid hr2
  obtain ⟨c2, ⟨f0, p1, wA, wc, ks, a0, a1, b0, b1, X⟩, j2, j3⟩ := hr2
  have hc3' : Hid (c2 x3 = 0) := Lib.hid (Classical.byContradiction fun e => (j3 x3 e).elim (fun h => h hc3.out) (fun h => by have := HX3.out; omega))
  have X2 := Lib.hid X; have J2 := Lib.hid j2; have J3 := Lib.hid j3
  have B2 := Lib.hid (B1.out.kept j2 (fun e => e hc3.out))
  obtain ⟨m, hm⟩ : ∃ m, ks.length = m := ⟨_, rfl⟩
  have HM := Lib.hid hm
  have hmb : m ≤ 60 := by
    have h1 := HF.out.b.w
    rw [X.wpl, List.length_map, hm] at h1
    exact h1
  have d0 : w2.cell? ⟨x3, 0, none⟩ = some (.int .i64 kind) := B2.out.cell 0
  have d1 : w2.cell? ⟨x3, 1, none⟩ = some (.int .i64 i) := B2.out.cell 1
  have y2 : w2.cell? ⟨g, 2, none⟩ = some (.slice wA m wc) := by have := X.box.cell 2; rw [hm] at this; exact this
  clear X j2 j3 hm
  go_upto_region 2 with fail
  obtain ⟨iv, hiv⟩ : ∃ z, min (max i 0) ((m : Int) - 1) = z := ⟨_, rfl⟩
  have HIV := Lib.hid hiv
  clear hiv
  go_cut [4] (fun s4 wx => s4 = .int .i64 iv ∧ Hid (Fine w2 wx))
  case first =>
    have em : IntKind.i64.wrap ((m : Int) - 1) = (m : Int) - 1 := IntWalk.i64_in _ (by omega)
    have EI := Lib.hid (ite_min i ((m : Int) - 1))
    go_region_law (fail)
    all_goals
      go_wp2_with fail
      all_goals
        go_meet
        refine ⟨congrArg (Value.int .i64) ?_, Lib.hid (Fine.refl w2).drew⟩
        have hI := HIV.out
        first
        | (rw [EI.out]; exact hI)
        | omega
  case rest =>
  obtain ⟨rfl, HF3⟩ := hcut
  obtain ⟨w3, hw3⟩ : ∃ z, z = wc := ⟨_, rfl⟩
  subst hw3
  clear d0 d1 y2
  have X3 := Lib.hid (X2.out.fine_ HF3.out)
  have J23 := Lib.hid (J2.out.trans (Kept.of_fine HF3.out))
  have B3 := Lib.hid (B2.out.fine HF3.out)
  have HX33 : Hid (x3 < w3.heap.size) := Lib.hid (by have := HX3.out; have := J23.out.size; omega)
  have d0 : w3.cell? ⟨x3, 0, none⟩ = some (.int .i64 kind) := B3.out.cell 0
  have d1 : w3.cell? ⟨x3, 1, none⟩ = some (.int .i64 i) := B3.out.cell 1
  have y2 : w3.cell? ⟨g, 2, none⟩ = some (.slice wA m wc) := by have := X3.out.box.cell 2; rw [HM.out] at this; exact this
  clear X2 J2 B2 HF3 HR2 HX3
  have hk := HKD.out
  subst hk
  clear HKD y2 d1
  have ew0 : IntKind.i64.wrap 0 = 0 := rfl
  have ew1 : IntKind.i64.wrap 1 = 1 := rfl
  obtain ⟨tick, htick⟩ : ∃ z, P.flush.tick = z := ⟨_, rfl⟩
  have HTK := Lib.hid htick
  have HT : Hid (0 ≤ P.flush.tick ∧ P.flush.tick ≤ 1099511627776) := Lib.hid (by have := HF.out.b.t; omega)
  have y7 : w3.cell? ⟨g, 7, none⟩ = some (.int .i64 tick) := by have := X3.out.box.cell 7; rw [← htick]; exact this
  clear htick
  go_upto_block 0 with fail
  go_cut [] (fun wx => Hid (PrOf col w0 g (P.flush.act 5 i) w1 wx))
  case rest =>
    obtain ⟨w7, hw7⟩ : ∃ z, z = wc := ⟨_, rfl⟩
    subst hw7
    have HZ := hcut
    obtain ⟨c7, hS7, k7, l7⟩ := HZ.out
    have HS7 := Lib.hid hS7; have K7 := Lib.hid k7; have L7 := Lib.hid l7
    clear hS7 k7 l7
    go_wp2_with fail
    refine (flush_any HS7.out (fun o ho => HF.out.c.f0.out o ho) (fun o ho => HF.out.c.out1 o ho)).mono ?_
    rintro e wZ ⟨rfl, hZ⟩
    have HZZ := Lib.hid (PrOf.made (PrOf.after K7.out L7.out hZ) F1.out)
    clear hZ
    go_wp2_with fail
    exact bodyPost_end (v := .tuple #[]) (by simp [results, Try.results43, go_sem]) rfl ⟨rfl, HZZ.out⟩
  case first =>
    have HS : Hid (∀ w', Fine w3 w' → Calls Try.prog 58 #[.pointer (some ⟨f0, 0, none⟩), .int .i64 tick] w' fun e w'' => (∃ k : Int, e = .returned (.int .i64 k)) ∧ PrOf c2 w0 g { P.flush with f0 := P.flush.f0.close P.flush.tick } w' w'') := Lib.hid (fun w' f => by
      have := X3.out.close0 HF.out.b.f0 HT.out w' f
      rw [← HTK.out]
      exact this)
    have HACT : Hid (P.flush.act 5 i = { P.flush with f0 := P.flush.f0.close P.flush.tick }) := Lib.hid act_close0
    have y0 : w3.cell? ⟨g, 0, none⟩ = some (.pointer (some ⟨f0, 0, none⟩)) := X3.out.box.cell 0
    go_upto_region 14 with fail
    go_region_law (go_simp; go_at_call 58; refine (HS.out _ (by first | exact (Fine.refl w3).drew | exact Fine.refl w3)).mono ?_; rintro e wF ⟨⟨kr, rfl⟩, R⟩; have RR := Lib.hid R; clear R)
    all_goals
      go_wp2_with fail
      go_meet
      rw [HACT.out]
      exact Lib.hid (PrOf.after J23.out J3.out (by first | exact RR.out.made (Fine.refl w3).drew | exact RR.out))
set_option maxHeartbeats 16000000 in
set_option maxRecDepth 100000 in
theorem step_close1 (h : PrS col w0 w g P) (kind i : Int) (hk : kind = 6) (hi : -9223372036854775808 ≤ i ∧ i ≤ 9223372036854775807) (hF : Fits P kind i) :
    Calls Try.prog 43 #[.pointer (some ⟨g, 0, none⟩), .agg #[.int .i64 kind, .int .i64 i]] w fun e w' => e = .returned (.tuple #[]) ∧ PrOf col w0 g (P.step kind i) w w' := by
  have HKD := Lib.hid hk
  clear hk
  have HH := Lib.hid h; have HF := Lib.hid hF
  obtain ⟨x3, hx3⟩ : ∃ x, w.heap.size = x := ⟨_, rfl⟩
  have b3 := Blk.newAt (w := w) (t := 79) (cs := #[.int .i64 kind, .int .i64 i]) hx3.symm
  have f3 := (Fine.refl w).alloc (.cells #[.int .i64 kind, .int .i64 i] 79)
  have hc3 : Hid (col x3 = 0) := Lib.hid (by
    obtain ⟨_, _, _, _, _, _, _, _, _, X⟩ := h
    exact Classical.byContradiction fun e => by have := (X.base x3 e).2; omega)
  clear h hF
  go_enter Try.func43, Try.ntmps43
  go_upto_region 1 with fail
  try rw [hx3]
  generalize w.alloc (.cells #[.int .i64 kind, .int .i64 i] 79) = w1 at b3 f3 ⊢
  have B1 := Lib.hid b3; have F1 := Lib.hid f3
  have HX3 : Hid (x3 < w1.heap.size) := Lib.hid b3.lt
  clear b3 f3 hx3
  go_wp2_with fail
  refine (flush_any (HH.out.fine_ F1.out) (fun o ho => HF.out.a.f0.out o ho) (fun o ho => HF.out.a.out1 o ho)).mono ?_
  rintro e w2 ⟨rfl, hr2⟩
  have HR2 := Lib.hid hr2
  obtain ⟨c2, ⟨f0, p1, wA, wc, ks, a0, a1, b0, b1, X⟩, j2, j3⟩ := hr2
  have hc3' : Hid (c2 x3 = 0) := Lib.hid (Classical.byContradiction fun e => (j3 x3 e).elim (fun h => h hc3.out) (fun h => by have := HX3.out; omega))
  have X2 := Lib.hid X; have J2 := Lib.hid j2; have J3 := Lib.hid j3
  have B2 := Lib.hid (B1.out.kept j2 (fun e => e hc3.out))
  obtain ⟨m, hm⟩ : ∃ m, ks.length = m := ⟨_, rfl⟩
  have HM := Lib.hid hm
  have hmb : m ≤ 60 := by
    have h1 := HF.out.b.w
    rw [X.wpl, List.length_map, hm] at h1
    exact h1
  have d0 : w2.cell? ⟨x3, 0, none⟩ = some (.int .i64 kind) := B2.out.cell 0
  have d1 : w2.cell? ⟨x3, 1, none⟩ = some (.int .i64 i) := B2.out.cell 1
  have y2 : w2.cell? ⟨g, 2, none⟩ = some (.slice wA m wc) := by have := X.box.cell 2; rw [hm] at this; exact this
  clear X j2 j3 hm
  go_upto_region 2 with fail
  obtain ⟨iv, hiv⟩ : ∃ z, min (max i 0) ((m : Int) - 1) = z := ⟨_, rfl⟩
  have HIV := Lib.hid hiv
  clear hiv
  go_cut [4] (fun s4 wx => s4 = .int .i64 iv ∧ Hid (Fine w2 wx))
  case first =>
    have em : IntKind.i64.wrap ((m : Int) - 1) = (m : Int) - 1 := IntWalk.i64_in _ (by omega)
    have EI := Lib.hid (ite_min i ((m : Int) - 1))
    go_region_law (fail)
    all_goals
      go_wp2_with fail
      all_goals
        go_meet
        refine ⟨congrArg (Value.int .i64) ?_, Lib.hid (Fine.refl w2).drew⟩
        have hI := HIV.out
        first
        | (rw [EI.out]; exact hI)
        | omega
  case rest =>
  obtain ⟨rfl, HF3⟩ := hcut
  obtain ⟨w3, hw3⟩ : ∃ z, z = wc := ⟨_, rfl⟩
  subst hw3
  clear d0 d1 y2
  have X3 := Lib.hid (X2.out.fine_ HF3.out)
  have J23 := Lib.hid (J2.out.trans (Kept.of_fine HF3.out))
  have B3 := Lib.hid (B2.out.fine HF3.out)
  have HX33 : Hid (x3 < w3.heap.size) := Lib.hid (by have := HX3.out; have := J23.out.size; omega)
  have d0 : w3.cell? ⟨x3, 0, none⟩ = some (.int .i64 kind) := B3.out.cell 0
  have d1 : w3.cell? ⟨x3, 1, none⟩ = some (.int .i64 i) := B3.out.cell 1
  have y2 : w3.cell? ⟨g, 2, none⟩ = some (.slice wA m wc) := by have := X3.out.box.cell 2; rw [HM.out] at this; exact this
  clear X2 J2 B2 HF3 HR2 HX3
  have hk := HKD.out
  subst hk
  clear HKD y2 d1
  have ew0 : IntKind.i64.wrap 0 = 0 := rfl
  have ew1 : IntKind.i64.wrap 1 = 1 := rfl
  obtain ⟨tick, htick⟩ : ∃ z, P.flush.tick = z := ⟨_, rfl⟩
  have HTK := Lib.hid htick
  have HT : Hid (0 ≤ P.flush.tick ∧ P.flush.tick ≤ 1099511627776) := Lib.hid (by have := HF.out.b.t; omega)
  have y7 : w3.cell? ⟨g, 7, none⟩ = some (.int .i64 tick) := by have := X3.out.box.cell 7; rw [← htick]; exact this
  clear htick
  go_upto_block 0 with fail
  go_cut [] (fun wx => Hid (PrOf col w0 g (P.flush.act 6 i) w1 wx))
  case rest =>
    obtain ⟨w7, hw7⟩ : ∃ z, z = wc := ⟨_, rfl⟩
    subst hw7
    have HZ := hcut
    obtain ⟨c7, hS7, k7, l7⟩ := HZ.out
    have HS7 := Lib.hid hS7; have K7 := Lib.hid k7; have L7 := Lib.hid l7
    clear hS7 k7 l7
    go_wp2_with fail
    refine (flush_any HS7.out (fun o ho => HF.out.c.f0.out o ho) (fun o ho => HF.out.c.out1 o ho)).mono ?_
    rintro e wZ ⟨rfl, hZ⟩
    have HZZ := Lib.hid (PrOf.made (PrOf.after K7.out L7.out hZ) F1.out)
    clear hZ
    go_wp2_with fail
    exact bodyPost_end (v := .tuple #[]) (by simp [results, Try.results43, go_sem]) rfl ⟨rfl, HZZ.out⟩
  case first =>
    obtain ⟨q4, hq4⟩ : ∃ z : Option Addr, p1.map (fun f => (⟨f, 0, none⟩ : Addr)) = z := ⟨_, rfl⟩
    have HQ4 := Lib.hid hq4
    have HS : Hid (∀ w', Fine w3 w' → Calls Try.prog 58 #[.pointer q4, .int .i64 tick] w' fun e w'' => (∃ k : Int, e = .returned (.int .i64 k)) ∧ PrOf c2 w0 g { P.flush with f1 := P.flush.f1.map (fun S => S.close P.flush.tick) } w' w'') := Lib.hid (fun w' f => by
      have := X3.out.close1 HF.out.b.f1 HT.out w' f
      rw [← HTK.out, ← HQ4.out]
      exact this)
    have HACT : Hid (P.flush.act 6 i = { P.flush with f1 := P.flush.f1.map (fun S => S.close P.flush.tick) }) := Lib.hid act_close1
    have y0 : w3.cell? ⟨g, 1, none⟩ = some (.pointer q4) := by rw [← hq4]; exact X3.out.box.cell 1
    clear hq4
    go_upto_region 14 with fail
    go_region_law (go_simp; go_at_call 58; refine (HS.out _ (by first | exact (Fine.refl w3).drew | exact Fine.refl w3)).mono ?_; rintro e wF ⟨⟨kr, rfl⟩, R⟩; have RR := Lib.hid R; clear R)
    all_goals
      go_wp2_with fail
      go_meet
      rw [HACT.out]
      exact Lib.hid (PrOf.after J23.out J3.out (by first | exact RR.out.made (Fine.refl w3).drew | exact RR.out))
set_option maxHeartbeats 16000000 in
set_option maxRecDepth 100000 in
theorem step_none (h : PrS col w0 w g P) (kind i : Int) (hk : kind < 0 ∨ 7 < kind ∨ (0 ≤ kind ∧ kind ≤ 2 ∧ P.flush.way = [])) (hi : -9223372036854775808 ≤ i ∧ i ≤ 9223372036854775807) (hF : Fits P kind i) :
    Calls Try.prog 43 #[.pointer (some ⟨g, 0, none⟩), .agg #[.int .i64 kind, .int .i64 i]] w fun e w' => e = .returned (.tuple #[]) ∧ PrOf col w0 g (P.step kind i) w w' := by
  have HKD := Lib.hid hk
  clear hk
  have HH := Lib.hid h; have HF := Lib.hid hF
  obtain ⟨x3, hx3⟩ : ∃ x, w.heap.size = x := ⟨_, rfl⟩
  have b3 := Blk.newAt (w := w) (t := 79) (cs := #[.int .i64 kind, .int .i64 i]) hx3.symm
  have f3 := (Fine.refl w).alloc (.cells #[.int .i64 kind, .int .i64 i] 79)
  have hc3 : Hid (col x3 = 0) := Lib.hid (by
    obtain ⟨_, _, _, _, _, _, _, _, _, X⟩ := h
    exact Classical.byContradiction fun e => by have := (X.base x3 e).2; omega)
  clear h hF
  go_enter Try.func43, Try.ntmps43
  go_upto_region 1 with fail
  try rw [hx3]
  generalize w.alloc (.cells #[.int .i64 kind, .int .i64 i] 79) = w1 at b3 f3 ⊢
  have B1 := Lib.hid b3; have F1 := Lib.hid f3
  have HX3 : Hid (x3 < w1.heap.size) := Lib.hid b3.lt
  clear b3 f3 hx3
  go_wp2_with fail
  refine (flush_any (HH.out.fine_ F1.out) (fun o ho => HF.out.a.f0.out o ho) (fun o ho => HF.out.a.out1 o ho)).mono ?_
  rintro e w2 ⟨rfl, hr2⟩
  have HR2 := Lib.hid hr2
  obtain ⟨c2, ⟨f0, p1, wA, wc, ks, a0, a1, b0, b1, X⟩, j2, j3⟩ := hr2
  have hc3' : Hid (c2 x3 = 0) := Lib.hid (Classical.byContradiction fun e => (j3 x3 e).elim (fun h => h hc3.out) (fun h => by have := HX3.out; omega))
  have X2 := Lib.hid X; have J2 := Lib.hid j2; have J3 := Lib.hid j3
  have B2 := Lib.hid (B1.out.kept j2 (fun e => e hc3.out))
  obtain ⟨m, hm⟩ : ∃ m, ks.length = m := ⟨_, rfl⟩
  have HM := Lib.hid hm
  have hmb : m ≤ 60 := by
    have h1 := HF.out.b.w
    rw [X.wpl, List.length_map, hm] at h1
    exact h1
  have d0 : w2.cell? ⟨x3, 0, none⟩ = some (.int .i64 kind) := B2.out.cell 0
  have d1 : w2.cell? ⟨x3, 1, none⟩ = some (.int .i64 i) := B2.out.cell 1
  have y2 : w2.cell? ⟨g, 2, none⟩ = some (.slice wA m wc) := by have := X.box.cell 2; rw [hm] at this; exact this
  clear X j2 j3 hm
  go_upto_region 2 with fail
  obtain ⟨iv, hiv⟩ : ∃ z, min (max i 0) ((m : Int) - 1) = z := ⟨_, rfl⟩
  have HIV := Lib.hid hiv
  clear hiv
  go_cut [4] (fun s4 wx => s4 = .int .i64 iv ∧ Hid (Fine w2 wx))
  case first =>
    have em : IntKind.i64.wrap ((m : Int) - 1) = (m : Int) - 1 := IntWalk.i64_in _ (by omega)
    have EI := Lib.hid (ite_min i ((m : Int) - 1))
    go_region_law (fail)
    all_goals
      go_wp2_with fail
      all_goals
        go_meet
        refine ⟨congrArg (Value.int .i64) ?_, Lib.hid (Fine.refl w2).drew⟩
        have hI := HIV.out
        first
        | (rw [EI.out]; exact hI)
        | omega
  case rest =>
  obtain ⟨rfl, HF3⟩ := hcut
  obtain ⟨w3, hw3⟩ : ∃ z, z = wc := ⟨_, rfl⟩
  subst hw3
  clear d0 d1 y2
  have X3 := Lib.hid (X2.out.fine_ HF3.out)
  have J23 := Lib.hid (J2.out.trans (Kept.of_fine HF3.out))
  have B3 := Lib.hid (B2.out.fine HF3.out)
  have HX33 : Hid (x3 < w3.heap.size) := Lib.hid (by have := HX3.out; have := J23.out.size; omega)
  have d0 : w3.cell? ⟨x3, 0, none⟩ = some (.int .i64 kind) := B3.out.cell 0
  have d1 : w3.cell? ⟨x3, 1, none⟩ = some (.int .i64 i) := B3.out.cell 1
  have y2 : w3.cell? ⟨g, 2, none⟩ = some (.slice wA m wc) := by have := X3.out.box.cell 2; rw [HM.out] at this; exact this
  clear X2 J2 B2 HF3 HR2 HX3
  have HZ : Hid (PrOf col w0 g (P.flush.act kind i) w1 w3) := Lib.hid (by
    rw [act_none (by have := HKD.out; rcases this with h | h | h; exact .inl h; exact .inr (.inl h); exact .inr (.inr h.2))]
    exact ⟨c2, ⟨_, _, _, _, _, _, _, _, _, X3.out⟩, J23.out, J3.out⟩)
  have g3 : (kind == 3) = false := by have := HKD.out; simp; omega
  have g4 : (kind == 4) = false := by have := HKD.out; simp; omega
  have g5 : (kind == 5) = false := by have := HKD.out; simp; omega
  have g6 : (kind == 6) = false := by have := HKD.out; simp; omega
  have g7 : (kind == 7) = false := by have := HKD.out; simp; omega
  clear y2 d1
  go_upto_block 0 with fail
  go_cut [] (fun wx => Hid (PrOf col w0 g (P.flush.act kind i) w1 wx))
  case rest =>
    obtain ⟨w7, hw7⟩ : ∃ z, z = wc := ⟨_, rfl⟩
    subst hw7
    have HZ := hcut
    obtain ⟨c7, hS7, k7, l7⟩ := HZ.out
    have HS7 := Lib.hid hS7; have K7 := Lib.hid k7; have L7 := Lib.hid l7
    clear hS7 k7 l7
    go_wp2_with fail
    refine (flush_any HS7.out (fun o ho => HF.out.c.f0.out o ho) (fun o ho => HF.out.c.out1 o ho)).mono ?_
    rintro e wZ ⟨rfl, hZ⟩
    have HZZ := Lib.hid (PrOf.made (PrOf.after K7.out L7.out hZ) F1.out)
    clear hZ
    go_wp2_with fail
    exact bodyPost_end (v := .tuple #[]) (by simp [results, Try.results43, go_sem]) rfl ⟨rfl, HZZ.out⟩
  case first =>
    rcases HKD.out with hk | hk | hk
    · have hb1 : decide (kind ≤ 2) = true := decide_eq_true (by omega)
      have hb2 : decide (0 ≤ kind) = false := decide_eq_false (by omega)
      clear hk
      go_wp2_with fail
      go_meet
      exact HZ
    · have hb1 : decide (kind ≤ 2) = false := decide_eq_false (by omega)
      clear hk
      go_wp2_with fail
      go_meet
      exact HZ
    · have hb1 : decide (kind ≤ 2) = true := decide_eq_true (by omega)
      have hb2 : decide (0 ≤ kind) = true := decide_eq_true (by omega)
      have hb3 : decide (0 ≤ iv) = false := decide_eq_false (by
        have h1 := X3.out.wpl
        rw [hk.2.2] at h1
        have h2 : ks = [] := List.map_eq_nil_iff.1 h1.symm
        have h3 := HM.out
        rw [h2] at h3
        have h4 := HIV.out
        simp at h3
        omega)
      clear hk
      go_wp2_with fail
      go_meet
      exact HZ
end
end Go.Proofs.Ytjldgialhgfhmaa
