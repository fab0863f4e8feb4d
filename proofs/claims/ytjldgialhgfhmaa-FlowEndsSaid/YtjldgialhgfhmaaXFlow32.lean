/- The law FlowEnds. -/
import Derived.Test.YtjldgialhgfhmaaXFlow32a
import Derived.Deep.Cut
import Derived.Deep.CutBlock
import Derived.BigQuiet
namespace Go.Proofs.Ytjldgialhgfhmaa
set_option linter.unusedVariables false
set_option linter.unusedSimpArgs false
open Go.ChangeShapes Go.WideShapes Go.ChangeAt Go.RowKit Go.Maps
set_option linter.unusedVariables false
set_option linter.unusedSimpArgs false
set_option maxHeartbeats 8000000 in
set_option maxRecDepth 100000 in
theorem flowEnds_main (w : World) (iss : Int) (hi : 0 ≤ iss ∧ iss < 4294967296) (A : Option Addr) (n c : Nat) (zs : Nat → Nat → Int) (hz : RecsIn .i64 2 w A n c zs) (hl : n ≤ 100) (lost : Bool) :
    Calls Try.prog 14 #[.int .u32 iss, .slice A n c, .bool lost] w fun e w' => e = .returned (.bool true) ∧ Fine w w' := by
  have HZ := Lib.hid hz
  have HI := Lib.hid hi
  have hg1 : ¬ (n : Int) > 100 := by omega
  have hg1' : decide (100 < (n : Int)) = false := decide_eq_false (by omega)
  clear hz hi
  go_enter Try.func14, Try.ntmps14
  go_wp2_with fail
  refine (flowWakes_any w).mono ?_
  rintro e w1 ⟨rfl, f1⟩
  have F1 := Lib.hid f1
  clear f1
  go_wp2_with fail
  refine (dial_any iss 0 HI.out (by omega) w1).mono ?_
  rintro e w2 ⟨f, F, rfl, hS, hF, f2⟩
  obtain ⟨g, hg⟩ : ∃ z, w2.heap.size = z := ⟨_, rfl⟩
  have hst := pair_start iss hS (fun b hb => Nat.le_trans F1.out.size (hF b hb)) (F1.out.trans f2)
  rw [hg] at hst
  go_upto_region 6 with fail
  try rw [hg]
  generalize w2.alloc (.cells #[.pointer (some ⟨f, 0, none⟩), .pointer none, .slice none 0 0, .slice none 0 0, .slice none 0 0, .slice none 0 0, .slice none 0 0, .int .i64 0] 77) = w3 at hst ⊢
  have HST := Lib.hid hst
  clear hst hS hF f2 hg
  go_wp2_with fail
  go_loopw [29] (fun s29 wr => ∃ j : Nat, j ≤ n ∧ s29 = .int .i64 j ∧ Hid (At w g (stepped iss ((acts n zs).take j)) wr)) (fun s29 _ => n - (intOf s29).toNat)
  case atStart => exact ⟨0, Nat.zero_le _, rfl, HST⟩
  case round =>
    obtain ⟨j, hj, rfl, HR⟩ := hrel
    by_cases hlt : j < n
    · obtain ⟨b, off, rfl, hbl, hq⟩ := HZ.out.2.2.2.2 (by omega)
      have hf := HR.out.from0
      have q0 : wr.cell? ⟨b, off + j * 2, none⟩ = some (.int .i64 (zs j 0)) := (hf.cell hbl).trans (hq j 0 hlt (by omega))
      have q1 : wr.cell? ⟨b, off + j * 2 + 1, none⟩ = some (.int .i64 (zs j 1)) := (hf.cell hbl).trans (by have := hq j 1 hlt (by omega); rw [← Nat.add_assoc] at this; exact this)
      have hwf := bounds_i64 (HZ.out.2.2.2.1 j 1 hlt (by omega))
      obtain ⟨kd, hkd⟩ : ∃ z, zs j 0 = z := ⟨_, rfl⟩
      obtain ⟨iv, hiv⟩ : ∃ z, zs j 1 = z := ⟨_, rfl⟩
      rw [hkd] at q0
      rw [hiv] at q1 hwf
      have ha : (acts n zs)[j]? = some (kd, iv) := by rw [acts_at hlt, hkd, hiv]
      have hlen : ((acts n zs).take j).length = j := by rw [List.length_take, acts_len]; omega
      have hgd := good_stepped iss HI.out ((acts n zs).take j) (by omega)
      rw [hlen] at hgd
      have HFT := Lib.hid (hgd.step (by omega) (by omega) (by omega) kd iv)
      obtain ⟨x9, hx9⟩ : ∃ z, wr.heap.size = z := ⟨_, rfl⟩
      have b9 := Blk.newAt (w := wr) (t := 79) (cs := #[.int .i64 kd, .int .i64 iv]) hx9.symm
      have f9 := (Fine.refl wr).alloc (.cells #[.int .i64 kd, .int .i64 iv] 79)
      have HS : Hid (Calls Try.prog 43 #[.pointer (some ⟨g, 0, none⟩), .agg #[.int .i64 kd, .int .i64 iv]] (wr.alloc (.cells #[.int .i64 kd, .int .i64 iv] 79)) fun e w' => e = .returned (.tuple #[]) ∧ At w g (stepped iss ((acts n zs).take (j + 1))) w') := Lib.hid (by
        rw [stepped_succ iss ha]
        exact (HR.out.fine_ f9).step_ kd iv (by omega) HFT.out.1)
      clear hf hq hbl hkd hiv hwf ha hlen hgd f9
      go_upto_region 9 with fail
      try rw [hx9]
      generalize wr.alloc (.cells #[.int .i64 kd, .int .i64 iv] 79) = w5 at b9 HS ⊢
      have p0 : w5.cell? ⟨x9, 0, none⟩ = some (.int .i64 kd) := b9.cell 0
      have p1 : w5.cell? ⟨x9, 1, none⟩ = some (.int .i64 iv) := b9.cell 1
      clear b9 hx9 q0 q1
      go_wp2_with fail
      refine HS.out.mono ?_
      rintro e w6 ⟨rfl, h6⟩
      have H6 := Lib.hid h6
      clear h6 HS HFT p0 p1
      go_wp2_with fail
      go_roundw
      case rel => exact ⟨j + 1, by omega, by go_num, H6⟩
      case measure => simp [intOf]; omega
    · have hjn : j = n := by omega
      subst hjn
      obtain ⟨P0, hP0⟩ : ∃ z, stepped iss (acts j zs) = z := ⟨_, rfl⟩
      have HG0 : Hid (Good P0 iss 902 102 100) := Lib.hid (by
        have h := good_stepped iss HI.out (acts j zs) (by rw [acts_len]; omega)
        rw [acts_len, hP0] at h
        exact h.more (by omega) (by omega) (by omega))
      have HEN : Hid (EndsOk lost (endRun lost 200 P0)) := Lib.hid (by
        rw [← hP0]
        exact ends_plain iss HI.out (acts j zs) (by rw [acts_len]; omega) lost)
      have HA0 : Hid (At w g P0 wr) := Lib.hid (by
        have h := HR.out
        rw [List.take_of_length_le (by rw [acts_len]; omega), hP0] at h
        exact h)
      clear HR HZ HI hP0 HST
      go_wp2_with fail
      go_loopw [37] (fun s37 wr => ∃ i : Nat, i ≤ 200 ∧ s37 = .int .i64 i ∧ Hid (At w g (endRun lost i P0) wr)) (fun s37 _ => 200 - (intOf s37).toNat)
      case atStart => exact ⟨0, Nat.zero_le _, rfl, HA0⟩
      case round =>
        obtain ⟨i, hi2, rfl, HR⟩ := hrel
        by_cases hlt2 : i < 200
        · have HGI : Hid (Good (endRun lost i P0) iss 902 102 (100 + 201 * i)) := Lib.hid (good_end (by omega) (by omega) lost i (by omega) HG0.out)
          have HQ := Lib.hid (HGI.out.quiet (by omega) (by omega) (by omega) 7 0 (.inr rfl))
          have HS : Hid (Calls Try.prog 43 #[.pointer (some ⟨g, 0, none⟩), .agg #[.int .i64 7, .int .i64 0]] wr fun e w' => e = .returned (.tuple #[]) ∧ At w g ((endRun lost i P0).step 7 0) w') := Lib.hid (HR.out.step_ 7 0 (by omega) HQ.out.1)
          have HES : Hid (endRun lost (i + 1) P0 = endStep lost (endRun lost i P0)) := Lib.hid (endRun_succ lost i P0)
          obtain ⟨Q1, hQ1⟩ : ∃ z, (endRun lost i P0).step 7 0 = z := ⟨_, rfl⟩
          have HQ1 := Lib.hid hQ1
          rw [hQ1] at HS
          have HGQ : Hid (Good Q1 iss 902 102 (101 + 201 * i)) := Lib.hid (by
            rw [← hQ1]
            exact HQ.out.2.more (Nat.le_refl _) (Nat.le_refl _) (by omega))
          clear HQ hQ1 HGI
          go_wp2_with fail
          refine HS.out.mono ?_
          rintro e w5 ⟨rfl, h5⟩
          have H5 := Lib.hid h5
          clear h5 HS
          cases lost with
          | true =>
            obtain ⟨col, t0, t1, tA, tc, ks, ra0, ra1, rb0, rb1, X⟩ := H5.out
            have y2 : w5.cell? ⟨g, 2, none⟩ = some (.slice tA ks.length tc) := X.box.cell 2
            have z2 := X.box.frozen 2
            have HN := Lib.hid X.noway
            clear X
            go_wp2_with fail
            go_roundw
            case rel => exact ⟨i + 1, by omega, by go_num, Lib.hid (by rw [HES.out]; unfold endStep; rw [if_pos rfl, HQ1.out]; exact HN.out)⟩
            case measure => simp [intOf]; omega
          | false =>
            go_wp2_with fail
            go_loopw [10] (fun s10 wr => ∃ (m : Nat) (Q : Pr), m ≤ 200 ∧ s10 = .int .i64 m ∧ Hid (At w g Q wr ∧ drain (200 - m) Q = drain 200 Q1 ∧ Good Q iss 902 102 (101 + 201 * i + m))) (fun s10 _ => 200 - (intOf s10).toNat)
            case atStart => exact ⟨0, Q1, Nat.zero_le _, rfl, Lib.hid ⟨H5.out, rfl, HGQ.out.more (Nat.le_refl _) (Nat.le_refl _) (by omega)⟩⟩
            case round =>
              obtain ⟨m, Q, hm, rfl, HM⟩ := hrel
              obtain ⟨col, t0, t1, tA, tc, ks, ra0, ra1, rb0, rb1, X⟩ := HM.out.1
              obtain ⟨kn, hkn⟩ : ∃ z, ks.length = z := ⟨_, rfl⟩
              have y2 : wr.cell? ⟨g, 2, none⟩ = some (.slice tA kn tc) := by have := X.box.cell 2; rw [hkn] at this; exact this
              have HW : Hid (Q.way.length = kn) := Lib.hid (by rw [X.wpl, List.length_map, hkn])
              clear X hkn
              by_cases hlt3 : m < 200
              · by_cases hk0 : kn = 0
                · subst hk0
                  have HD : Hid (drain 200 Q1 = Q) := Lib.hid (HM.out.2.1.symm.trans (drain_stop (.inr (List.eq_nil_of_length_eq_zero HW.out))))
                  go_wp2_with fail
                  go_roundw
                  case rel => exact ⟨i + 1, by omega, by go_num, Lib.hid (by rw [HES.out]; unfold endStep; rw [if_neg (by decide), HQ1.out, HD.out]; exact HM.out.1)⟩
                  case measure => simp [intOf]; omega
                · have HQQ := Lib.hid (HM.out.2.2.quiet (by omega) (by omega) (by omega) 0 0 (.inl rfl))
                  have HS : Hid (Calls Try.prog 43 #[.pointer (some ⟨g, 0, none⟩), .agg #[.int .i64 0, .int .i64 0]] wr fun e w' => e = .returned (.tuple #[]) ∧ At w g (Q.step 0 0) w') := Lib.hid (HM.out.1.step_ 0 0 (by omega) HQQ.out.1)
                  have HD : Hid (drain (200 - (m + 1)) (Q.step 0 0) = drain 200 Q1) := Lib.hid (by
                    rw [← HM.out.2.1]
                    have e : 200 - m = (200 - (m + 1)) + 1 := by omega
                    rw [e, drain_go (fun h => hk0 (by rw [← HW.out, h]; rfl))])
                  have hk1 : 0 < kn := by omega
                  clear hk0
                  go_wp2_with fail
                  refine HS.out.mono ?_
                  rintro e w6 ⟨rfl, h6⟩
                  have H6 := Lib.hid h6
                  clear h6 HS
                  go_wp2_with fail
                  go_roundw
                  case rel => exact ⟨m + 1, Q.step 0 0, by omega, by go_num, Lib.hid ⟨H6.out, HD.out, HQQ.out.2.more (Nat.le_refl _) (Nat.le_refl _) (by omega)⟩⟩
                  case measure => simp [intOf]; omega
              · have hm2 : m = 200 := by omega
                subst hm2
                have HD : Hid (drain 200 Q1 = Q) := Lib.hid (HM.out.2.1.symm.trans (drain_stop (.inl rfl)))
                go_wp2_with fail
                go_roundw
                case rel => exact ⟨i + 1, by omega, by go_num, Lib.hid (by rw [HES.out]; unfold endStep; rw [if_neg (by decide), HQ1.out, HD.out]; exact HM.out.1)⟩
                case measure => simp [intOf]; omega
        · have hi3 : i = 200 := by omega
          obtain ⟨FF, hFF⟩ : ∃ z, endRun lost i P0 = z := ⟨_, rfl⟩
          rw [← hi3] at HEN
          rw [hFF] at HR HEN
          clear hi3
          clear hFF HA0 HG0
          obtain ⟨col, t0, t1, tA, tc, ks, ⟨sA, sn, sc⟩, ⟨uA, un, uc⟩, ⟨vA, vn, vc⟩, ⟨xA, xn, xc⟩, X⟩ := HR.out
          have X8 := Lib.hid X
          have E0 := Lib.hid (X.end0 HEN.out)
          obtain ⟨sb, E1', hsb⟩ := X.end1 HEN.out
          obtain ⟨q1, hq1⟩ : ∃ z : Option Addr, t1.map (fun f => (⟨f, 0, none⟩ : Addr)) = z := ⟨_, rfl⟩
          rw [hq1] at E1'
          have E1 := Lib.hid E1'
          have HSB := Lib.hid hsb
          have HQ1 := Lib.hid hq1
          obtain ⟨sa, hsa⟩ : ∃ z, FF.f0.st = z := ⟨_, rfl⟩
          have HSA := Lib.hid hsa
          rw [hsa] at E0
          have y0 : wr.cell? ⟨g, 0, none⟩ = some (.pointer (some ⟨t0, 0, none⟩)) := X.box.cell 0
          have y1 : wr.cell? ⟨g, 1, none⟩ = some (.pointer q1) := by rw [← hq1]; exact X.box.cell 1
          have i0 : ∀ wq, (Instr.index 73 (.agg #[.pointer (some ⟨t0, 0, none⟩), .pointer q1]) (.int .i64 0)).run Try.prog wq = .ok (.pointer (some ⟨t0, 0, none⟩)) wq := fun _ => by kernel_rfl
          have i1 : ∀ wq, (Instr.index 73 (.agg #[.pointer (some ⟨t0, 0, none⟩), .pointer q1]) (.int .i64 1)).run Try.prog wq = .ok (.pointer q1) wq := fun _ => by kernel_rfl
          clear X E1' hsb hq1 hsa
          obtain ⟨w8, hw8⟩ : ∃ z, z = wr := ⟨_, rfl⟩
          subst hw8
          go_wp2_with fail
          go_loopw [66] (fun s66 wr => (s66 = .int .i64 0 ∧ Hid (Fine w8 wr)) ∨ (s66 = .int .i64 1 ∧ Hid (Fine w8 wr)) ∨ (s66 = .int .i64 2 ∧ Hid (Fine w8 wr))) (fun s66 _ => 2 - (intOf s66).toNat)
          case atStart => exact .inl ⟨rfl, Lib.hid (Fine.refl _)⟩
          case round =>
            rcases hrel with ⟨rfl, HF⟩ | ⟨rfl, HF⟩ | ⟨rfl, HF⟩
            · have EV := Lib.hid (E0.out.fine_ HF.out)
              obtain ⟨aa, hat⟩ := EV.out.at_
              have HAT := Lib.hid hat
              clear hat
              go_wp2_with fail
              refine (HAT.out _ (Fine.refl wr)).mono ?_
              rintro e wa ⟨rfl, fa⟩
              have FA := Lib.hid fa
              clear fa HAT
              go_wp2_with fail
              refine (EV.out.st_ _ FA.out).mono ?_
              rintro e wb ⟨rfl, fb⟩
              have FB := Lib.hid (FA.out.trans fb)
              clear fb FA
              by_cases hs5 : sa < 5
              · have HL := Lib.hid (EV.out.left_ hs5)
                go_wp2_with fail
                refine (HL.out _ FB.out).mono ?_
                rintro e wd ⟨⟨Al, cl, rfl⟩, fd⟩
                have FD := Lib.hid (FB.out.trans fd)
                clear fd FB HL
                go_wp2_with fail
                go_roundw
                case rel => exact .inr (.inl ⟨by go_num, Lib.hid (HF.out.trans FD.out)⟩)
                case measure => simp [intOf]
              · go_wp2_with fail
                go_roundw
                case rel => exact .inr (.inl ⟨by go_num, Lib.hid (HF.out.trans FB.out)⟩)
                case measure => simp [intOf]
            · have EV := Lib.hid (E1.out.fine_ HF.out)
              obtain ⟨aa, hat⟩ := EV.out.at_
              have HAT := Lib.hid hat
              clear hat
              go_wp2_with fail
              refine (HAT.out _ (Fine.refl wr)).mono ?_
              rintro e wa ⟨rfl, fa⟩
              have FA := Lib.hid fa
              clear fa HAT
              go_wp2_with fail
              refine (EV.out.st_ _ FA.out).mono ?_
              rintro e wb ⟨rfl, fb⟩
              have FB := Lib.hid (FA.out.trans fb)
              clear fb FA
              by_cases hs5 : sb < 5
              · have HL := Lib.hid (EV.out.left_ hs5)
                go_wp2_with fail
                refine (HL.out _ FB.out).mono ?_
                rintro e wd ⟨⟨Al, cl, rfl⟩, fd⟩
                have FD := Lib.hid (FB.out.trans fd)
                clear fd FB HL
                go_wp2_with fail
                go_roundw
                case rel => exact .inr (.inr ⟨by go_num, Lib.hid (HF.out.trans FD.out)⟩)
                case measure => simp [intOf]
              · go_wp2_with fail
                go_roundw
                case rel => exact .inr (.inr ⟨by go_num, Lib.hid (HF.out.trans FB.out)⟩)
                case measure => simp [intOf]
            · have X9 := Lib.hid (X8.out.fine_ HF.out)
              have E09 := Lib.hid (E0.out.fine_ HF.out)
              have E19 := Lib.hid (E1.out.fine_ HF.out)
              have y0 : ∀ p : FineBy wr, p.W.cell? ⟨g, 0, none⟩ = some (.pointer (some ⟨t0, 0, none⟩)) := fun p => (X9.out.fine_ p.h).box.cell 0
              have y1 : ∀ p : FineBy wr, p.W.cell? ⟨g, 1, none⟩ = some (.pointer q1) := fun p => by rw [← HQ1.out]; exact (X9.out.fine_ p.h).box.cell 1
              have QA : Hid (∀ p : FineBy wr, Calls Try.prog 47 #[.pointer (some ⟨t0, 0, none⟩)] p.W fun e w'' => e = .returned (.int .i64 sa) ∧ Fine p.W w'') := Lib.hid (fun p => E09.out.st_ p.W p.h)
              have QB : Hid (∀ p : FineBy wr, Calls Try.prog 47 #[.pointer q1] p.W fun e w'' => e = .returned (.int .i64 sb) ∧ Fine p.W w'') := Lib.hid (fun p => E19.out.st_ p.W p.h)
              go_upto_region 28 with fail
              refine wp_region_quiet_fine (by kernel_rfl) (by kernel_rfl) ?_
              iterate 6 (go_big_quiet_step (exact Calls.fine_of (QA.out _)))
              repeat (go_big_quiet_step (exact Calls.fine_of (QB.out _)))
              refine wpQuiet_nil ?_
              intro wf hwf'
              have hwf := Lib.hid (FineBy.of hwf')
              have XF := Lib.hid (X9.out.fine_ hwf.out)
              clear hwf' y0 y1 QA QB
              clear X8 X9 E1 E0 E09 E19 HR HF
              cases lost with
              | true =>
                go_upto_region 29 with fail
                refine wp_region_quiet_fine (by kernel_rfl) (by kernel_rfl) ?_
                repeat (go_big_quiet_step (fail))
                refine wpQuiet_nil ?_
                intro wg hwg'
                have hwg := Lib.hid (FineBy.of hwg')
                clear hwg'
                go_wp2_with fail
                go_ret
                exact ⟨rfl, XF.out.fine.trans hwg.out⟩
              | false =>
                by_cases h11 : sa = 11
                · subst h11
                  go_upto_region 29 with fail
                  refine wp_region_quiet_fine (by kernel_rfl) (by kernel_rfl) ?_
                  repeat (go_big_quiet_step (fail))
                  refine wpQuiet_nil ?_
                  intro wg hwg'
                  have hwg := Lib.hid (FineBy.of hwg')
                  clear hwg'
                  go_wp2_with fail
                  go_ret
                  exact ⟨rfl, XF.out.fine.trans hwg.out⟩
                · have g11 : (sa == 11) = false := by simpa using h11
                  by_cases h12 : sb = 11
                  · subst h12
                    clear h11
                    go_upto_region 29 with fail
                    refine wp_region_quiet_fine (by kernel_rfl) (by kernel_rfl) ?_
                    repeat (go_big_quiet_step (fail))
                    refine wpQuiet_nil ?_
                    intro wg hwg'
                    have hwg := Lib.hid (FineBy.of hwg')
                    clear hwg'
                    go_wp2_with fail
                    go_ret
                    exact ⟨rfl, XF.out.fine.trans hwg.out⟩
                  · have g12 : (sb == 11) = false := by simpa using h12
                    by_cases h0 : sb = 0
                    · subst h0
                      clear h11 h12
                      go_upto_region 29 with fail
                      refine wp_region_quiet_fine (by kernel_rfl) (by kernel_rfl) ?_
                      repeat (go_big_quiet_step (fail))
                      refine wpQuiet_nil ?_
                      intro wg hwg'
                      have hwg := Lib.hid (FineBy.of hwg')
                      clear hwg'
                      go_wp2_with fail
                      go_ret
                      exact ⟨rfl, XF.out.fine.trans hwg.out⟩
                    · have g0 : (sb == 0) = false := by simpa using h0
                      have HEQ : Hid (FF.c1 = FF.s0 ∧ FF.c0 = FF.s1) := Lib.hid (by
                        rcases HSB.out with ⟨_, e⟩ | ⟨T, e1, e2⟩
                        · exact absurd e h0
                        · exact HEN.out.2.2 rfl (by rw [HSA.out]; exact h11) T e1 (by rw [← e2]; exact h12))
                      have y3 : ∀ p : FineBy wf, p.W.cell? ⟨g, 3, none⟩ = some (.slice sA sn sc) := fun p => (XF.out.fine_ p.h).box.cell 3
                      have y4 : ∀ p : FineBy wf, p.W.cell? ⟨g, 4, none⟩ = some (.slice uA un uc) := fun p => (XF.out.fine_ p.h).box.cell 4
                      have y5 : ∀ p : FineBy wf, p.W.cell? ⟨g, 5, none⟩ = some (.slice vA vn vc) := fun p => (XF.out.fine_ p.h).box.cell 5
                      have y6 : ∀ p : FineBy wf, p.W.cell? ⟨g, 6, none⟩ = some (.slice xA xn xc) := fun p => (XF.out.fine_ p.h).box.cell 6
                      have Q1 : Hid (∀ p : FineBy wf, Calls Try.prog 48 #[.slice sA sn sc, .slice xA xn xc] p.W fun e w'' => e = .returned (.bool true) ∧ Fine p.W w'') := Lib.hid (fun p => by
                        have h1 := (XF.out.fine_ p.h).r0.rs
                        have h2 := (XF.out.fine_ p.h).r3.rs
                        have := bytes_any sA xA sc xc FF.s0 FF.c1 p.W h1.1 h2.1
                        rw [← h1.2, ← h2.2, decide_eq_true HEQ.out.1.symm] at this
                        exact this)
                      have Q2 : Hid (∀ p : FineBy wf, Calls Try.prog 48 #[.slice uA un uc, .slice vA vn vc] p.W fun e w'' => e = .returned (.bool true) ∧ Fine p.W w'') := Lib.hid (fun p => by
                        have h1 := (XF.out.fine_ p.h).r1.rs
                        have h2 := (XF.out.fine_ p.h).r2.rs
                        have := bytes_any uA vA uc vc FF.s1 FF.c0 p.W h1.1 h2.1
                        rw [← h1.2, ← h2.2, decide_eq_true HEQ.out.2.symm] at this
                        exact this)
                      clear h11 h12 h0
                      go_upto_region 29 with fail
                      refine wp_region_quiet_fine (by kernel_rfl) (by kernel_rfl) ?_
                      iterate 25 (go_big_quiet_step (exact Calls.fine_of (Q1.out _)))
                      repeat (go_big_quiet_step (exact Calls.fine_of (Q2.out _)))
                      refine wpQuiet_nil ?_
                      intro wg hwg'
                      have hwg := Lib.hid (FineBy.of hwg')
                      clear hwg'
                      go_wp2_with fail
                      go_ret
                      exact ⟨rfl, XF.out.fine.trans hwg.out⟩
set_option maxHeartbeats 2000000 in
set_option maxRecDepth 100000 in
theorem lawFlowEnds (w : World) (iss : Int) (wi : (Lit.int .u32 iss).wf = true) (A : Option Addr) (n c : Nat) (zs : Nat → Nat → Int) (hz : RecsIn .i64 2 w A n c zs) (lost : Bool) :
    Calls Try.prog 14 #[.int .u32 iss, .slice A n c, .bool lost] w fun e w' => e = .returned (.bool true) ∧ Below w.heap.size w w' := by
  show Calls _ _ _ _ fun e w' => e = .returned (.bool true) ∧ Fine w w'
  have hi := bounds_u32 wi
  by_cases hl : n ≤ 100
  · exact flowEnds_main w iss ⟨hi.1, by omega⟩ A n c zs hz hl lost
  · have hg1 : (n : Int) > 100 := by omega
    have hg1' : decide (100 < (n : Int)) = true := decide_eq_true (by omega)
    clear hz hi wi
    go_enter Try.func14, Try.ntmps14
    go_wp2_with fail
    refine (flowWakes_any w).mono ?_
    rintro e w1 ⟨rfl, f1⟩
    have F1 := Lib.hid f1
    clear f1
    go_wp2_with fail
    go_ret
    exact ⟨rfl, F1.out⟩
end Go.Proofs.Ytjldgialhgfhmaa
