/- The law FlowPair. -/
import Derived.Test.YtjldgialhgfhmaaXFlow30
import Derived.Deep.Cut
import Derived.Deep.CutBlock
import Derived.BigQuiet
namespace Go.Proofs.Ytjldgialhgfhmaa
set_option linter.unusedVariables false
set_option linter.unusedSimpArgs false
open Go.ChangeShapes Go.WideShapes Go.ChangeAt Go.RowKit Go.Maps
set_option linter.unusedVariables false
set_option linter.unusedSimpArgs false
theorem begins_yes {xs ys : List Int} {m n : Nat} (h : ys <+: xs) (hm : m = xs.length) (hn : n = ys.length) : decide (n ≤ m ∧ xs.take n = ys) = true := by
  subst hm; subst hn
  exact decide_eq_true ⟨h.length_le, (List.prefix_iff_eq_take.1 h).symm⟩
set_option maxHeartbeats 8000000 in
set_option maxRecDepth 100000 in
theorem flowPair_main (w : World) (iss : Int) (hi : 0 ≤ iss ∧ iss < 4294967296) (A : Option Addr) (n c : Nat) (zs : Nat → Nat → Int) (hz : RecsIn .i64 2 w A n c zs) (hl : n ≤ 200) :
    Calls Try.prog 12 #[.int .u32 iss, .slice A n c] w fun e w' => e = .returned (.bool true) ∧ Fine w w' := by
  have HZ := Lib.hid hz
  have HI := Lib.hid hi
  have hg1 : ¬ (n : Int) > 200 := by omega
  have hg1' : decide (200 < (n : Int)) = false := decide_eq_false (by omega)
  clear hz hi
  go_enter Try.func12, Try.ntmps12
  go_wp2_with fail
  refine (flowWakes_any w).mono ?_
  rintro e w1 ⟨rfl, f1⟩
  have F1 := Lib.hid f1
  clear f1
  go_wp2_with fail
  refine (dial_any iss 0 HI.out (by omega) w1).mono ?_
  rintro e w2 ⟨f, F, rfl, hS, hF, f2⟩
  obtain ⟨g, hg⟩ : ∃ z, w2.heap.size = z := ⟨_, rfl⟩
  have hst := pair_start iss hS (fun b hb => Nat.le_trans F1.out.size (hF b hb)) (F1.out.trans f2)
  rw [hg] at hst
  go_upto_region 6 with fail
  try rw [hg]
  generalize w2.alloc (.cells #[.pointer (some ⟨f, 0, none⟩), .pointer none, .slice none 0 0, .slice none 0 0, .slice none 0 0, .slice none 0 0, .slice none 0 0, .int .i64 0] 77) = w3 at hst ⊢
  have HST := Lib.hid hst
  clear hst hS hF f2 hg
  go_wp2_with fail
  go_loopw [20] (fun s20 wr => ∃ j : Nat, j ≤ n ∧ s20 = .int .i64 j ∧ Hid (At w g (stepped iss ((acts n zs).take j)) wr)) (fun s20 _ => n - (intOf s20).toNat)
  case atStart => exact ⟨0, Nat.zero_le _, rfl, HST⟩
  case round =>
    obtain ⟨j, hj, rfl, HR⟩ := hrel
    by_cases hlt : j < n
    · obtain ⟨b, off, rfl, hbl, hq⟩ := HZ.out.2.2.2.2 (by omega)
      have hf := HR.out.from0
      have q0 : wr.cell? ⟨b, off + j * 2, none⟩ = some (.int .i64 (zs j 0)) := (hf.cell hbl).trans (hq j 0 hlt (by omega))
      have q1 : wr.cell? ⟨b, off + j * 2 + 1, none⟩ = some (.int .i64 (zs j 1)) := (hf.cell hbl).trans (by have := hq j 1 hlt (by omega); rw [← Nat.add_assoc] at this; exact this)
      have hwf := bounds_i64 (HZ.out.2.2.2.1 j 1 hlt (by omega))
      obtain ⟨kd, hkd⟩ : ∃ z, zs j 0 = z := ⟨_, rfl⟩
      obtain ⟨iv, hiv⟩ : ∃ z, zs j 1 = z := ⟨_, rfl⟩
      rw [hkd] at q0
      rw [hiv] at q1 hwf
      have ha : (acts n zs)[j]? = some (kd, iv) := by rw [acts_at hlt, hkd, hiv]
      have hlen : ((acts n zs).take j).length = j := by rw [List.length_take, acts_len]; omega
      have hgd := good_stepped iss HI.out ((acts n zs).take j) (by omega)
      rw [hlen] at hgd
      have HFT := Lib.hid (hgd.step (by omega) (by omega) (by omega) kd iv)
      obtain ⟨x7, hx7⟩ : ∃ z, wr.heap.size = z := ⟨_, rfl⟩
      have b7 := Blk.newAt (w := wr) (t := 79) (cs := #[.int .i64 kd, .int .i64 iv]) hx7.symm
      have f7 := (Fine.refl wr).alloc (.cells #[.int .i64 kd, .int .i64 iv] 79)
      have HS : Hid (Calls Try.prog 43 #[.pointer (some ⟨g, 0, none⟩), .agg #[.int .i64 kd, .int .i64 iv]] (wr.alloc (.cells #[.int .i64 kd, .int .i64 iv] 79)) fun e w' => e = .returned (.tuple #[]) ∧ At w g (stepped iss ((acts n zs).take (j + 1))) w') := Lib.hid (by
        rw [stepped_succ iss ha]
        exact (HR.out.fine_ f7).step_ kd iv (by omega) HFT.out.1)
      have HEQ : Hid ((stepped iss ((acts n zs).take j)).step kd iv = stepped iss ((acts n zs).take (j + 1))) := Lib.hid (stepped_succ iss ha).symm
      clear hf hq hbl hkd hiv hwf ha hlen hgd f7
      go_upto_region 9 with fail
      try rw [hx7]
      generalize wr.alloc (.cells #[.int .i64 kd, .int .i64 iv] 79) = w5 at b7 HS ⊢
      have p0 : w5.cell? ⟨x7, 0, none⟩ = some (.int .i64 kd) := b7.cell 0
      have p1 : w5.cell? ⟨x7, 1, none⟩ = some (.int .i64 iv) := b7.cell 1
      clear b7 hx7 q0 q1
      go_wp2_with fail
      refine HS.out.mono ?_
      rintro e w6 ⟨rfl, h6⟩
      have H6 := Lib.hid h6
      obtain ⟨P', hP'⟩ : ∃ z, stepped iss ((acts n zs).take (j + 1)) = z := ⟨_, rfl⟩
      have HBE : Hid (P'.c1 <+: P'.s0 ∧ P'.c0 <+: P'.s1) := Lib.hid (by
        obtain ⟨⟨G, hI⟩, _⟩ := HFT.out.2
        have hb := hI.begins
        rw [HEQ.out, hP'] at hb
        exact hb)
      rw [hP'] at h6 H6
      have HP' := Lib.hid hP'
      obtain ⟨col, t0, t1, tA, tc, ks, ⟨sA, sn, sc⟩, ⟨uA, un, uc⟩, ⟨vA, vn, vc⟩, ⟨xA, xn, xc⟩, X⟩ := h6
      have X6 := Lib.hid X
      have y3 : ∀ p : FineBy w6, p.W.cell? ⟨g, 3, none⟩ = some (.slice sA sn sc) := fun p => (X6.out.fine_ p.h).box.cell 3
      have y4 : ∀ p : FineBy w6, p.W.cell? ⟨g, 4, none⟩ = some (.slice uA un uc) := fun p => (X6.out.fine_ p.h).box.cell 4
      have y5 : ∀ p : FineBy w6, p.W.cell? ⟨g, 5, none⟩ = some (.slice vA vn vc) := fun p => (X6.out.fine_ p.h).box.cell 5
      have y6 : ∀ p : FineBy w6, p.W.cell? ⟨g, 6, none⟩ = some (.slice xA xn xc) := fun p => (X6.out.fine_ p.h).box.cell 6
      have Q1 : Hid (∀ p : FineBy w6, Calls Try.prog 44 #[.slice sA sn sc, .slice xA xn xc] p.W fun e w'' => e = .returned (.bool true) ∧ Fine p.W w'') := Lib.hid (fun p => by
        have h1 := (X6.out.fine_ p.h).r0.rs
        have h2 := (X6.out.fine_ p.h).r3.rs
        have := begins_any sA xA sc xc P'.s0 P'.c1 p.W h1.1 h2.1
        rw [← h1.2, ← h2.2, begins_yes HBE.out.1 h1.2 h2.2] at this
        exact this)
      have Q2 : Hid (∀ p : FineBy w6, Calls Try.prog 44 #[.slice uA un uc, .slice vA vn vc] p.W fun e w'' => e = .returned (.bool true) ∧ Fine p.W w'') := Lib.hid (fun p => by
        have h1 := (X6.out.fine_ p.h).r1.rs
        have h2 := (X6.out.fine_ p.h).r2.rs
        have := begins_any uA vA uc vc P'.s1 P'.c0 p.W h1.1 h2.1
        rw [← h1.2, ← h2.2, begins_yes HBE.out.2 h1.2 h2.2] at this
        exact this)
      clear hP' X HS HFT HEQ p0 p1
      go_upto_region 10 with fail
      refine wp_region_quiet_fine (by kernel_rfl) (by kernel_rfl) ?_
      iterate 13 (go_big_quiet_step (exact Calls.fine_of (Q1.out _)))
      repeat (go_big_quiet_step (exact Calls.fine_of (Q2.out _)))
      refine wpQuiet_nil ?_
      intro wf hwf'
      have hwf := Lib.hid (FineBy.of hwf')
      clear hwf' y3 y4 y5 y6 Q1 Q2
      go_wp2_with fail
      go_roundw
      case rel => exact ⟨j + 1, by omega, by go_num, Lib.hid (by rw [HP'.out]; exact H6.out.fine_ hwf.out)⟩
      case measure => simp [intOf]; omega
    · have hjn : j = n := by omega
      subst hjn
      go_wp2_with fail
      go_ret
      exact ⟨rfl, HR.out.from0⟩
set_option maxHeartbeats 2000000 in
set_option maxRecDepth 100000 in
theorem lawFlowPair (w : World) (iss : Int) (wi : (Lit.int .u32 iss).wf = true) (A : Option Addr) (n c : Nat) (zs : Nat → Nat → Int) (hz : RecsIn .i64 2 w A n c zs) :
    Calls Try.prog 12 #[.int .u32 iss, .slice A n c] w fun e w' => e = .returned (.bool true) ∧ Below w.heap.size w w' := by
  show Calls _ _ _ _ fun e w' => e = .returned (.bool true) ∧ Fine w w'
  have hi := bounds_u32 wi
  by_cases hl : n ≤ 200
  · exact flowPair_main w iss ⟨hi.1, by omega⟩ A n c zs hz hl
  · have hg1 : (n : Int) > 200 := by omega
    have hg1' : decide (200 < (n : Int)) = true := decide_eq_true (by omega)
    clear hz hi wi
    go_enter Try.func12, Try.ntmps12
    go_wp2_with fail
    refine (flowWakes_any w).mono ?_
    rintro e w1 ⟨rfl, f1⟩
    have F1 := Lib.hid f1
    clear f1
    go_wp2_with fail
    go_ret
    exact ⟨rfl, F1.out⟩
end Go.Proofs.Ytjldgialhgfhmaa
