/- The law FlowCloses. -/
import Derived.Test.YtjldgialhgfhmaaXFlow33a
import Derived.Deep.Cut
import Derived.Deep.CutBlock
import Derived.BigQuiet
namespace Go.Proofs.Ytjldgialhgfhmaa
set_option linter.unusedVariables false
set_option linter.unusedSimpArgs false
open Go.ChangeShapes Go.WideShapes Go.ChangeAt Go.RowKit Go.Maps
set_option linter.unusedVariables false
set_option linter.unusedSimpArgs false
/-- How many bytes are sent. -/
def lens (l : List Int) : List Int := l.map fun n => n.tmod 8 + 1
theorem lens_len (l : List Int) : (lens l).length = l.length := by unfold lens; simp
theorem lens_in {l : List Int} (h : ∀ n ∈ l, 0 ≤ n ∧ n ≤ 255) : ∀ i ∈ lens l, 1 ≤ i ∧ i ≤ 8 := fun i hi => by
  unfold lens at hi
  obtain ⟨n, hn, rfl⟩ := List.mem_map.1 hi
  have h1 := Int.tmod_nonneg 8 (h n hn).1
  have h2 := Int.tmod_lt_of_pos n (b := 8) (by omega)
  omega
def sendAll (k : Int) (l : List Int) (P : Pr) : Pr := l.foldl (fun P i => allCome (P.step k i)) P
theorem sendAll_succ (k : Int) (P : Pr) {l : List Int} {j : Nat} {i : Int} (h : l[j]? = some i) : sendAll k (l.take (j + 1)) P = allCome ((sendAll k (l.take j) P).step k i) := by
  unfold sendAll
  rw [List.take_add_one, h, List.foldl_append]
  rfl
theorem good_send {iss : Int} (k : Int) : ∀ (l : List Int) {P : Pr} {K L : Nat} {t : Int}, K + 9 * l.length + 9 < 1000000 → L + l.length + 1 ≤ 800 → t + 301 * l.length ≤ 1099511626000 → Good P iss K L t → Good (sendAll k l P) iss (K + 9 * l.length) (L + l.length) (t + 301 * l.length) := by
  intro l
  induction l with
  | nil => intro P K L t _ _ _ h; exact h.more (by simp) (by simp) (by simp)
  | cons x l ih =>
    intro P K L t hK hL ht h
    simp only [List.length_cons] at hK hL ht
    have h1 := good_all (h.step (by omega) (by omega) (by omega) k x).2 (by omega) (by omega) (by omega)
    have h2 := ih (P := allCome (P.step k x)) (by omega) (by omega) (by omega) h1
    exact h2.more (by simp only [List.length_cons]; omega) (by simp only [List.length_cons]; omega) (by simp only [List.length_cons]; omega)
set_option maxHeartbeats 8000000 in
set_option maxRecDepth 100000 in
theorem flowCloses_main (w : World) (iss : Int) (hi : 0 ≤ iss ∧ iss < 4294967296) (A B : Option Addr) (na nb ca cb : Nat) (za zb : List Int) (hza : IntsIn .u8 w A na ca za) (hzb : IntsIn .u8 w B nb cb zb) (hla : na ≤ 20) (hlb : nb ≤ 20) :
    Calls Try.prog 13 #[.int .u32 iss, .slice A na ca, .slice B nb cb] w fun e w' => e = .returned (.bool true) ∧ Fine w w' := by
  have HBA : Hid (∀ n ∈ za, 0 ≤ n ∧ n ≤ 255) := Lib.hid (fun n hn => bounds_u8 (hza.2.2.2.2.1 n hn))
  have HBB : Hid (∀ n ∈ zb, 0 ≤ n ∧ n ≤ 255) := Lib.hid (fun n hn => bounds_u8 (hzb.2.2.2.2.1 n hn))
  have HZA := Lib.hid hza; have HZB := Lib.hid hzb
  have HI := Lib.hid hi
  have hga : ¬ (na : Int) > 20 := by omega
  have hgb : ¬ (nb : Int) > 20 := by omega
  have hga' : decide (20 < (na : Int)) = false := decide_eq_false (by omega)
  have hgb' : decide (20 < (nb : Int)) = false := decide_eq_false (by omega)
  have hmf : ∀ (fn : Fn) (first cap : Array Value) (w : World), (Instr.makeFunc fn first cap).run Try.prog w = .ok (.func fn first cap) w := fun _ _ _ _ => rfl
  have i0 : ∀ wq, (Instr.index 75 (.agg #[.slice A na ca, .slice B nb cb]) (.int .i64 0)).run Try.prog wq = .ok (.slice A na ca) wq := fun _ => by kernel_rfl
  have i1 : ∀ wq, (Instr.index 75 (.agg #[.slice A na ca, .slice B nb cb]) (.int .i64 1)).run Try.prog wq = .ok (.slice B nb cb) wq := fun _ => by kernel_rfl
  clear hza hzb hi
  go_enter Try.func13, Try.ntmps13
  go_wp2_with fail
  refine (flowWakes_any w).mono ?_
  rintro e w1 ⟨rfl, f1⟩
  have F1 := Lib.hid f1
  clear f1
  go_wp2_with fail
  refine (dial_any iss 0 HI.out (by omega) w1).mono ?_
  rintro e w2 ⟨f, F, rfl, hS, hF, f2⟩
  obtain ⟨g, hg⟩ : ∃ z, w2.heap.size = z := ⟨_, rfl⟩
  have hst := pair_start iss hS (fun b hb => Nat.le_trans F1.out.size (hF b hb)) (F1.out.trans f2)
  rw [hg] at hst
  obtain ⟨x7, hx7⟩ : ∃ z, (w2.alloc (.cells #[.pointer (some ⟨f, 0, none⟩), .pointer none, .slice none 0 0, .slice none 0 0, .slice none 0 0, .slice none 0 0, .slice none 0 0, .int .i64 0] 77)).heap.size = z := ⟨_, rfl⟩
  have hst2 := At2.start hst hx7.symm
  go_upto_region 6 with fail
  try rw [hx7]
  generalize (w2.alloc (.cells #[.pointer (some ⟨f, 0, none⟩), .pointer none, .slice none 0 0, .slice none 0 0, .slice none 0 0, .slice none 0 0, .slice none 0 0, .int .i64 0] 77)).alloc (.cells #[.pointer (some ⟨g, 0, none⟩)] 70) = w3 at hst2 ⊢
  have H3 := Lib.hid hst2
  clear hst hst2 hS hF f2 hg hx7
  have HG0 := Lib.hid (good0 HI.out)
  go_wp2_with fail
  refine (all_comes H3.out HG0.out (by omega) (by omega) (by omega)).mono ?_
  rintro e w4 ⟨rfl, h4⟩
  obtain ⟨PA, hPA⟩ : ∃ z, allCome (pair0 iss) = z := ⟨_, rfl⟩
  have HGA : Hid (Good PA iss 2 2 300) := Lib.hid (by
    have h := good_all HG0.out (by omega) (by omega) (by omega)
    rw [hPA] at h
    exact h.more (Nat.le_refl _) (Nat.le_refl _) (by omega))
  rw [hPA] at h4
  have H4 := Lib.hid h4
  have HPA := Lib.hid hPA
  obtain ⟨PB, hPB⟩ : ∃ z, sendAll 3 (lens za) PA = z := ⟨_, rfl⟩
  have HPB := Lib.hid hPB
  have HGB : Hid (Good PB iss 200 22 6400) := Lib.hid (by
    have h := good_send 3 (lens za) (by rw [lens_len, HZA.out.2.2.1]; omega) (by rw [lens_len, HZA.out.2.2.1]; omega) (by rw [lens_len, HZA.out.2.2.1]; omega) HGA.out
    rw [hPB, lens_len, HZA.out.2.2.1] at h
    exact h.more (by omega) (by omega) (by omega))
  obtain ⟨PC, hPC⟩ : ∃ z, sendAll 4 (lens zb) PB = z := ⟨_, rfl⟩
  have HPC := Lib.hid hPC
  have HGC : Hid (Good PC iss 400 42 12500) := Lib.hid (by
    have h := good_send 4 (lens zb) (by rw [lens_len, HZB.out.2.2.1]; omega) (by rw [lens_len, HZB.out.2.2.1]; omega) (by rw [lens_len, HZB.out.2.2.1]; omega) HGB.out
    rw [hPC, lens_len, HZB.out.2.2.1] at h
    exact h.more (by omega) (by omega) (by omega))
  clear h4 hPA hPB hPC H3 HG0
  go_wp2_with fail
  go_loopw [34] (fun s34 wr => (s34 = .int .i64 0 ∧ Hid (At2 w g x7 PA wr)) ∨ (s34 = .int .i64 1 ∧ Hid (At2 w g x7 PB wr)) ∨ (s34 = .int .i64 2 ∧ Hid (At2 w g x7 PC wr))) (fun s34 _ => 2 - (intOf s34).toNat)
  case atStart => exact .inl ⟨rfl, H4⟩
  case round =>
    rcases hrel with ⟨rfl, HR⟩ | ⟨rfl, HR⟩ | ⟨rfl, HR⟩
    · go_wp2_with fail
      go_loopw [40] (fun s40 wr => ∃ j : Nat, j ≤ na ∧ s40 = .int .i64 j ∧ Hid (At2 w g x7 (sendAll 3 ((lens za).take j) PA) wr)) (fun s40 _ => na - (intOf s40).toNat)
      case atStart => exact ⟨0, Nat.zero_le _, rfl, HR⟩
      case round =>
        obtain ⟨j, hj, rfl, HJ⟩ := hrel
        by_cases hlt : j < na
        · obtain ⟨b, off, rfl, hbl, hq⟩ := HZA.out.2.2.2.2.2 (by omega)
          have hf := HJ.out.from0
          obtain ⟨zn, hzn⟩ : ∃ z, za.getD j 0 = z := ⟨_, rfl⟩
          have q0 : wr.cell? ⟨b, off + j, none⟩ = some (.int .u8 zn) := by rw [← hzn]; exact (hf.cell hbl).trans (hq j hlt)
          have hzl : za.length = na := HZA.out.2.2.1
          have hmem : za[j]? = some zn := by rw [← hzn]; simp [List.getD, hlt, hzl]
          have hb8 := HBA.out zn (List.mem_of_getElem? hmem)
          obtain ⟨r, hr⟩ : ∃ z, zn.tmod 8 = z := ⟨_, rfl⟩
          have hrb : 0 ≤ r ∧ r < 8 := by
            rw [← hr]
            exact ⟨Int.tmod_nonneg 8 hb8.1, Int.tmod_lt_of_pos zn (by omega)⟩
          have e1 : IntKind.i64.wrap zn = zn := IntWalk.i64_in _ (by omega)
          have e2 : IntKind.i64.wrap (zn.tmod 8) = r := by rw [hr]; exact IntWalk.i64_in _ (by omega)
          have e3 : IntKind.i64.wrap (r + 1) = r + 1 := IntWalk.i64_in _ (by omega)
          have e4 : IntKind.i64.wrap r = r := IntWalk.i64_in _ (by omega)
          have hli : (lens za)[j]? = some (r + 1) := by unfold lens; rw [List.getElem?_map, hmem, ← hr]; rfl
          have HSS : Hid (sendAll 3 ((lens za).take (j + 1)) PA = allCome ((sendAll 3 ((lens za).take j) PA).step 3 (r + 1))) := Lib.hid (sendAll_succ 3 PA hli)
          have hlt2 : ((lens za).take j).length = j := by rw [List.length_take, lens_len, hzl]; omega
          have HGJ := Lib.hid (good_send 3 ((lens za).take j) (by rw [hlt2]; omega) (by rw [hlt2]; omega) (by rw [hlt2]; omega) HGA.out)
          rw [hlt2] at HGJ
          have HGS := Lib.hid (HGJ.out.step (by omega) (by omega) (by omega) 3 (r + 1))
          have HS : Hid (Calls Try.prog 43 #[.pointer (some ⟨g, 0, none⟩), .agg #[.int .i64 3, .int .i64 (r + 1)]] wr fun e w' => e = .returned (.tuple #[]) ∧ At2 w g x7 ((sendAll 3 ((lens za).take j) PA).step 3 (r + 1)) w') := Lib.hid (HJ.out.step_ 3 (r + 1) (by omega) HGS.out.1)
          have c7 := HJ.out.cell_
          have HR8 := Lib.hid hr
          clear hf hbl hq hzn hzl hmem hb8 hli hlt2 e2 HGJ
          go_wp2_with fail
          refine HS.out.mono ?_
          rintro e w5 ⟨rfl, h5⟩
          have H5 := Lib.hid h5
          clear h5 HS c7 q0 e1 e3 e4 hr
          go_wp2_with fail
          refine (all_comes H5.out HGS.out.2 (by omega) (by omega) (by omega)).mono ?_
          rintro e w6 ⟨rfl, h6⟩
          have H6 := Lib.hid h6
          clear h6
          go_wp2_with fail
          go_roundw
          case rel => exact ⟨j + 1, by omega, by go_num, Lib.hid (by rw [HSS.out]; exact H6.out)⟩
          case measure => simp [intOf]; omega
        · have hjn : j = na := by omega
          subst hjn
          have HE : Hid (At2 w g x7 (sendAll 3 (lens za) PA) wr) := Lib.hid (by
            have h := HJ.out
            rw [List.take_of_length_le (by rw [lens_len, HZA.out.2.2.1]; omega)] at h
            exact h)
          clear HJ
          go_wp2_with fail
          go_roundw
          case rel => exact .inr (.inl ⟨by go_num, Lib.hid (by rw [← HPB.out]; exact HE.out)⟩)
          case measure => simp [intOf]
    · go_wp2_with fail
      go_loopw [40] (fun s40 wr => ∃ j : Nat, j ≤ nb ∧ s40 = .int .i64 j ∧ Hid (At2 w g x7 (sendAll 4 ((lens zb).take j) PB) wr)) (fun s40 _ => nb - (intOf s40).toNat)
      case atStart => exact ⟨0, Nat.zero_le _, rfl, HR⟩
      case round =>
        obtain ⟨j, hj, rfl, HJ⟩ := hrel
        by_cases hlt : j < nb
        · obtain ⟨b, off, rfl, hbl, hq⟩ := HZB.out.2.2.2.2.2 (by omega)
          have hf := HJ.out.from0
          obtain ⟨zn, hzn⟩ : ∃ z, zb.getD j 0 = z := ⟨_, rfl⟩
          have q0 : wr.cell? ⟨b, off + j, none⟩ = some (.int .u8 zn) := by rw [← hzn]; exact (hf.cell hbl).trans (hq j hlt)
          have hzl : zb.length = nb := HZB.out.2.2.1
          have hmem : zb[j]? = some zn := by rw [← hzn]; simp [List.getD, hlt, hzl]
          have hb8 := HBB.out zn (List.mem_of_getElem? hmem)
          obtain ⟨r, hr⟩ : ∃ z, zn.tmod 8 = z := ⟨_, rfl⟩
          have hrb : 0 ≤ r ∧ r < 8 := by
            rw [← hr]
            exact ⟨Int.tmod_nonneg 8 hb8.1, Int.tmod_lt_of_pos zn (by omega)⟩
          have e1 : IntKind.i64.wrap zn = zn := IntWalk.i64_in _ (by omega)
          have e2 : IntKind.i64.wrap (zn.tmod 8) = r := by rw [hr]; exact IntWalk.i64_in _ (by omega)
          have e3 : IntKind.i64.wrap (r + 1) = r + 1 := IntWalk.i64_in _ (by omega)
          have e4 : IntKind.i64.wrap r = r := IntWalk.i64_in _ (by omega)
          have hli : (lens zb)[j]? = some (r + 1) := by unfold lens; rw [List.getElem?_map, hmem, ← hr]; rfl
          have HSS : Hid (sendAll 4 ((lens zb).take (j + 1)) PB = allCome ((sendAll 4 ((lens zb).take j) PB).step 4 (r + 1))) := Lib.hid (sendAll_succ 4 PB hli)
          have hlt2 : ((lens zb).take j).length = j := by rw [List.length_take, lens_len, hzl]; omega
          have HGJ := Lib.hid (good_send 4 ((lens zb).take j) (by rw [hlt2]; omega) (by rw [hlt2]; omega) (by rw [hlt2]; omega) HGB.out)
          rw [hlt2] at HGJ
          have HGS := Lib.hid (HGJ.out.step (by omega) (by omega) (by omega) 4 (r + 1))
          have HS : Hid (Calls Try.prog 43 #[.pointer (some ⟨g, 0, none⟩), .agg #[.int .i64 4, .int .i64 (r + 1)]] wr fun e w' => e = .returned (.tuple #[]) ∧ At2 w g x7 ((sendAll 4 ((lens zb).take j) PB).step 4 (r + 1)) w') := Lib.hid (HJ.out.step_ 4 (r + 1) (by omega) HGS.out.1)
          have c7 := HJ.out.cell_
          have HR8 := Lib.hid hr
          clear hf hbl hq hzn hzl hmem hb8 hli hlt2 e2 HGJ
          go_wp2_with fail
          refine HS.out.mono ?_
          rintro e w5 ⟨rfl, h5⟩
          have H5 := Lib.hid h5
          clear h5 HS c7 q0 e1 e3 e4 hr
          go_wp2_with fail
          refine (all_comes H5.out HGS.out.2 (by omega) (by omega) (by omega)).mono ?_
          rintro e w6 ⟨rfl, h6⟩
          have H6 := Lib.hid h6
          clear h6
          go_wp2_with fail
          go_roundw
          case rel => exact ⟨j + 1, by omega, by go_num, Lib.hid (by rw [HSS.out]; exact H6.out)⟩
          case measure => simp [intOf]; omega
        · have hjn : j = nb := by omega
          subst hjn
          have HE : Hid (At2 w g x7 (sendAll 4 (lens zb) PB) wr) := Lib.hid (by
            have h := HJ.out
            rw [List.take_of_length_le (by rw [lens_len, HZB.out.2.2.1]; omega)] at h
            exact h)
          clear HJ
          go_wp2_with fail
          go_roundw
          case rel => exact .inr (.inr ⟨by go_num, Lib.hid (by rw [← HPC.out]; exact HE.out)⟩)
          case measure => simp [intOf]
    · have HGD := Lib.hid (HGC.out.step (by omega) (by omega) (by omega) 5 0)
      obtain ⟨PD, hPD⟩ : ∃ z, allCome (PC.step 5 0) = z := ⟨_, rfl⟩
      have HPD := Lib.hid hPD
      have HGD2 : Hid (Good PD iss 409 43 12801) := Lib.hid (by
        have h := good_all HGD.out.2 (by omega) (by omega) (by omega)
        rw [hPD] at h
        exact h.more (by omega) (by omega) (by omega))
      have HGE := Lib.hid (HGD2.out.step (by omega) (by omega) (by omega) 6 0)
      obtain ⟨PE, hPE⟩ : ∃ z, allCome (PD.step 6 0) = z := ⟨_, rfl⟩
      have HPE := Lib.hid hPE
      have HGE2 : Hid (Good PE iss 418 44 13102) := Lib.hid (by
        have h := good_all HGE.out.2 (by omega) (by omega) (by omega)
        rw [hPE] at h
        exact h.more (by omega) (by omega) (by omega))
      have HEND : Hid ((PD.f0.st = 5 ∧ ∃ T, PD.f1 = some T ∧ T.st = 6) ∧ (PE.f0.st = 9 ∧ ∃ T, PE.f1 = some T ∧ T.st = 10) ∧ (ticks 8 PE).f0.st = 10 ∧ (ticks 8 PE).c1 = (ticks 8 PE).s0 ∧ (ticks 8 PE).c0 = (ticks 8 PE).s1) := Lib.hid (by
        have h := closes_plain iss HI.out (lens za) (lens zb) (lens_in HBA.out) (lens_in HBB.out) (by rw [lens_len, HZA.out.2.2.1]; omega) (by rw [lens_len, HZB.out.2.2.1]; omega)
        unfold closeRun at h
        dsimp only at h
        rw [HPA.out] at h
        have e1 : (lens za).foldl (fun P i => allCome (P.step 3 i)) PA = PB := HPB.out
        have e2 : (lens zb).foldl (fun P i => allCome (P.step 4 i)) PB = PC := HPC.out
        rw [e1, e2, hPD, hPE] at h
        exact h)
      have HS : Hid (Calls Try.prog 43 #[.pointer (some ⟨g, 0, none⟩), .agg #[.int .i64 5, .int .i64 0]] wr fun e w' => e = .returned (.tuple #[]) ∧ At2 w g x7 (PC.step 5 0) w') := Lib.hid (HR.out.step_ 5 0 (by omega) HGD.out.1)
      have c7 := HR.out.cell_
      clear hPD hPE HZA HZB HPA HPB HPC HGA HGB
      go_wp2_with fail
      refine HS.out.mono ?_
      rintro e w5 ⟨rfl, h5⟩
      have H5 := Lib.hid h5
      clear h5 HS c7
      go_wp2_with fail
      refine (all_comes H5.out HGD.out.2 (by omega) (by omega) (by omega)).mono ?_
      rintro e w6 ⟨rfl, h6⟩
      rw [HPD.out] at h6
      have H6 := Lib.hid h6
      obtain ⟨T1, hT1, hs1⟩ := HEND.out.1.2
      obtain ⟨col, ⟨f0, p1, tA, tc, ks, ra0, ra1, rb0, rb1, X⟩, _⟩ := h6
      obtain ⟨f1, rfl, hfl1⟩ := X.fl1 T1 hT1
      have y0 : w6.cell? ⟨g, 0, none⟩ = some (.pointer (some ⟨f0, 0, none⟩)) := X.box.cell 0
      have y1 : ∀ w', Fine w6 w' → w'.cell? ⟨g, 1, none⟩ = some (.pointer (some ⟨f1, 0, none⟩)) := fun w' fx => (X.fine_ fx).box.cell 1
      have Y1 := Lib.hid y1
      have S0 : Hid (Calls Try.prog 47 #[.pointer (some ⟨f0, 0, none⟩)] w6 fun e w' => e = .returned (.int .i64 5) ∧ Fine w6 w') := Lib.hid (by have := state_any X.fl0; rw [HEND.out.1.1] at this; exact this)
      have S1 : Hid (∀ w', Fine w6 w' → Calls Try.prog 47 #[.pointer (some ⟨f1, 0, none⟩)] w' fun e w'' => e = .returned (.int .i64 6) ∧ Fine w' w'') := Lib.hid (fun w' fx => by have := state_any (hfl1.fine fx); rw [hs1] at this; exact this)
      have c7 := H6.out.cell_
      clear X hfl1 y1 H5
      go_wp2_with fail
      refine S0.out.mono ?_
      rintro e w7 ⟨rfl, f7⟩
      have F7 := Lib.hid f7
      have y1 := Y1.out w7 f7
      have c7' := (H6.out.fine_ f7).cell_
      clear f7 S0 y0 c7
      go_wp2_with fail
      refine (S1.out w7 F7.out).mono ?_
      rintro e w8 ⟨rfl, f8⟩
      have H8 := Lib.hid (H6.out.fine_ (F7.out.trans f8))
      have HS : Hid (Calls Try.prog 43 #[.pointer (some ⟨g, 0, none⟩), .agg #[.int .i64 6, .int .i64 0]] w8 fun e w' => e = .returned (.tuple #[]) ∧ At2 w g x7 (PD.step 6 0) w') := Lib.hid (H8.out.step_ 6 0 (by omega) HGE.out.1)
      have c7 := H8.out.cell_
      clear f8 S1 y1 c7' Y1
      go_wp2_with fail
      refine HS.out.mono ?_
      rintro e w9 ⟨rfl, h9⟩
      have H9 := Lib.hid h9
      clear h9 HS c7
      go_wp2_with fail
      refine (all_comes H9.out HGE.out.2 (by omega) (by omega) (by omega)).mono ?_
      rintro e v6 ⟨rfl, h6⟩
      rw [HPE.out] at h6
      have H6 := Lib.hid h6
      obtain ⟨T2, hT2, hs2⟩ := HEND.out.2.1.2
      obtain ⟨col2, ⟨f0', p1', tA', tc', ks', qa0, qa1, qb0, qb1, X⟩, _⟩ := h6
      obtain ⟨f1', rfl, hfl1⟩ := X.fl1 T2 hT2
      have y0 : v6.cell? ⟨g, 0, none⟩ = some (.pointer (some ⟨f0', 0, none⟩)) := X.box.cell 0
      have y1 : ∀ w', Fine v6 w' → w'.cell? ⟨g, 1, none⟩ = some (.pointer (some ⟨f1', 0, none⟩)) := fun w' fx => (X.fine_ fx).box.cell 1
      have Y1 := Lib.hid y1
      have S0 : Hid (Calls Try.prog 47 #[.pointer (some ⟨f0', 0, none⟩)] v6 fun e w' => e = .returned (.int .i64 9) ∧ Fine v6 w') := Lib.hid (by have := state_any X.fl0; rw [HEND.out.2.1.1] at this; exact this)
      have S1 : Hid (∀ w', Fine v6 w' → Calls Try.prog 47 #[.pointer (some ⟨f1', 0, none⟩)] w' fun e w'' => e = .returned (.int .i64 10) ∧ Fine w' w'') := Lib.hid (fun w' fx => by have := state_any (hfl1.fine fx); rw [hs2] at this; exact this)
      have c7 := H6.out.cell_
      clear X hfl1 y1
      go_wp2_with fail
      refine S0.out.mono ?_
      rintro e v7 ⟨rfl, f7⟩
      have F7 := Lib.hid f7
      have y1 := Y1.out v7 f7
      have c7' := (H6.out.fine_ f7).cell_
      clear f7 S0 y0 c7
      go_wp2_with fail
      refine (S1.out v7 F7.out).mono ?_
      rintro e v8 ⟨rfl, f8⟩
      have H8 := Lib.hid (H6.out.fine_ (F7.out.trans f8))
      clear f8 S1 y1 c7' Y1
      go_wp2_with fail
      go_loopw [99] (fun s99 wr => ∃ k : Nat, k ≤ 8 ∧ s99 = .int .i64 k ∧ Hid (At2 w g x7 (ticks k PE) wr ∧ Good (ticks k PE) iss 418 44 (13102 + k))) (fun s99 _ => 8 - (intOf s99).toNat)
      case atStart => exact ⟨0, Nat.zero_le _, rfl, Lib.hid ⟨H8.out, HGE2.out.more (Nat.le_refl _) (Nat.le_refl _) (by omega)⟩⟩
      case round =>
        obtain ⟨k, hk, rfl, HK⟩ := hrel
        by_cases hlt : k < 8
        · have HGK := Lib.hid (HK.out.2.quiet (by omega) (by omega) (by omega) 7 0 (.inr rfl))
          have HS : Hid (Calls Try.prog 43 #[.pointer (some ⟨g, 0, none⟩), .agg #[.int .i64 7, .int .i64 0]] wr fun e w' => e = .returned (.tuple #[]) ∧ At2 w g x7 ((ticks k PE).step 7 0) w') := Lib.hid (HK.out.1.step_ 7 0 (by omega) HGK.out.1)
          have c7 := HK.out.1.cell_
          go_wp2_with fail
          refine HS.out.mono ?_
          rintro e w5 ⟨rfl, h5⟩
          have H5 := Lib.hid h5
          clear h5 HS c7
          go_wp2_with fail
          go_roundw
          case rel => exact ⟨k + 1, by omega, by go_num, Lib.hid ⟨by rw [ticks_succ]; exact H5.out, by rw [ticks_succ]; exact HGK.out.2.more (Nat.le_refl _) (Nat.le_refl _) (by omega)⟩⟩
          case measure => simp [intOf]; omega
        · have hk8 : k = 8 := by omega
          obtain ⟨PF, hPF⟩ : ∃ z, ticks k PE = z := ⟨_, rfl⟩
          have HE2 : Hid (PF.f0.st = 10 ∧ PF.c1 = PF.s0 ∧ PF.c0 = PF.s1) := Lib.hid (by
            rw [← hPF, hk8]
            exact HEND.out.2.2)
          rw [hPF] at HK
          clear hk8 hPF
          obtain ⟨col3, ⟨u0, u1, uA, uc, us, ⟨sA, sn, sc⟩, ⟨tA3, tn, tc3⟩, ⟨vA, vn, vc⟩, ⟨xA, xn, xc⟩, X⟩, _⟩ := HK.out.1
          have XF := Lib.hid X
          have y0 : ∀ p : FineBy wr, p.W.cell? ⟨g, 0, none⟩ = some (.pointer (some ⟨u0, 0, none⟩)) := fun p => (XF.out.fine_ p.h).box.cell 0
          have y3 : ∀ p : FineBy wr, p.W.cell? ⟨g, 3, none⟩ = some (.slice sA sn sc) := fun p => (XF.out.fine_ p.h).box.cell 3
          have y4 : ∀ p : FineBy wr, p.W.cell? ⟨g, 4, none⟩ = some (.slice tA3 tn tc3) := fun p => (XF.out.fine_ p.h).box.cell 4
          have y5 : ∀ p : FineBy wr, p.W.cell? ⟨g, 5, none⟩ = some (.slice vA vn vc) := fun p => (XF.out.fine_ p.h).box.cell 5
          have y6 : ∀ p : FineBy wr, p.W.cell? ⟨g, 6, none⟩ = some (.slice xA xn xc) := fun p => (XF.out.fine_ p.h).box.cell 6
          have y7 : ∀ p : FineBy wr, p.W.cell? ⟨x7, 0, none⟩ = some (.pointer (some ⟨g, 0, none⟩)) := fun p => (HK.out.1.fine_ p.h).cell_
          have QA : Hid (∀ p : FineBy wr, Calls Try.prog 47 #[.pointer (some ⟨u0, 0, none⟩)] p.W fun e w'' => e = .returned (.int .i64 10) ∧ Fine p.W w'') := Lib.hid (fun p => by have := state_any (XF.out.fine_ p.h).fl0; rw [HE2.out.1] at this; exact this)
          have Q1 : Hid (∀ p : FineBy wr, Calls Try.prog 48 #[.slice sA sn sc, .slice xA xn xc] p.W fun e w'' => e = .returned (.bool true) ∧ Fine p.W w'') := Lib.hid (fun p => by
            have h1 := (XF.out.fine_ p.h).r0.rs
            have h2 := (XF.out.fine_ p.h).r3.rs
            have := bytes_any sA xA sc xc PF.s0 PF.c1 p.W h1.1 h2.1
            rw [← h1.2, ← h2.2, decide_eq_true HE2.out.2.1.symm] at this
            exact this)
          have Q2 : Hid (∀ p : FineBy wr, Calls Try.prog 48 #[.slice tA3 tn tc3, .slice vA vn vc] p.W fun e w'' => e = .returned (.bool true) ∧ Fine p.W w'') := Lib.hid (fun p => by
            have h1 := (XF.out.fine_ p.h).r1.rs
            have h2 := (XF.out.fine_ p.h).r2.rs
            have := bytes_any tA3 vA tc3 vc PF.s1 PF.c0 p.W h1.1 h2.1
            rw [← h1.2, ← h2.2, decide_eq_true HE2.out.2.2.symm] at this
            exact this)
          clear X
          go_upto_region 30 with fail
          refine wp_region_quiet_fine (by kernel_rfl) (by kernel_rfl) ?_
          iterate 6 (go_big_quiet_step (exact Calls.fine_of (QA.out _)))
          iterate 13 (go_big_quiet_step (exact Calls.fine_of (Q1.out _)))
          repeat (go_big_quiet_step (exact Calls.fine_of (Q2.out _)))
          refine wpQuiet_nil ?_
          intro wg hwg'
          have hwg := Lib.hid (FineBy.of hwg')
          clear hwg' y0 y3 y4 y5 y6 y7 QA Q1 Q2
          go_wp2_with fail
          go_ret
          exact ⟨rfl, XF.out.fine.trans hwg.out⟩
set_option maxHeartbeats 2000000 in
set_option maxRecDepth 100000 in
theorem lawFlowCloses (w : World) (iss : Int) (wi : (Lit.int .u32 iss).wf = true) (A : Option Addr) (na ca : Nat) (za : List Int) (hza : IntsIn .u8 w A na ca za) (B : Option Addr) (nb cb : Nat) (zb : List Int) (hzb : IntsIn .u8 w B nb cb zb) :
    Calls Try.prog 13 #[.int .u32 iss, .slice A na ca, .slice B nb cb] w fun e w' => e = .returned (.bool true) ∧ Below w.heap.size w w' := by
  show Calls _ _ _ _ fun e w' => e = .returned (.bool true) ∧ Fine w w'
  have hi := bounds_u32 wi
  by_cases hl : na ≤ 20 ∧ nb ≤ 20
  · exact flowCloses_main w iss ⟨hi.1, by omega⟩ A B na nb ca cb za zb hza hzb hl.1 hl.2
  · have key : ∀ K : Prop, (decide (20 < (na : Int)) = true → (na : Int) > 20 → K) → (decide (20 < (na : Int)) = false → ¬ (na : Int) > 20 → decide (20 < (nb : Int)) = true → (nb : Int) > 20 → K) → K := fun K a b => by
      by_cases h : 20 < na
      · exact a (by simp; omega) (by omega)
      · exact b (by simp; omega) (by omega) (by simp; omega) (by omega)
    clear hza hzb hi wi
    refine key _ (fun g1 g1' => ?_) (fun g1 g1' g2 g2' => ?_)
    all_goals
      clear key hl
      go_enter Try.func13, Try.ntmps13
      go_wp2_with fail
      refine (flowWakes_any w).mono ?_
      rintro e w1 ⟨rfl, f1⟩
      have F1 := Lib.hid f1
      clear f1
      go_wp2_with fail
      go_ret
      exact ⟨rfl, F1.out⟩
end Go.Proofs.Ytjldgialhgfhmaa
