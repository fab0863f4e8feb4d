/- The law DsendActs, its loop. The law DsendActs, joined. -/
import Derived.Test.YtnigfdldfmiaiaaMg
import Derived.Test.YtnigfdldfmiaiaaMi
namespace Go.Proofs.Ytnigfdldfmiaiaa
set_option linter.unusedVariables false
set_option linter.unusedSimpArgs false
open Go.ChangeShapes Go.WideShapes Go.ChangeAt Go.RowKit Go.Maps
set_option linter.unusedVariables false
set_option linter.unusedSimpArgs false
set_option maxHeartbeats 8000000 in
set_option maxRecDepth 1000000 in
theorem dsendActs_main (w : World) (A : Option Addr) (n cap : Nat) (acts : List Ds) (hn100 : n ≤ 100) (hr : RS layDs w A cap acts) (hn : acts.length = n) (hok : ∀ x ∈ acts, DsOk w x) :
    Calls Try.prog 16 #[.slice A n cap] w fun r w' => r = .returned (.bool true) ∧ Fine w w' := by
  have HR := Lib.hid hr; have HOK := Lib.hid hok; have HN := Lib.hid hn
  have hz2 : ¬ (n : Int) > 100 := by omega
  clear hr hok hn
  go_enter Try.func16, Try.ntmps16
  go_wp2_with fail
  refine (dsendWakes_any w).mono ?_
  rintro r w1 ⟨rfl, f1⟩
  have F1 := Lib.hid f1
  clear f1
  go_wp2_with fail
  refine (sn_new w1).mono ?_
  rintro r w2 ⟨s, rfl, h2, f2⟩
  have hs12 := F1.out.size
  have H2 := Lib.hid h2; have F2 := Lib.hid (F1.out.trans f2)
  have hs22 := f2.size
  clear h2 f2
  go_wp2_with fail
  refine (rsnew_any w2).mono ?_
  rintro r w3 ⟨rfl, r3, f3⟩
  obtain ⟨x, hx⟩ : ∃ x, w2.heap.size = x := ⟨_, rfl⟩
  rw [hx] at r3 ⊢
  have P3 : Hid (PrS w w3 s x (fun y => w1.heap.size ≤ y ∧ y < w2.heap.size) (· = x) ⟨1, 1, 33, [], false, false⟩ (fun _ => false) 1) := Lib.hid ⟨H2.out.fine f3, r3, Sn.ok0, fun y hy e => by have := hy.2; have e : y = x := e; omega, fun y hy => by have := hy.1; omega, fun y hy => by have hy : y = x := hy; omega, F2.out.trans f3⟩
  clear r3 f3 hx hs22 hs12
  go_wp2_with fail
  go_loopw [27] (fun s27 wr => ∃ (i : Nat), i ≤ n ∧ s27 = .int .i64 i ∧ Hid (∃ F G T L, PrS w wr s x F G T L (1 + 100 * (i : Int)))) (fun s27 _ => n - (intOf s27).toNat)
  case atStart => exact ⟨0, Nat.zero_le _, rfl, Lib.hid ⟨_, _, _, _, P3.out⟩⟩
  case round =>
    obtain ⟨i, hi, rfl, HJ⟩ := hrel
    obtain ⟨F, G, T, L, j1⟩ := HJ.out
    have J1 := Lib.hid j1
    clear j1 HJ
    by_cases hlt : i < n
    · obtain ⟨r, hr0⟩ : ∃ r, acts[i]? = some r := ⟨_, List.getElem?_eq_getElem (by have := HN.out; omega)⟩
      obtain ⟨rk, rn, rm, rA, rl, rc, zs⟩ := r
      by_cases hk0 : rk = 0 ∧ rl ≤ 100
      · exact dsendActs_0 w wr A n cap acts hn100 HR HOK HN (by omega) s x i hi hlt F G T L J1 _ hr0 hk0.1 hk0.2 _ _ _ _ _ _ _ _ _ _ _ _ _ _ _ _ _ _ _ _ _ _ _ _ _ _ _ _ _ _ _ _ _ _ _ _ _ _ _ _ _ _ _ _ _ _ _ _ _ _ _ _ _ _ _ _ _ _ _ _ _ _ _ _ _ _ _ _ _ _ _ _ _ _ _ _ _ _ _ _ _ _ _ _ _ _ _ _ _ _ _ _ _ _ _ _ _ _ _ _ _ _ _ _ _ _ _ _ _ _ _ _ _ _ _ _ _ _ _ _ _ _ _ _ _ _ _ _ _ _ _ _ _ _ _ _ _ _ _ _ _ _ _ _ _ _ _ _ _ _ _ _ _ _ _ _ _ _ _ _ _
      by_cases hk1 : rk = 1
      · exact dsendActs_1 w wr A n cap acts hn100 HR HOK HN (by omega) s x i hi hlt F G T L J1 _ hr0 hk1 _ _ _ _ _ _ _ _ _ _ _ _ _ _ _ _ _ _ _ _ _ _ _ _ _ _ _ _ _ _ _ _ _ _ _ _ _ _ _ _ _ _ _ _ _ _ _ _ _ _ _ _ _ _ _ _ _ _ _ _ _ _ _ _ _ _ _ _ _ _ _ _ _ _ _ _ _ _ _ _ _ _ _ _ _ _ _ _ _ _ _ _ _ _ _ _ _ _ _ _ _ _ _ _ _ _ _ _ _ _ _ _ _ _ _ _ _ _ _ _ _ _ _ _ _ _ _ _ _ _ _ _ _ _ _ _ _ _ _ _ _ _ _ _ _ _ _ _ _ _ _ _ _ _ _ _ _ _ _ _ _
      by_cases hk2 : rk = 2
      · exact dsendActs_2 w wr A n cap acts hn100 HR HOK HN (by omega) s x i hi hlt F G T L J1 _ hr0 hk2 _ _ _ _ _ _ _ _ _ _ _ _ _ _ _ _ _ _ _ _ _ _ _ _ _ _ _ _ _ _ _ _ _ _ _ _ _ _ _ _ _ _ _ _ _ _ _ _ _ _ _ _ _ _ _ _ _ _ _ _ _ _ _ _ _ _ _ _ _ _ _ _ _ _ _ _ _ _ _ _ _ _ _ _ _ _ _ _ _ _ _ _ _ _ _ _ _ _ _ _ _ _ _ _ _ _ _ _ _ _ _ _ _ _ _ _ _ _ _ _ _ _ _ _ _ _ _ _ _ _ _ _ _ _ _ _ _ _ _ _ _ _ _ _ _ _ _ _ _ _ _ _ _ _ _ _ _ _ _ _ _
      by_cases hk3 : rk = 3
      · exact dsendActs_3 w wr A n cap acts hn100 HR HOK HN (by omega) s x i hi hlt F G T L J1 _ hr0 hk3 _ _ _ _ _ _ _ _ _ _ _ _ _ _ _ _ _ _ _ _ _ _ _ _ _ _ _ _ _ _ _ _ _ _ _ _ _ _ _ _ _ _ _ _ _ _ _ _ _ _ _ _ _ _ _ _ _ _ _ _ _ _ _ _ _ _ _ _ _ _ _ _ _ _ _ _ _ _ _ _ _ _ _ _ _ _ _ _ _ _ _ _ _ _ _ _ _ _ _ _ _ _ _ _ _ _ _ _ _ _ _ _ _ _ _ _ _ _ _ _ _ _ _ _ _ _ _ _ _ _ _ _ _ _ _ _ _ _ _ _ _ _ _ _ _ _ _ _ _ _ _ _ _ _ _ _ _ _ _ _ _
      by_cases hk4 : rk = 4
      · exact dsendActs_4 w wr A n cap acts hn100 HR HOK HN (by omega) s x i hi hlt F G T L J1 _ hr0 hk4 _ _ _ _ _ _ _ _ _ _ _ _ _ _ _ _ _ _ _ _ _ _ _ _ _ _ _ _ _ _ _ _ _ _ _ _ _ _ _ _ _ _ _ _ _ _ _ _ _ _ _ _ _ _ _ _ _ _ _ _ _ _ _ _ _ _ _ _ _ _ _ _ _ _ _ _ _ _ _ _ _ _ _ _ _ _ _ _ _ _ _ _ _ _ _ _ _ _ _ _ _ _ _ _ _ _ _ _ _ _ _ _ _ _ _ _ _ _ _ _ _ _ _ _ _ _ _ _ _ _ _ _ _ _ _ _ _ _ _ _ _ _ _ _ _ _ _ _ _ _ _ _ _ _ _ _ _ _ _ _ _
      have hrok := HOK.out _ (List.mem_of_getElem? hr0)
      obtain ⟨bb, o, rfl, hb, hc⟩ := (HR.out.fine J1.out.fine).at_ hr0
      have d0 := hc 0 (.int .i64 rk) rfl
      have d1 := hc 1 (.int .i64 rn) rfl
      have d2 := hc 2 (.int .i64 rm) rfl
      have d3 := hc 3 (.slice rA rl rc) rfl
      simp only [← Nat.add_assoc, Nat.add_zero] at d0 d1 d2 d3
      have HD := Lib.hid hrok
      obtain ⟨xr, hxr⟩ : ∃ x, wr.heap.size = x := ⟨_, rfl⟩
      have b5 := Blk.newAt (w := wr) (t := 76) (cs := #[.int .i64 rk, .int .i64 rn, .int .i64 rm, .slice rA rl rc]) hxr.symm
      have f5 := (Fine.refl wr).alloc (.cells #[.int .i64 rk, .int .i64 rn, .int .i64 rm, .slice rA rl rc] 76)
      have hxF : ¬ F xr := fun hf => by have := J1.out.s.lt _ hf; omega
      have hxG : ¬ G xr := fun hf => by have := J1.out.r.lt _ hf; omega
      clear hc hr0 hrok
      go_upto_region 9 with fail
      generalize wr.alloc (.cells #[.int .i64 rk, .int .i64 rn, .int .i64 rm, .slice rA rl rc] 76) = w5 at b5 f5 ⊢
      have B5 := Lib.hid b5; have J5 := Lib.hid (J1.out.wfine f5)
      have c0 : w5.cell? ⟨xr, 0, none⟩ = some (.int .i64 rk) := b5.cell 0
      have c1 : w5.cell? ⟨xr, 1, none⟩ = some (.int .i64 rn) := b5.cell 1
      have c2 : w5.cell? ⟨xr, 2, none⟩ = some (.int .i64 rm) := b5.cell 2
      have c3 : w5.cell? ⟨xr, 3, none⟩ = some (.slice rA rl rc) := b5.cell 3
      clear b5 f5 hxr d0 d1 d2 d3
      obtain ⟨una, huna⟩ : ∃ z, T.una = z := ⟨_, rfl⟩
      have hub : 1 ≤ una ∧ una ≤ 20000 := by have h1 := J1.out.ok.u1; have h2 := J1.out.ok.ub; omega
      have HUNA := Lib.hid huna
      have hKb : 1 + 100 * (i : Int) ≤ 20000 := by omega
      have hKi : (1 + 100 * (i : Int)) + 100 = 1 + 100 * ((i + 1 : Nat) : Int) := by omega
      have hKm : (1 + 100 * (i : Int)) ≤ 1 + 100 * ((i + 1 : Nat) : Int) := by omega
      have HKI := Lib.hid hKi
      clear huna hKi
      by_cases hk0' : rk = 0
      · subst hk0'
        have hbig2 : (rl : Int) > 100 := by
          have : ¬ rl ≤ 100 := fun h => hk0 ⟨rfl, h⟩
          omega
        go_wp2_with fail
        go_ret
        exact ⟨rfl, J5.out.fine⟩
      · have hk0b : (rk == 0) = false := by simpa using hk0'
        have hk1b : (rk == 1) = false := by simpa using hk1
        have hk2b : (rk == 2) = false := by simpa using hk2
        have hk3b : (rk == 3) = false := by simpa using hk3
        have hk4b : (rk == 4) = false := by simpa using hk4
        obtain ⟨T9, hT9⟩ : ∃ z, z = T := ⟨_, rfl⟩
        obtain ⟨F9, hF9⟩ : ∃ z, z = F := ⟨_, rfl⟩
        obtain ⟨G9, hG9⟩ : ∃ z, z = G := ⟨_, rfl⟩
        obtain ⟨L9, hL9⟩ : ∃ z, z = L := ⟨_, rfl⟩
        have J9 := Lib.hid (J5.out.more hKm)
        rw [← hT9, ← hF9, ← hG9, ← hL9] at J9
        go_upto_region 36 with fail
        obtain ⟨w9, hw9⟩ : ∃ z, z = w5 := ⟨_, rfl⟩
        clear hT9 hF9 hG9 hL9 c0 c1 c2 c3
        subst hw9
        go_wp2_with fail
        refine (ssame_any (by omega) J9.out.ok w9 J9.out.s J9.out.r).mono ?_
        rintro e v1 ⟨rfl, f1⟩
        have K1 := Lib.hid f1
        clear f1
        go_wp2_with fail
        exact ⟨⟨i + 1, hlt, by simp, Lib.hid ⟨F9, G9, T9, L9, J9.out.wfine K1.out⟩⟩, by simp only [intOf]; omega⟩
    · have hie : i = n := by omega
      subst hie
      go_wp2_with fail
      go_ret
      exact ⟨rfl, J1.out.fine⟩
end Go.Proofs.Ytnigfdldfmiaiaa
namespace Go.Proofs.Ytnigfdldfmiaiaa
set_option linter.unusedVariables false
set_option linter.unusedSimpArgs false
open Go.ChangeShapes Go.WideShapes Go.ChangeAt Go.RowKit Go.Maps
set_option linter.unusedVariables false
set_option linter.unusedSimpArgs false
set_option maxHeartbeats 2000000 in
set_option maxRecDepth 20000 in
theorem lawDsendActs (w : World) (A : Option Addr) (len cap : Nat) (z : List Ds) (h : RS layDs w A cap z ∧ z.length = len ∧ ∀ x ∈ z, DsOk w x) :
    Calls Try.prog 16 #[.slice A len cap] w fun e w' => e = .returned (.bool true) ∧ Below w.heap.size w w' := by
  show Calls _ _ _ _ fun e w' => e = .returned (.bool true) ∧ Fine w w'
  obtain ⟨h1, h2, h3⟩ := h
  by_cases hl : len ≤ 100
  · exact dsendActs_main w A len cap z hl h1 h2 h3
  · clear h1 h2 h3
    have h4 : (len : Int) > 100 := by omega
    go_enter Try.func16, Try.ntmps16
    go_wp2_with fail
    refine (dsendWakes_any w).mono ?_
    rintro r w1 ⟨rfl, f1⟩
    have F1 := Lib.hid f1
    clear f1
    go_wp2_with fail
    go_ret
    exact ⟨rfl, F1.out⟩
end Go.Proofs.Ytnigfdldfmiaiaa
