/- The law DsendAll. -/
import Derived.Test.YtnigfdldfmiaiaaXSnd17
namespace Go.Proofs.Ytnigfdldfmiaiaa
set_option linter.unusedVariables false
set_option linter.unusedSimpArgs false
open Go.ChangeShapes Go.WideShapes Go.ChangeAt Go.RowKit Go.Maps
set_option linter.unusedVariables false
set_option linter.unusedSimpArgs false
theorem cntZ_run {d : Int} {k : Nat} (h0 : 0 ≤ d) {L : Int → Bool} (hL : ∀ m, L m = (decide (d ≤ m) && decide (m < d + k))) (K : Nat) (hK : (K : Int) = d + k) : cntZ L K = k := by
  have h := count_between d (d + k) h0 (by omega) K
  unfold cntZ
  have e : (fun n : Nat => L (n : Int)) = (fun n : Nat => decide (d ≤ (n : Int)) && decide ((n : Int) < d + k)) := funext fun n => hL n
  rw [e, h]
  split
  · omega
  · rw [if_pos (by omega)]
    omega
theorem cntZ_none {L : Int → Bool} (hL : ∀ m, L m = false) (K : Nat) : cntZ L K = 0 := by
  unfold cntZ
  rw [List.countP_eq_zero.mpr (fun n _ => by rw [hL]; decide)]
  rfl
/-- What was lost all at once is taken all at once. -/
theorem take_again {T : Sn} {L L' : Int → Bool} {d dsn nx' : Int} {k n : Nat} (h0 : 0 < k) (h8 : k ≤ 8) (hL : ∀ m, L m = (decide (d ≤ m) && decide (m < d + k))) (hp : TakeP T L 8 dsn n nx' L') : dsn = d ∧ n = k ∧ nx' = T.nx ∧ ∀ m, L' m = false := by
  have yes : ∀ m, d ≤ m → m < d + k → L m = true := fun m a b => by rw [hL, decide_eq_true a, decide_eq_true b]; rfl
  have no : ∀ m, L m = true → d ≤ m ∧ m < d + k := fun m h => by rw [hL] at h; simpa using h
  rcases hp with ⟨_, p2, p3, p4, p5, p6, p7, p8, p9, p10⟩ | ⟨q1, _⟩
  · have h1 := no dsn (p7 dsn (Int.le_refl _) (by omega))
    have h2 : dsn = d := by
      rcases Int.lt_or_le d dsn with h | h
      · have := p6 d h
        rw [yes d (Int.le_refl _) (by omega)] at this
        cases this
      · omega
    subst h2
    have h3 := no (dsn + n - 1) (p7 _ (by omega) (by omega))
    have h4 : n = k := by
      unfold tkM at p5 p8
      rcases p8 with h | h
      · omega
      · rcases Nat.lt_or_ge n k with h5 | h5
        · rw [yes _ (by omega) (by omega)] at h
          cases h
        · omega
    subst h4
    refine ⟨rfl, rfl, p9, fun m => ?_⟩
    rw [p10, hL]
    cases (decide (dsn ≤ m) && decide (m < dsn + (n : Int))) <;> rfl
  · have := q1 d
    rw [yes d (Int.le_refl _) (by omega)] at this
    cases this
/-- How the data stand: j were taken. -/
structure AlJ (w0 w : World) (s : Nat) (F : Nat → Prop) (xs : List Int) (u j : Nat) (ed : Int) (A : Option Addr) (c : Nat) : Prop where
  st : SnJ w0 w s F ⟨(u : Int) + 1, (j : Int) + 1, ed, xs.drop u, false, false⟩ (fun _ => false) 1000
  own : Own layB 5 w w0.heap.size (.slice A j c) (xs.take j)
  far : ∀ y, (Value.slice A j c).ownBlock = some y → ¬ F y
set_option maxHeartbeats 8000000 in
set_option maxRecDepth 20000 in
theorem dsendAll_main (w : World) (A : Option Addr) (n cap : Nat) (xs : List Int) (hn64 : n ≤ 64) (hxn : xs.length = n) (hxr : RS layB w A cap xs) (B : Option Addr) (nb cb : Nat) (ms : List Int) (hnb : nb ≤ 20) (hmn : ms.length = nb) (hmr : RS layB w B cb ms) (hmb : ∀ x ∈ ms, 0 ≤ x ∧ x ≤ 255) (m : Int) (hm : 0 ≤ m ∧ m ≤ 255) :
    Calls Try.prog 13 #[.slice A n cap, .slice B nb cb, .int .u8 m] w fun r w' => r = .returned (.bool true) ∧ Fine w w' := by
  have HXR := Lib.hid hxr; have HXN := Lib.hid hxn; have HMR := Lib.hid hmr; have HMN := Lib.hid hmn; have HMB := Lib.hid hmb
  obtain ⟨f0, hf0⟩ : ∃ k : Nat, m.tmod 10 = (k : Int) := ⟨(m.tmod 10).toNat, by have := Int.tmod_nonneg 10 hm.1; omega⟩
  have em : IntKind.i64.wrap m = m := IntWalk.i64_in _ (by omega)
  have hg1 : ¬ (n : Int) > 64 := by omega
  have hg1' : decide (64 < (n : Int)) = false := decide_eq_false hg1
  have hg2 : ¬ (nb : Int) > 20 := by omega
  have hg2' : decide (20 < (nb : Int)) = false := decide_eq_false hg2
  have hg3 : ((n : Int) != (n : Int)) = false := by simp
  clear hxr hxn hmr hmn hmb
  go_enter Try.func13, Try.ntmps13
  go_wp2_with fail
  refine (dsendWakes_any w).mono ?_
  rintro r w1 ⟨rfl, f1⟩
  have F1 := Lib.hid f1
  clear f1
  go_wp2_with fail
  refine (sn_new w1).mono ?_
  rintro r w2 ⟨s, rfl, h2, f2⟩
  have hs12 := F1.out.size
  have H2 : Hid (SnJ w w2 s _ _ _ 1) := Lib.hid ⟨h2, Sn.ok0, fun x hx => by have := hx.1; omega, F1.out.trans f2⟩
  clear h2 f2
  go_wp2_with fail
  refine (sn_write n cap A xs HXN.out (by omega) (by simp) w2 (HXR.out.fine H2.out.fine) H2.out.st).mono ?_
  rintro r w3 ⟨F3, rfl, x3, k3, hF3⟩
  have h1 : wrN ⟨1, 1, 33, [], false, false⟩ xs = n := by unfold wrN; have := HXN.out; simp; omega
  have h2 : wrE ⟨1, 1, 33, [], false, false⟩ xs = 0 := by unfold wrE; simp
  have hw3 : (Sn.wrote ⟨1, 1, 33, [], false, false⟩ xs) = ⟨1, 1, 33, xs, false, false⟩ := by
    simp only [Sn.wrote, h1, List.nil_append]
    rw [← HXN.out, List.take_length]
  have ok3 := (H2.out.ok.wrote xs).more (show (1 : Int) + 100 ≤ 1000 by omega)
  rw [hw3] at x3 ok3
  rw [h1, h2]
  have J3 : Hid (AlJ w w3 s F3 xs 0 0 33 none 0) := Lib.hid ⟨H2.out.moved k3 x3 ok3 hF3, by rw [List.take_zero]; exact Own.nil_ _ _ _ _, fun y hy => by cases hy⟩
  clear x3 k3 hF3 hw3 ok3 h1 h2 H2
  go_wp2_with fail
  go_loopw [10, 11] (fun s10 s11 wr => ∃ (k j : Nat) (A2 : Option Addr) (c2 : Nat), s10 = .slice A2 j c2 ∧ s11 = .int .i64 k ∧ j ≤ n ∧ Hid (∃ F u ed, AlJ w wr s F xs u j ed A2 c2 ∧ u ≤ j ∧ ((ed = 33 ∧ k ≤ j) ∨ (ed = 65 ∧ k ≤ j + 1)))) (fun _ s11 _ => 201 - (intOf s11).toNat)
  case atStart => exact ⟨0, 0, none, 0, rfl, rfl, Nat.zero_le _, Lib.hid ⟨F3, 0, 33, J3.out, Nat.le_refl _, .inl ⟨rfl, Nat.le_refl _⟩⟩⟩
  case round =>
    obtain ⟨k, j, A2, c2, rfl, rfl, hjn, HJ⟩ := hrel
    obtain ⟨F, u, ed, hJ, huj, hst⟩ := HJ.out
    have J5 := Lib.hid hJ.st; have JOWN5 := Lib.hid hJ.own; have JFAR5 := Lib.hid hJ.far
    have hkb : k ≤ 65 := by omega
    clear hJ HJ
    by_cases hlt : j < n
    · have q1 : decide ((j : Int) < (n : Int)) = true := by simp; omega
      have q2 : decide ((k : Int) < 200) = true := by simp; omega
      by_cases hkm : k < nb
      · obtain ⟨bb, oo, rfl, _, hc⟩ := (HMR.out.fine J5.out.fine).atI (i := k) (by rw [HMN.out]; exact hkm)
        have hvb := HMB.out _ (getD_mem ms k (by rw [HMN.out]; exact hkm))
        obtain ⟨mv, hmv⟩ : ∃ z, ms.getD k 0 = z := ⟨_, rfl⟩
        rw [hmv] at hc hvb
        have ev : IntKind.i64.wrap mv = mv := IntWalk.i64_in _ (by omega)
        clear hmv
        go_upto_region 16 with fail
        clear hc ev
        have TKE : ∀ u' : Int, (List.drop ((j : Int) + 1 - ((u : Int) + 1)).toNat (List.drop u xs)) = List.drop (j - u) (List.drop u xs) := fun _ => by rw [show ((j : Int) + 1 - ((u : Int) + 1)).toNat = j - u by omega]
        go_wp2_with fail
        refine (sn_take mv (by omega) J5.out.ok wr J5.out.st).mono ?_
        rintro r w6 ⟨dsn, kk, A7, c7, F6, nx6, L6, rfl, o7, x7, k7, hF7, hp, hd7⟩
        obtain ⟨ok7, hk8, hpos, hnn, hlen⟩ := J5.out.ok.took hp
        have hne := J5.out.ok.ne
        dsimp only at hne
        have hq : (∀ m, L6 m = false) ∧ nx6 = (j : Int) + 1 + kk ∧ (kk : Int) = max 0 (min (min ((u : Int) + 1 + (xs.drop u).length - ((j : Int) + 1)) (ed - ((j : Int) + 1))) (tkM mv)) ∧ dsn = if kk = 0 then 0 else (j : Int) + 1 := by
          rcases hp with ⟨⟨q, hq⟩, _⟩ | ⟨_, q2, q3, q4, q5⟩
          · cases hq
          · exact ⟨q2, q4, q3, q5⟩
        obtain ⟨hL6, hnx6, hkk, hdsn⟩ := hq
        have hL6' : L6 = fun _ => false := funext hL6
        subst hL6' hnx6
        have hdl : ((xs.drop u).length : Int) = (n : Int) - u := by rw [List.length_drop, HXN.out]; omega
        rw [hdl] at hkk
        unfold tkM at hkk
        have J6 := Lib.hid (J5.out.moved k7 x7 ok7 hF7)
        dsimp only at J6 o7
        have JO6 : Hid (Own layB 5 w6 w.heap.size (.slice A2 j c2) (xs.take j)) := Lib.hid (JOWN5.out.kept k7 (fun y hy hf => JFAR5.out y hy hf))
        have JFAR6 : Hid (∀ y, (Value.slice A2 j c2).ownBlock = some y → ¬ F6 y) := Lib.hid (fun y hy hf => (hF7 y hf).elim (JFAR5.out y hy) (fun h => by have := (JOWN5.out.lt y hy).2; omega))
        have HSZ : Hid (w.heap.size ≤ w6.heap.size) := Lib.hid J6.out.fine.size
        clear x7 k7 hF7 hp ok7 hlen hpos hL6 hnn hdl J5 JOWN5 JFAR5 TKE
        by_cases hk0 : kk = 0
        · subst hk0
          have hed : ed = (j : Int) + 1 := by omega
          have hu : ed = 33 := by rcases hst with ⟨h1, _⟩ | ⟨h1, _⟩ <;> omega
          subst hed
          clear hkk o7 hdsn hd7
          go_wp2_with fail
          refine (sn_next rfl w6 J6.out.st).mono ?_
          rintro r w7 ⟨rfl, f7⟩
          rw [show ((j : Int) + 1 + ((0 : Nat) : Int)) = (j : Int) + 1 by omega] at J6 ⊢
          have J7 := Lib.hid (J6.out.wfine f7)
          have JO7 := Lib.hid (JO6.out.fine f7)
          clear f7
          obtain ⟨j1, hj1⟩ : ∃ z, (j : Int) + 1 = z := ⟨_, rfl⟩
          have HJ1 := Lib.hid hj1
          rw [hj1]
          clear hj1
          go_wp2_with fail
          refine (sn_ack j1 32 (by omega) J7.out.ok w7 J7.out.st).mono ?_
          rintro r w8 ⟨F8, L8, x8, k8, hF8, hp⟩
          have hdl : ((xs.drop u).length : Int) = (n : Int) - u := by rw [List.length_drop, HXN.out]; omega
          have hok : ackOk ⟨(u : Int) + 1, (j : Int) + 1, (j : Int) + 1, xs.drop u, false, false⟩ j1 32 := by
            have h1 := HJ1.out
            refine ⟨by dsimp only; omega, ?_, by omega, by omega⟩
            dsimp only
            unfold mostV
            rw [if_neg (by simp)]
            omega
          have hok8 := J7.out.ok.acked_ (hp.imp (fun h => ⟨h.1, h.2.2⟩) (fun h => ⟨h.1, h.2.2⟩))
          have hT8 : Sn.acked ⟨(u : Int) + 1, (j : Int) + 1, (j : Int) + 1, xs.drop u, false, false⟩ j1 32 = ⟨(j : Int) + 1, (j : Int) + 1, (j : Int) + 33, xs.drop j, false, false⟩ := by
            have h1 := HJ1.out
            simp only [Sn.acked]
            rw [show min j1 ((u : Int) + 1 + ((xs.drop u).length : Int)) = (j : Int) + 1 by omega, show max ((j : Int) + 1) (j1 + 32) = (j : Int) + 33 by omega, show ((j : Int) + 1 - ((u : Int) + 1)).toNat = j - u by omega, List.drop_drop, show u + (j - u) = j by omega, decide_eq_false (by omega)]
            rfl
          have hr : ∃ z, r = .returned (.tuple #[.int .i64 z, .bool true]) ∧ ∀ m, L8 m = false := hp.elim (fun h => ⟨_, h.2.1, fun m => by rw [h.2.2]; rfl⟩) (fun h => absurd hok h.1)
          obtain ⟨z, rfl, hL8⟩ := hr
          rw [if_pos hok, hT8] at x8 hok8
          have hL8' : L8 = fun _ => false := funext hL8
          subst hL8'
          have HJ32 : Hid (j = 32) := Lib.hid (by omega)
          have J8 : Hid (AlJ w w8 s F8 xs j j ((j : Int) + 33) A2 c2) := Lib.hid ⟨J7.out.moved k8 x8 hok8 hF8, JO7.out.kept k8 (fun y hy hf => JFAR6.out y hy hf), fun y hy hf => (hF8 y hf).elim (JFAR6.out y hy) (fun h => by have := (JO7.out.lt y hy).2; omega)⟩
          clear x8 k8 hF8 hp hok8 hok hL8 hT8 hdl
          go_wp2_with fail
          exact ⟨⟨k + 1, j, A2, c2, by simp, by simp, by omega, Lib.hid ⟨F8, j, _, J8.out, by omega, by have := HJ32.out; omega⟩⟩, by simp only [intOf]; omega⟩
        · have hds : dsn = (j : Int) + 1 := by rw [if_neg hk0] at hdsn; exact hdsn
          subst hds
          have hkb : 0 < kk ∧ kk ≤ 8 ∧ j + kk ≤ n ∧ (j : Int) + 1 + kk ≤ ed := by omega
          have q1 : ((kk : Int) == 0) = false := by simp; omega
          rw [show ((j : Int) + 1 - ((u : Int) + 1)).toNat = j - u by omega] at o7
          have D6 : Hid (RS layB w6 A7 c7 (List.take kk (List.drop (j - u) (List.drop u xs)))) := Lib.hid o7.rs.1
          have DF6 : Hid (∀ b o, A7 = some ⟨b, o, none⟩ → ¬ F6 b) := Lib.hid (fun b o e => by
            have hl : kk = (List.take kk (List.drop (j - u) (List.drop u xs))).length := o7.rs.2
            obtain ⟨g, hg, _, _⟩ := o7.head (by omega)
            rw [hg] at e
            injection e with e
            injection e with e _ _
            subst e hg
            exact hd7 _ rfl)
          have eg : IntKind.i64.wrap ((j : Int) + 1) = (j : Int) + 1 := IntWalk.i64_in _ (by omega)
          have g1 : ((j : Int) + 1 != (j : Int) + 1) = false := by simp
          clear hdsn hkk o7 hd7 hk0
          by_cases hkf : (k : Int) = f0
          · have g2 : ((k : Int) == (f0 : Int)) = true := by simpa using hkf
            clear hkf
            go_upto_region 24 with fail
            clear g2
            obtain ⟨d, hd⟩ : ∃ z, (j : Int) + 1 = z := ⟨_, rfl⟩
            rw [hd]
            rw [hd] at J6 hkb eg g1
            have HD := Lib.hid hd
            have hdb : 1 ≤ d ∧ d ≤ 100 := by omega
            clear hd
            go_wp2_with fail
            refine (sn_lost d (kk : Int) (by omega) (by omega) (by omega) J6.out.ok w6 J6.out.st).mono ?_
            rintro r w7 ⟨F7, L7, rfl, hL7, x7, k7, hF7⟩
            have hL : ∀ m, L7 m = (decide (d ≤ m) && decide (m < d + kk)) := fun m => by
              rw [hL7]
              unfold lostB
              have h4 := HD.out
              dsimp only
              rw [Bool.false_or, Bool.eq_iff_iff]
              simp
              omega
            have hcn : cntZ L7 (d + (kk : Int)).toNat - cntZ (fun _ => false) (d + (kk : Int)).toNat = kk := by
              rw [cntZ_run (by omega) hL _ (by omega), cntZ_none (fun _ => rfl)]
              omega
            dsimp only
            rw [hcn]
            have J7 := Lib.hid (J6.out.moved k7 x7 (J6.out.ok.lost_ hL7) hF7)
            have JO7 : Hid (Own layB 5 w7 w.heap.size (.slice A2 j c2) (xs.take j)) := Lib.hid (JO6.out.kept k7 (fun y hy hf => JFAR6.out y hy hf))
            have JFAR7 : Hid (∀ y, (Value.slice A2 j c2).ownBlock = some y → ¬ F7 y) := Lib.hid (fun y hy hf => (hF7 y hf).elim (JFAR6.out y hy) (fun h => by have := (JO6.out.lt y hy).2; omega))
            have HLT : Hid (∀ b o, A7 = some ⟨b, o, none⟩ → b < w6.heap.size) := Lib.hid (fun b o e => by
              obtain ⟨b', o', e', h, _⟩ := D6.out.2.2.2 (by rw [List.length_take, List.length_drop, List.length_drop, HXN.out]; omega)
              rw [e] at e'; injection e' with e'; injection e' with e' _ _; omega)
            have D7 : Hid (RS layB w7 A7 c7 (List.take kk (List.drop (j - u) (List.drop u xs)))) := Lib.hid (D6.out.kept k7 (fun b o e => DF6.out b o e))
            have DF7 : Hid (∀ b o, A7 = some ⟨b, o, none⟩ → ¬ F7 b) := Lib.hid (fun b o e hf => (hF7 b hf).elim (DF6.out b o e) (fun h => by have := HLT.out b o e; omega))
            have HL := Lib.hid hL
            have SZ67 : Hid (w6.heap.size ≤ w7.heap.size) := Lib.hid k7.size
            have g3 : ((kk : Int) != (kk : Int)) = false := by simp
            clear x7 k7 hF7 hL hL7 hcn J6 JO6 JFAR6 D6 DF6
            go_wp2_with fail
            refine (sn_take 8 (by omega) J7.out.ok w7 J7.out.st).mono ?_
            rintro r w8 ⟨dsn, kn, A8, c8, F9, nx9, L9, rfl, o8, x8, k8, hF8, hp, hd8⟩
            obtain ⟨ok8, _, _, _, _⟩ := J7.out.ok.took hp
            obtain ⟨h1, h2, h3, h4⟩ := take_again hkb.1 hkb.2.1 HL.out hp
            dsimp only at h3
            subst h1 h2 h3
            have hL9' : L9 = fun _ => false := funext h4
            subst hL9'
            have J8 := Lib.hid (J7.out.moved k8 x8 ok8 hF8)
            have JO8 : Hid (Own layB 5 w8 w.heap.size (.slice A2 j c2) (xs.take j)) := Lib.hid (JO7.out.kept k8 (fun y hy hf => JFAR7.out y hy hf))
            have JFAR : Hid (∀ y, (Value.slice A2 j c2).ownBlock = some y → ¬ F9 y) := Lib.hid (fun y hy hf => (hF8 y hf).elim (JFAR7.out y hy) (fun h => by have := (JO7.out.lt y hy).2; omega))
            have D8 : Hid (RS layB w8 A7 c7 (List.take kn (List.drop (j - u) (List.drop u xs)))) := Lib.hid (D7.out.kept k8 (fun b o e => DF7.out b o e))
            have hbuf : (List.drop (dsn - ((u : Int) + 1)).toNat (List.drop u xs)) = List.drop (j - u) (List.drop u xs) := by
              have h4 := HD.out
              rw [show (dsn - ((u : Int) + 1)).toNat = j - u by omega]
            dsimp only at o8
            rw [hbuf] at o8
            have HSA := Lib.hid (same_any A8 A7 c8 c7 kn kn _ _ (by rw [List.length_take, List.length_drop, List.length_drop, HXN.out]; omega) (by rw [List.length_take, List.length_drop, List.length_drop, HXN.out]; omega) w8 o8.rs.1 D8.out)
            rw [decide_eq_true rfl] at HSA
            have HSZ8 : Hid (w.heap.size ≤ w8.heap.size) := Lib.hid J8.out.fine.size
            clear o8 x8 k8 hF8 hp hd8 ok8 h4 hbuf J7 JO7 JFAR7 D7 DF7 g3
            go_wp2_with fail
            refine HSA.out.mono ?_
            rintro r w9 ⟨rfl, f9⟩
            obtain ⟨w8', hw8'⟩ : ∃ z, z = w9 := ⟨_, rfl⟩
            have JST' := Lib.hid (J8.out.wfine f9)
            have JOWN' := Lib.hid (JO8.out.fine f9)
            have DRS' := Lib.hid (D8.out.fine f9)
            have HSZ9 : Hid (w.heap.size ≤ w9.heap.size) := Lib.hid (Nat.le_trans HSZ8.out f9.size)
            clear f9 J8 JO8 D8 HSZ8 HSA HSZ hw8'
            have JST : Hid (SnJ w w9 s F9 ⟨(u : Int) + 1, (j : Int) + 1 + kn, ed, xs.drop u, false, false⟩ (fun _ => false) 1000) := Lib.hid (by have h := JST'.out; rw [← HD.out] at h; exact h)
            have JOWN := JOWN'; have DRS := DRS'; have HSZ := HSZ9
            clear JST' JOWN' DRS' HSZ9 w8'
            obtain ⟨kk, hkk'⟩ : ∃ z, z = kn := ⟨_, rfl⟩
            subst hkk'
            obtain ⟨w8, hw8⟩ : ∃ z, z = w9 := ⟨_, rfl⟩
            subst hw8
            have hjk : j + kk ≤ n := hkb.2.2.1
            clear eg g1
            obtain ⟨l1, hl1⟩ : ∃ l, xs.take j = l := ⟨_, rfl⟩
            obtain ⟨l2, hl2⟩ : ∃ l, List.take kk (List.drop (j - u) (List.drop u xs)) = l := ⟨_, rfl⟩
            have HEQ : Hid (l1 ++ l2 = xs.take (j + kk)) := Lib.hid (by
              rw [← hl1, ← hl2, List.drop_drop, show u + (j - u) = j by omega, List.take_add])
            have HTJ : Hid (l1.length = j) := Lib.hid (by rw [← hl1, List.length_take, HXN.out]; omega)
            have HTK : Hid (l2.length = kk) := Lib.hid (by rw [← hl2, List.length_take, List.length_drop, List.length_drop, HXN.out]; omega)
            rw [hl1] at JOWN
            rw [hl2] at DRS
            clear hl1 hl2
            go_upto_region 12 with (at_builtin; refine wpList_appE rfl sliceB (.tmp 114) (.tmp 115) rfl w.heap.size (.slice A2 j c2) l1 rfl JOWN.out A7 kk c7 l2 rfl HTK.out.symm DRS.out (by rw [HTJ.out, HTK.out]; omega) (by rw [HTJ.out, HTK.out]; unfold maxLen; omega) HSZ.out ?_; intro A3 c3 w9 ho9 kk9 gg9)
            rw [HTJ.out, HTK.out]
            have K9 : Kept (fun y => (Value.slice A2 j c2).ownBlock = some y) w8 w9 := Kept.grown (Kept.refl _ _) gg9.out.1 (fun k hk _ => hk)
            have ho10 : Own layB 5 w9 w.heap.size (.slice A3 (j + kk) c3) (xs.take (j + kk)) := by have := ho9.out; rw [HEQ.out, HTJ.out, HTK.out] at this; exact this
            have J10 : Hid (AlJ w w9 s F9 xs u (j + kk) ed A3 c3) := Lib.hid ⟨by
                have h1 := JST.out
                refine ⟨?_, ?_, h1.out, h1.fine.kept K9 (fun y hy e => by have := (JOWN.out.lt y e).1; omega)⟩
                · have := h1.st.kept K9 (fun y hf e => JFAR.out y e hf)
                  rw [show ((j + kk : Nat) : Int) + 1 = (j : Int) + 1 + kk by omega]
                  exact this
                · have := h1.ok
                  rw [show ((j + kk : Nat) : Int) + 1 = (j : Int) + 1 + kk by omega]
                  exact this, ho10, fun y hy hf => by
                rcases gg9.out.2 with h | h
                · rw [HTJ.out, HTK.out] at h
                  exact JFAR.out y (h ▸ hy) hf
                · rw [HTJ.out, HTK.out] at h
                  have h2 := h.symm.trans hy
                  injection h2 with h2
                  have := JST.out.st.lt y hf
                  omega⟩
            clear ho9 kk9 gg9 K9 ho10
            go_wp2_with fail
            exact ⟨⟨k + 1, j + kk, A3, c3, by simp, by simp, by omega, Lib.hid ⟨F9, u, ed, J10.out, by omega, by omega⟩⟩, by simp only [intOf]; omega⟩
          · have g2 : ((k : Int) == (f0 : Int)) = false := by simpa using hkf
            obtain ⟨w8, hw8⟩ : ∃ z, z = w6 := ⟨_, rfl⟩
            obtain ⟨F9, hF9⟩ : ∃ z, z = F6 := ⟨_, rfl⟩
            have JST := J6; have JOWN := JO6; have DRS := D6; have JFAR := JFAR6
            rw [← hF9] at JST JFAR
            have hjk : j + kk ≤ n := hkb.2.2.1
            clear hF9 J6 JO6 D6 JFAR6 DF6
            subst hw8
            obtain ⟨l1, hl1⟩ : ∃ l, xs.take j = l := ⟨_, rfl⟩
            obtain ⟨l2, hl2⟩ : ∃ l, List.take kk (List.drop (j - u) (List.drop u xs)) = l := ⟨_, rfl⟩
            have HEQ : Hid (l1 ++ l2 = xs.take (j + kk)) := Lib.hid (by
              rw [← hl1, ← hl2, List.drop_drop, show u + (j - u) = j by omega, List.take_add])
            have HTJ : Hid (l1.length = j) := Lib.hid (by rw [← hl1, List.length_take, HXN.out]; omega)
            have HTK : Hid (l2.length = kk) := Lib.hid (by rw [← hl2, List.length_take, List.length_drop, List.length_drop, HXN.out]; omega)
            rw [hl1] at JOWN
            rw [hl2] at DRS
            clear hl1 hl2
            go_upto_region 12 with (at_builtin; refine wpList_appE rfl sliceB (.tmp 114) (.tmp 115) rfl w.heap.size (.slice A2 j c2) l1 rfl JOWN.out A7 kk c7 l2 rfl HTK.out.symm DRS.out (by rw [HTJ.out, HTK.out]; omega) (by rw [HTJ.out, HTK.out]; unfold maxLen; omega) HSZ.out ?_; intro A3 c3 w9 ho9 kk9 gg9)
            rw [HTJ.out, HTK.out]
            have K9 : Kept (fun y => (Value.slice A2 j c2).ownBlock = some y) w8 w9 := Kept.grown (Kept.refl _ _) gg9.out.1 (fun k hk _ => hk)
            have ho10 : Own layB 5 w9 w.heap.size (.slice A3 (j + kk) c3) (xs.take (j + kk)) := by have := ho9.out; rw [HEQ.out, HTJ.out, HTK.out] at this; exact this
            have J10 : Hid (AlJ w w9 s F9 xs u (j + kk) ed A3 c3) := Lib.hid ⟨by
                have h1 := JST.out
                refine ⟨?_, ?_, h1.out, h1.fine.kept K9 (fun y hy e => by have := (JOWN.out.lt y e).1; omega)⟩
                · have := h1.st.kept K9 (fun y hf e => JFAR.out y e hf)
                  rw [show ((j + kk : Nat) : Int) + 1 = (j : Int) + 1 + kk by omega]
                  exact this
                · have := h1.ok
                  rw [show ((j + kk : Nat) : Int) + 1 = (j : Int) + 1 + kk by omega]
                  exact this, ho10, fun y hy hf => by
                rcases gg9.out.2 with h | h
                · rw [HTJ.out, HTK.out] at h
                  exact JFAR.out y (h ▸ hy) hf
                · rw [HTJ.out, HTK.out] at h
                  have h2 := h.symm.trans hy
                  injection h2 with h2
                  have := JST.out.st.lt y hf
                  omega⟩
            clear ho9 kk9 gg9 K9 ho10
            go_wp2_with fail
            exact ⟨⟨k + 1, j + kk, A3, c3, by simp, by simp, by omega, Lib.hid ⟨F9, u, ed, J10.out, by omega, by omega⟩⟩, by simp only [intOf]; omega⟩
      · obtain ⟨mv, hmv⟩ : ∃ z : Int, z = 8 := ⟨_, rfl⟩
        go_upto_region 16 with fail
        rw [← hmv]
        clear hmv
        have TKE : ∀ u' : Int, (List.drop ((j : Int) + 1 - ((u : Int) + 1)).toNat (List.drop u xs)) = List.drop (j - u) (List.drop u xs) := fun _ => by rw [show ((j : Int) + 1 - ((u : Int) + 1)).toNat = j - u by omega]
        go_wp2_with fail
        refine (sn_take mv (by omega) J5.out.ok wr J5.out.st).mono ?_
        rintro r w6 ⟨dsn, kk, A7, c7, F6, nx6, L6, rfl, o7, x7, k7, hF7, hp, hd7⟩
        obtain ⟨ok7, hk8, hpos, hnn, hlen⟩ := J5.out.ok.took hp
        have hne := J5.out.ok.ne
        dsimp only at hne
        have hq : (∀ m, L6 m = false) ∧ nx6 = (j : Int) + 1 + kk ∧ (kk : Int) = max 0 (min (min ((u : Int) + 1 + (xs.drop u).length - ((j : Int) + 1)) (ed - ((j : Int) + 1))) (tkM mv)) ∧ dsn = if kk = 0 then 0 else (j : Int) + 1 := by
          rcases hp with ⟨⟨q, hq⟩, _⟩ | ⟨_, q2, q3, q4, q5⟩
          · cases hq
          · exact ⟨q2, q4, q3, q5⟩
        obtain ⟨hL6, hnx6, hkk, hdsn⟩ := hq
        have hL6' : L6 = fun _ => false := funext hL6
        subst hL6' hnx6
        have hdl : ((xs.drop u).length : Int) = (n : Int) - u := by rw [List.length_drop, HXN.out]; omega
        rw [hdl] at hkk
        unfold tkM at hkk
        have J6 := Lib.hid (J5.out.moved k7 x7 ok7 hF7)
        dsimp only at J6 o7
        have JO6 : Hid (Own layB 5 w6 w.heap.size (.slice A2 j c2) (xs.take j)) := Lib.hid (JOWN5.out.kept k7 (fun y hy hf => JFAR5.out y hy hf))
        have JFAR6 : Hid (∀ y, (Value.slice A2 j c2).ownBlock = some y → ¬ F6 y) := Lib.hid (fun y hy hf => (hF7 y hf).elim (JFAR5.out y hy) (fun h => by have := (JOWN5.out.lt y hy).2; omega))
        have HSZ : Hid (w.heap.size ≤ w6.heap.size) := Lib.hid J6.out.fine.size
        clear x7 k7 hF7 hp ok7 hlen hpos hL6 hnn hdl J5 JOWN5 JFAR5 TKE
        by_cases hk0 : kk = 0
        · subst hk0
          have hed : ed = (j : Int) + 1 := by omega
          have hu : ed = 33 := by rcases hst with ⟨h1, _⟩ | ⟨h1, _⟩ <;> omega
          subst hed
          clear hkk o7 hdsn hd7
          go_wp2_with fail
          refine (sn_next rfl w6 J6.out.st).mono ?_
          rintro r w7 ⟨rfl, f7⟩
          rw [show ((j : Int) + 1 + ((0 : Nat) : Int)) = (j : Int) + 1 by omega] at J6 ⊢
          have J7 := Lib.hid (J6.out.wfine f7)
          have JO7 := Lib.hid (JO6.out.fine f7)
          clear f7
          obtain ⟨j1, hj1⟩ : ∃ z, (j : Int) + 1 = z := ⟨_, rfl⟩
          have HJ1 := Lib.hid hj1
          rw [hj1]
          clear hj1
          go_wp2_with fail
          refine (sn_ack j1 32 (by omega) J7.out.ok w7 J7.out.st).mono ?_
          rintro r w8 ⟨F8, L8, x8, k8, hF8, hp⟩
          have hdl : ((xs.drop u).length : Int) = (n : Int) - u := by rw [List.length_drop, HXN.out]; omega
          have hok : ackOk ⟨(u : Int) + 1, (j : Int) + 1, (j : Int) + 1, xs.drop u, false, false⟩ j1 32 := by
            have h1 := HJ1.out
            refine ⟨by dsimp only; omega, ?_, by omega, by omega⟩
            dsimp only
            unfold mostV
            rw [if_neg (by simp)]
            omega
          have hok8 := J7.out.ok.acked_ (hp.imp (fun h => ⟨h.1, h.2.2⟩) (fun h => ⟨h.1, h.2.2⟩))
          have hT8 : Sn.acked ⟨(u : Int) + 1, (j : Int) + 1, (j : Int) + 1, xs.drop u, false, false⟩ j1 32 = ⟨(j : Int) + 1, (j : Int) + 1, (j : Int) + 33, xs.drop j, false, false⟩ := by
            have h1 := HJ1.out
            simp only [Sn.acked]
            rw [show min j1 ((u : Int) + 1 + ((xs.drop u).length : Int)) = (j : Int) + 1 by omega, show max ((j : Int) + 1) (j1 + 32) = (j : Int) + 33 by omega, show ((j : Int) + 1 - ((u : Int) + 1)).toNat = j - u by omega, List.drop_drop, show u + (j - u) = j by omega, decide_eq_false (by omega)]
            rfl
          have hr : ∃ z, r = .returned (.tuple #[.int .i64 z, .bool true]) ∧ ∀ m, L8 m = false := hp.elim (fun h => ⟨_, h.2.1, fun m => by rw [h.2.2]; rfl⟩) (fun h => absurd hok h.1)
          obtain ⟨z, rfl, hL8⟩ := hr
          rw [if_pos hok, hT8] at x8 hok8
          have hL8' : L8 = fun _ => false := funext hL8
          subst hL8'
          have HJ32 : Hid (j = 32) := Lib.hid (by omega)
          have J8 : Hid (AlJ w w8 s F8 xs j j ((j : Int) + 33) A2 c2) := Lib.hid ⟨J7.out.moved k8 x8 hok8 hF8, JO7.out.kept k8 (fun y hy hf => JFAR6.out y hy hf), fun y hy hf => (hF8 y hf).elim (JFAR6.out y hy) (fun h => by have := (JO7.out.lt y hy).2; omega)⟩
          clear x8 k8 hF8 hp hok8 hok hL8 hT8 hdl
          go_wp2_with fail
          exact ⟨⟨k + 1, j, A2, c2, by simp, by simp, by omega, Lib.hid ⟨F8, j, _, J8.out, by omega, by have := HJ32.out; omega⟩⟩, by simp only [intOf]; omega⟩
        · have hds : dsn = (j : Int) + 1 := by rw [if_neg hk0] at hdsn; exact hdsn
          subst hds
          have hkb : 0 < kk ∧ kk ≤ 8 ∧ j + kk ≤ n ∧ (j : Int) + 1 + kk ≤ ed := by omega
          have q1 : ((kk : Int) == 0) = false := by simp; omega
          rw [show ((j : Int) + 1 - ((u : Int) + 1)).toNat = j - u by omega] at o7
          have D6 : Hid (RS layB w6 A7 c7 (List.take kk (List.drop (j - u) (List.drop u xs)))) := Lib.hid o7.rs.1
          have DF6 : Hid (∀ b o, A7 = some ⟨b, o, none⟩ → ¬ F6 b) := Lib.hid (fun b o e => by
            have hl : kk = (List.take kk (List.drop (j - u) (List.drop u xs))).length := o7.rs.2
            obtain ⟨g, hg, _, _⟩ := o7.head (by omega)
            rw [hg] at e
            injection e with e
            injection e with e _ _
            subst e hg
            exact hd7 _ rfl)
          have eg : IntKind.i64.wrap ((j : Int) + 1) = (j : Int) + 1 := IntWalk.i64_in _ (by omega)
          have g1 : ((j : Int) + 1 != (j : Int) + 1) = false := by simp
          clear hdsn hkk o7 hd7 hk0
          by_cases hkf : (k : Int) = f0
          · have g2 : ((k : Int) == (f0 : Int)) = true := by simpa using hkf
            clear hkf
            go_upto_region 24 with fail
            clear g2
            obtain ⟨d, hd⟩ : ∃ z, (j : Int) + 1 = z := ⟨_, rfl⟩
            rw [hd]
            rw [hd] at J6 hkb eg g1
            have HD := Lib.hid hd
            have hdb : 1 ≤ d ∧ d ≤ 100 := by omega
            clear hd
            go_wp2_with fail
            refine (sn_lost d (kk : Int) (by omega) (by omega) (by omega) J6.out.ok w6 J6.out.st).mono ?_
            rintro r w7 ⟨F7, L7, rfl, hL7, x7, k7, hF7⟩
            have hL : ∀ m, L7 m = (decide (d ≤ m) && decide (m < d + kk)) := fun m => by
              rw [hL7]
              unfold lostB
              have h4 := HD.out
              dsimp only
              rw [Bool.false_or, Bool.eq_iff_iff]
              simp
              omega
            have hcn : cntZ L7 (d + (kk : Int)).toNat - cntZ (fun _ => false) (d + (kk : Int)).toNat = kk := by
              rw [cntZ_run (by omega) hL _ (by omega), cntZ_none (fun _ => rfl)]
              omega
            dsimp only
            rw [hcn]
            have J7 := Lib.hid (J6.out.moved k7 x7 (J6.out.ok.lost_ hL7) hF7)
            have JO7 : Hid (Own layB 5 w7 w.heap.size (.slice A2 j c2) (xs.take j)) := Lib.hid (JO6.out.kept k7 (fun y hy hf => JFAR6.out y hy hf))
            have JFAR7 : Hid (∀ y, (Value.slice A2 j c2).ownBlock = some y → ¬ F7 y) := Lib.hid (fun y hy hf => (hF7 y hf).elim (JFAR6.out y hy) (fun h => by have := (JO6.out.lt y hy).2; omega))
            have HLT : Hid (∀ b o, A7 = some ⟨b, o, none⟩ → b < w6.heap.size) := Lib.hid (fun b o e => by
              obtain ⟨b', o', e', h, _⟩ := D6.out.2.2.2 (by rw [List.length_take, List.length_drop, List.length_drop, HXN.out]; omega)
              rw [e] at e'; injection e' with e'; injection e' with e' _ _; omega)
            have D7 : Hid (RS layB w7 A7 c7 (List.take kk (List.drop (j - u) (List.drop u xs)))) := Lib.hid (D6.out.kept k7 (fun b o e => DF6.out b o e))
            have DF7 : Hid (∀ b o, A7 = some ⟨b, o, none⟩ → ¬ F7 b) := Lib.hid (fun b o e hf => (hF7 b hf).elim (DF6.out b o e) (fun h => by have := HLT.out b o e; omega))
            have HL := Lib.hid hL
            have SZ67 : Hid (w6.heap.size ≤ w7.heap.size) := Lib.hid k7.size
            have g3 : ((kk : Int) != (kk : Int)) = false := by simp
            clear x7 k7 hF7 hL hL7 hcn J6 JO6 JFAR6 D6 DF6
            go_wp2_with fail
            refine (sn_take 8 (by omega) J7.out.ok w7 J7.out.st).mono ?_
            rintro r w8 ⟨dsn, kn, A8, c8, F9, nx9, L9, rfl, o8, x8, k8, hF8, hp, hd8⟩
            obtain ⟨ok8, _, _, _, _⟩ := J7.out.ok.took hp
            obtain ⟨h1, h2, h3, h4⟩ := take_again hkb.1 hkb.2.1 HL.out hp
            dsimp only at h3
            subst h1 h2 h3
            have hL9' : L9 = fun _ => false := funext h4
            subst hL9'
            have J8 := Lib.hid (J7.out.moved k8 x8 ok8 hF8)
            have JO8 : Hid (Own layB 5 w8 w.heap.size (.slice A2 j c2) (xs.take j)) := Lib.hid (JO7.out.kept k8 (fun y hy hf => JFAR7.out y hy hf))
            have JFAR : Hid (∀ y, (Value.slice A2 j c2).ownBlock = some y → ¬ F9 y) := Lib.hid (fun y hy hf => (hF8 y hf).elim (JFAR7.out y hy) (fun h => by have := (JO7.out.lt y hy).2; omega))
            have D8 : Hid (RS layB w8 A7 c7 (List.take kn (List.drop (j - u) (List.drop u xs)))) := Lib.hid (D7.out.kept k8 (fun b o e => DF7.out b o e))
            have hbuf : (List.drop (dsn - ((u : Int) + 1)).toNat (List.drop u xs)) = List.drop (j - u) (List.drop u xs) := by
              have h4 := HD.out
              rw [show (dsn - ((u : Int) + 1)).toNat = j - u by omega]
            dsimp only at o8
            rw [hbuf] at o8
            have HSA := Lib.hid (same_any A8 A7 c8 c7 kn kn _ _ (by rw [List.length_take, List.length_drop, List.length_drop, HXN.out]; omega) (by rw [List.length_take, List.length_drop, List.length_drop, HXN.out]; omega) w8 o8.rs.1 D8.out)
            rw [decide_eq_true rfl] at HSA
            have HSZ8 : Hid (w.heap.size ≤ w8.heap.size) := Lib.hid J8.out.fine.size
            clear o8 x8 k8 hF8 hp hd8 ok8 h4 hbuf J7 JO7 JFAR7 D7 DF7 g3
            go_wp2_with fail
            refine HSA.out.mono ?_
            rintro r w9 ⟨rfl, f9⟩
            obtain ⟨w8', hw8'⟩ : ∃ z, z = w9 := ⟨_, rfl⟩
            have JST' := Lib.hid (J8.out.wfine f9)
            have JOWN' := Lib.hid (JO8.out.fine f9)
            have DRS' := Lib.hid (D8.out.fine f9)
            have HSZ9 : Hid (w.heap.size ≤ w9.heap.size) := Lib.hid (Nat.le_trans HSZ8.out f9.size)
            clear f9 J8 JO8 D8 HSZ8 HSA HSZ hw8'
            have JST : Hid (SnJ w w9 s F9 ⟨(u : Int) + 1, (j : Int) + 1 + kn, ed, xs.drop u, false, false⟩ (fun _ => false) 1000) := Lib.hid (by have h := JST'.out; rw [← HD.out] at h; exact h)
            have JOWN := JOWN'; have DRS := DRS'; have HSZ := HSZ9
            clear JST' JOWN' DRS' HSZ9 w8'
            obtain ⟨kk, hkk'⟩ : ∃ z, z = kn := ⟨_, rfl⟩
            subst hkk'
            obtain ⟨w8, hw8⟩ : ∃ z, z = w9 := ⟨_, rfl⟩
            subst hw8
            have hjk : j + kk ≤ n := hkb.2.2.1
            clear eg g1
            obtain ⟨l1, hl1⟩ : ∃ l, xs.take j = l := ⟨_, rfl⟩
            obtain ⟨l2, hl2⟩ : ∃ l, List.take kk (List.drop (j - u) (List.drop u xs)) = l := ⟨_, rfl⟩
            have HEQ : Hid (l1 ++ l2 = xs.take (j + kk)) := Lib.hid (by
              rw [← hl1, ← hl2, List.drop_drop, show u + (j - u) = j by omega, List.take_add])
            have HTJ : Hid (l1.length = j) := Lib.hid (by rw [← hl1, List.length_take, HXN.out]; omega)
            have HTK : Hid (l2.length = kk) := Lib.hid (by rw [← hl2, List.length_take, List.length_drop, List.length_drop, HXN.out]; omega)
            rw [hl1] at JOWN
            rw [hl2] at DRS
            clear hl1 hl2
            go_upto_region 12 with (at_builtin; refine wpList_appE rfl sliceB (.tmp 114) (.tmp 115) rfl w.heap.size (.slice A2 j c2) l1 rfl JOWN.out A7 kk c7 l2 rfl HTK.out.symm DRS.out (by rw [HTJ.out, HTK.out]; omega) (by rw [HTJ.out, HTK.out]; unfold maxLen; omega) HSZ.out ?_; intro A3 c3 w9 ho9 kk9 gg9)
            rw [HTJ.out, HTK.out]
            have K9 : Kept (fun y => (Value.slice A2 j c2).ownBlock = some y) w8 w9 := Kept.grown (Kept.refl _ _) gg9.out.1 (fun k hk _ => hk)
            have ho10 : Own layB 5 w9 w.heap.size (.slice A3 (j + kk) c3) (xs.take (j + kk)) := by have := ho9.out; rw [HEQ.out, HTJ.out, HTK.out] at this; exact this
            have J10 : Hid (AlJ w w9 s F9 xs u (j + kk) ed A3 c3) := Lib.hid ⟨by
                have h1 := JST.out
                refine ⟨?_, ?_, h1.out, h1.fine.kept K9 (fun y hy e => by have := (JOWN.out.lt y e).1; omega)⟩
                · have := h1.st.kept K9 (fun y hf e => JFAR.out y e hf)
                  rw [show ((j + kk : Nat) : Int) + 1 = (j : Int) + 1 + kk by omega]
                  exact this
                · have := h1.ok
                  rw [show ((j + kk : Nat) : Int) + 1 = (j : Int) + 1 + kk by omega]
                  exact this, ho10, fun y hy hf => by
                rcases gg9.out.2 with h | h
                · rw [HTJ.out, HTK.out] at h
                  exact JFAR.out y (h ▸ hy) hf
                · rw [HTJ.out, HTK.out] at h
                  have h2 := h.symm.trans hy
                  injection h2 with h2
                  have := JST.out.st.lt y hf
                  omega⟩
            clear ho9 kk9 gg9 K9 ho10
            go_wp2_with fail
            exact ⟨⟨k + 1, j + kk, A3, c3, by simp, by simp, by omega, Lib.hid ⟨F9, u, ed, J10.out, by omega, by omega⟩⟩, by simp only [intOf]; omega⟩
          · have g2 : ((k : Int) == (f0 : Int)) = false := by simpa using hkf
            obtain ⟨w8, hw8⟩ : ∃ z, z = w6 := ⟨_, rfl⟩
            obtain ⟨F9, hF9⟩ : ∃ z, z = F6 := ⟨_, rfl⟩
            have JST := J6; have JOWN := JO6; have DRS := D6; have JFAR := JFAR6
            rw [← hF9] at JST JFAR
            have hjk : j + kk ≤ n := hkb.2.2.1
            clear hF9 J6 JO6 D6 JFAR6 DF6
            subst hw8
            obtain ⟨l1, hl1⟩ : ∃ l, xs.take j = l := ⟨_, rfl⟩
            obtain ⟨l2, hl2⟩ : ∃ l, List.take kk (List.drop (j - u) (List.drop u xs)) = l := ⟨_, rfl⟩
            have HEQ : Hid (l1 ++ l2 = xs.take (j + kk)) := Lib.hid (by
              rw [← hl1, ← hl2, List.drop_drop, show u + (j - u) = j by omega, List.take_add])
            have HTJ : Hid (l1.length = j) := Lib.hid (by rw [← hl1, List.length_take, HXN.out]; omega)
            have HTK : Hid (l2.length = kk) := Lib.hid (by rw [← hl2, List.length_take, List.length_drop, List.length_drop, HXN.out]; omega)
            rw [hl1] at JOWN
            rw [hl2] at DRS
            clear hl1 hl2
            go_upto_region 12 with (at_builtin; refine wpList_appE rfl sliceB (.tmp 114) (.tmp 115) rfl w.heap.size (.slice A2 j c2) l1 rfl JOWN.out A7 kk c7 l2 rfl HTK.out.symm DRS.out (by rw [HTJ.out, HTK.out]; omega) (by rw [HTJ.out, HTK.out]; unfold maxLen; omega) HSZ.out ?_; intro A3 c3 w9 ho9 kk9 gg9)
            rw [HTJ.out, HTK.out]
            have K9 : Kept (fun y => (Value.slice A2 j c2).ownBlock = some y) w8 w9 := Kept.grown (Kept.refl _ _) gg9.out.1 (fun k hk _ => hk)
            have ho10 : Own layB 5 w9 w.heap.size (.slice A3 (j + kk) c3) (xs.take (j + kk)) := by have := ho9.out; rw [HEQ.out, HTJ.out, HTK.out] at this; exact this
            have J10 : Hid (AlJ w w9 s F9 xs u (j + kk) ed A3 c3) := Lib.hid ⟨by
                have h1 := JST.out
                refine ⟨?_, ?_, h1.out, h1.fine.kept K9 (fun y hy e => by have := (JOWN.out.lt y e).1; omega)⟩
                · have := h1.st.kept K9 (fun y hf e => JFAR.out y e hf)
                  rw [show ((j + kk : Nat) : Int) + 1 = (j : Int) + 1 + kk by omega]
                  exact this
                · have := h1.ok
                  rw [show ((j + kk : Nat) : Int) + 1 = (j : Int) + 1 + kk by omega]
                  exact this, ho10, fun y hy hf => by
                rcases gg9.out.2 with h | h
                · rw [HTJ.out, HTK.out] at h
                  exact JFAR.out y (h ▸ hy) hf
                · rw [HTJ.out, HTK.out] at h
                  have h2 := h.symm.trans hy
                  injection h2 with h2
                  have := JST.out.st.lt y hf
                  omega⟩
            clear ho9 kk9 gg9 K9 ho10
            go_wp2_with fail
            exact ⟨⟨k + 1, j + kk, A3, c3, by simp, by simp, by omega, Lib.hid ⟨F9, u, ed, J10.out, by omega, by omega⟩⟩, by simp only [intOf]; omega⟩
    · have hje : j = n := by omega
      have q1 : decide ((j : Int) < (n : Int)) = false := by simp; omega
      have hxt : xs.take j = xs := List.take_of_length_le (by rw [HXN.out]; omega)
      have HSA := Lib.hid (same_any A2 A c2 cap j n (xs.take j) xs (by rw [hxt, HXN.out, hje]) HXN.out wr JOWN5.out.rs.1 (HXR.out.fine J5.out.fine))
      rw [decide_eq_true hxt] at HSA
      clear hje hxt
      go_wp2_with fail
      refine HSA.out.mono ?_
      rintro r w9 ⟨rfl, f9⟩
      have F9 := Lib.hid (J5.out.fine.trans f9)
      clear f9
      go_wp2_with fail
      go_ret
      exact ⟨rfl, F9.out⟩
set_option maxHeartbeats 2000000 in
set_option maxRecDepth 20000 in
theorem lawDsendAll (w : World) (A : Option Addr) (len cap : Nat) (zs : List Int) (hz : IntsIn .u8 w A len cap zs) (B : Option Addr) (lb cb : Nat) (ms : List Int) (hms : IntsIn .u8 w B lb cb ms) (m : Int) (wm : (Lit.int .u8 m).wf = true) :
    Calls Try.prog 13 #[.slice A len cap, .slice B lb cb, .int .u8 m] w fun e w' => e = .returned (.bool true) ∧ Below w.heap.size w w' := by
  show Calls _ _ _ _ fun e w' => e = .returned (.bool true) ∧ Fine w w'
  obtain ⟨h1, h2, h3⟩ := ints_rs hz
  obtain ⟨k1, k2, k3⟩ := ints_rs hms
  by_cases hl : len ≤ 64 ∧ lb ≤ 20
  · exact dsendAll_main w A len cap zs hl.1 h1 h2 B lb cb ms hl.2 k1 k2 k3 m (bounds_u8 wm)
  · clear h1 h2 h3 k1 k2 k3 hz hms wm
    have key : ∀ K : Prop, ((len : Int) > 64 → decide (64 < (len : Int)) = true → K) → (decide (64 < (len : Int)) = false → decide (20 < (lb : Int)) = true → K) → K := fun K a b => by
      by_cases h : 64 < len
      · exact a (by omega) (by simp; omega)
      · exact b (by simp; omega) (by simp; omega)
    refine key _ (fun g1 g2 => ?_) (fun g1 g2 => ?_)
    all_goals
      clear key hl
      go_enter Try.func13, Try.ntmps13
      go_wp2_with fail
      refine (dsendWakes_any w).mono ?_
      rintro r w1 ⟨rfl, f1⟩
      have F1 := Lib.hid f1
      clear f1
      go_wp2_with fail
      go_ret
      exact ⟨rfl, F1.out⟩
end Go.Proofs.Ytnigfdldfmiaiaa
