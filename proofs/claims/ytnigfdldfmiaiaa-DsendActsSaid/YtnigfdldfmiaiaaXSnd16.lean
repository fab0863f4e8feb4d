/- The law DsendWindow. -/
import Derived.Test.YtnigfdldfmiaiaaMc
namespace Go.Proofs.Ytnigfdldfmiaiaa
set_option linter.unusedVariables false
set_option linter.unusedSimpArgs false
open Go.ChangeShapes Go.WideShapes Go.ChangeAt Go.RowKit Go.Maps
set_option linter.unusedVariables false
set_option linter.unusedSimpArgs false
section
variable {F : Nat → Prop} {s : Nat} {T : Sn} {L : Int → Bool} {K : Int}
theorem sn_una {u : Int} (hu : T.una = u) (w : World) (h : SnI F w s T L) : Calls Try.prog 56 #[.pointer (some ⟨s, 0, none⟩)] w fun r w' => r = .returned (.int .i64 u) ∧ Fine w w' := by
  subst hu
  obtain ⟨A, c, gs, v, l, hX, hL⟩ := h
  exact suna_any w hX
theorem sn_next {u : Int} (hu : T.nx = u) (w : World) (h : SnI F w s T L) : Calls Try.prog 54 #[.pointer (some ⟨s, 0, none⟩)] w fun r w' => r = .returned (.int .i64 u) ∧ Fine w w' := by
  subst hu
  obtain ⟨A, c, gs, v, l, hX, hL⟩ := h
  exact sunext_any w hX
theorem sn_edge {u : Int} (hu : T.ed = u) (w : World) (h : SnI F w s T L) : Calls Try.prog 57 #[.pointer (some ⟨s, 0, none⟩)] w fun r w' => r = .returned (.int .i64 u) ∧ Fine w w' := by
  subst hu
  obtain ⟨A, c, gs, v, l, hX, hL⟩ := h
  exact suedge_any w hX
theorem sn_held {u : Nat} (hu : T.buf.length = u) (w : World) (h : SnI F w s T L) : Calls Try.prog 59 #[.pointer (some ⟨s, 0, none⟩)] w fun r w' => r = .returned (.int .i64 u) ∧ Fine w w' := by
  subst hu
  obtain ⟨A, c, gs, v, l, hX, hL⟩ := h
  exact suheld_any w hX
theorem sn_done {b : Bool} (hu : T.done = b) (w : World) (h : SnI F w s T L) : Calls Try.prog 62 #[.pointer (some ⟨s, 0, none⟩)] w fun r w' => r = .returned (.bool b) ∧ Fine w w' := by
  subst hu
  obtain ⟨A, c, gs, v, l, hX, hL⟩ := h
  exact sudone_any w hX
theorem sn_end (w : World) (h : SnI F w s T L) : Calls Try.prog 60 #[.pointer (some ⟨s, 0, none⟩)] w fun r w' => r = .returned (.int .i64 (if T.told = true then 8 else 0)) ∧ SnI F w' s { T with told := true } L ∧ Kept F w w' := by
  obtain ⟨A, c, gs, v, l, hX, hL⟩ := h
  refine (suend_any w hX).mono ?_
  rintro r w' ⟨h1, h2, h3⟩
  exact ⟨h1, ⟨A, c, gs, v, l, h2, hL⟩, h3⟩
theorem sn_new (w : World) : Calls Try.prog 50 #[] w fun r w' => ∃ s, r = .returned (.pointer (some ⟨s, 0, none⟩)) ∧ SnI (fun x => w.heap.size ≤ x ∧ x < w'.heap.size) w' s ⟨1, 1, 33, [], false, false⟩ (fun _ => false) ∧ Fine w w' := by
  refine (snew_any w).mono ?_
  rintro r w' ⟨s, gs, v, l, h1, h2, h3, h4⟩
  exact ⟨s, h1, ⟨none, 0, gs, v, l, h3, h2⟩, h4⟩
end
theorem Sn.ok0 : Sn.Ok ⟨1, 1, 33, [], false, false⟩ (fun _ => false) 1 := ⟨by simp, by simp, by simp, by simp, by simp, by simp, by simp, fun m h => by cases h⟩
/-- A sender that a law has made. -/
structure SnJ (w0 w : World) (s : Nat) (F : Nat → Prop) (T : Sn) (L : Int → Bool) (K : Int) : Prop where
  st : SnI F w s T L
  ok : T.Ok L K
  out : ∀ x, F x → w0.heap.size ≤ x
  fine : Fine w0 w
section
variable {w0 w w' : World} {s : Nat} {F F' : Nat → Prop} {T T' : Sn} {L L' : Int → Bool} {K K' : Int}
theorem SnJ.wfine (h : SnJ w0 w s F T L K) (f : Fine w w') : SnJ w0 w' s F T L K := ⟨h.st.fine f, h.ok, h.out, h.fine.trans f⟩
theorem SnJ.moved (h : SnJ w0 w s F T L K) (k : Kept F w w') (hs : SnI F' w' s T' L') (ho : T'.Ok L' K') (hF : ∀ y, F' y → F y ∨ w.heap.size ≤ y) : SnJ w0 w' s F' T' L' K' :=
  ⟨hs, ho, fun x hx => (hF x hx).elim (h.out x) (fun e => Nat.le_trans h.fine.size e), h.fine.kept k (fun x hx hf => by have := h.out x hf; omega)⟩
end
set_option maxHeartbeats 8000000 in
set_option maxRecDepth 20000 in
theorem dsendWindow_main (w : World) (A : Option Addr) (n cap : Nat) (acts : List Ds) (hn100 : n ≤ 100) (hr : RS layDs w A cap acts) (hn : acts.length = n) (hok : ∀ x ∈ acts, DsOk w x) :
    Calls Try.prog 14 #[.slice A n cap] w fun r w' => r = .returned (.bool true) ∧ Fine w w' := by
  have HR := Lib.hid hr; have HOK := Lib.hid hok; have HN := Lib.hid hn
  have hz2 : ¬ (n : Int) > 100 := by omega
  clear hr hok hn
  go_enter Try.func14, Try.ntmps14
  go_wp2_with fail
  refine (dsendWakes_any w).mono ?_
  rintro r w1 ⟨rfl, f1⟩
  have F1 := Lib.hid f1
  clear f1
  go_wp2_with fail
  refine (sn_new w1).mono ?_
  rintro r w2 ⟨s, rfl, h2, f2⟩
  have hs12 := F1.out.size
  have H2 : Hid (SnJ w w2 s _ _ _ 1) := Lib.hid ⟨h2, Sn.ok0, fun x hx => by have := hx.1; omega, F1.out.trans f2⟩
  clear h2 f2
  go_wp2_with fail
  go_loopw [17] (fun s17 wr => ∃ (i : Nat), i ≤ n ∧ s17 = .int .i64 i ∧ Hid (∃ F T L, SnJ w wr s F T L (1 + 100 * (i : Int)))) (fun s17 _ => n - (intOf s17).toNat)
  case atStart => exact ⟨0, Nat.zero_le _, rfl, Lib.hid ⟨_, _, _, H2.out⟩⟩
  case round =>
    obtain ⟨i, hi, rfl, HJ⟩ := hrel
    obtain ⟨F, T, L, j1⟩ := HJ.out
    have J1 := Lib.hid j1
    clear j1 HJ
    by_cases hlt : i < n
    · obtain ⟨r, hr0⟩ : ∃ r, acts[i]? = some r := ⟨_, List.getElem?_eq_getElem (by have := HN.out; omega)⟩
      have hrok := HOK.out r (List.mem_of_getElem? hr0)
      obtain ⟨bb, o, rfl, hb, hc⟩ := (HR.out.fine J1.out.fine).at_ hr0
      obtain ⟨rk, rn, rm, rA, rl, rc, zs⟩ := r
      have d0 := hc 0 (.int .i64 rk) rfl
      have d1 := hc 1 (.int .i64 rn) rfl
      have d2 := hc 2 (.int .i64 rm) rfl
      have d3 := hc 3 (.slice rA rl rc) rfl
      simp only [← Nat.add_assoc, Nat.add_zero] at d0 d1 d2 d3
      have HD := Lib.hid hrok
      obtain ⟨xr, hxr⟩ : ∃ x, wr.heap.size = x := ⟨_, rfl⟩
      have b5 := Blk.newAt (w := wr) (t := 76) (cs := #[.int .i64 rk, .int .i64 rn, .int .i64 rm, .slice rA rl rc]) hxr.symm
      have f5 := (Fine.refl wr).alloc (.cells #[.int .i64 rk, .int .i64 rn, .int .i64 rm, .slice rA rl rc] 76)
      have hxF : ¬ F xr := fun hf => by have := J1.out.st.lt _ hf; omega
      clear hc hr0 hrok
      go_upto_region 9 with fail
      generalize wr.alloc (.cells #[.int .i64 rk, .int .i64 rn, .int .i64 rm, .slice rA rl rc] 76) = w5 at b5 f5 ⊢
      have B5 := Lib.hid b5; have J5 := Lib.hid (J1.out.wfine f5)
      have c0 : w5.cell? ⟨xr, 0, none⟩ = some (.int .i64 rk) := b5.cell 0
      have c1 : w5.cell? ⟨xr, 1, none⟩ = some (.int .i64 rn) := b5.cell 1
      have c2 : w5.cell? ⟨xr, 2, none⟩ = some (.int .i64 rm) := b5.cell 2
      have c3 : w5.cell? ⟨xr, 3, none⟩ = some (.slice rA rl rc) := b5.cell 3
      clear b5 f5 hxr d0 d1 d2 d3
      obtain ⟨una, huna⟩ : ∃ z, T.una = z := ⟨_, rfl⟩
      have hub : 1 ≤ una ∧ una ≤ 20000 := by have h1 := J1.out.ok.u1; have h2 := J1.out.ok.ub; omega
      have HUNA := Lib.hid huna
      have hKb : 1 + 100 * (i : Int) ≤ 20000 := by omega
      have hKi : (1 + 100 * (i : Int)) + 100 = 1 + 100 * ((i + 1 : Nat) : Int) := by omega
      have hKm : (1 + 100 * (i : Int)) ≤ 1 + 100 * ((i + 1 : Nat) : Int) := by omega
      have HKI := Lib.hid hKi
      clear huna hKi
      by_cases hk0 : rk = 0
      · subst hk0
        by_cases hbig : 100 < rl
        · have hbig2 : (rl : Int) > 100 := by omega
          go_wp2_with fail
          go_ret
          exact ⟨rfl, J5.out.fine⟩
        · have hbig2 : ¬ (rl : Int) > 100 := by omega
          go_wp2_with fail
          refine (sn_write rl rc rA zs HD.out.2.2.2.1 (by omega) J5.out.ok.b64 w5 (HD.out.2.2.2.2.1.fine J5.out.fine) J5.out.st).mono ?_
          rintro r w9 ⟨F9, rfl, x9, k9, hF9⟩
          have hk9 := J5.out.ok.wrote zs
          rw [HKI.out] at hk9
          have J9 := Lib.hid (J5.out.moved k9 x9 hk9 hF9)
          clear x9 k9 hF9 hk9 c0 c1 c2 c3
          generalize T.wrote zs = T9 at J9
          obtain ⟨L9, hL9⟩ : ∃ z, z = L := ⟨_, rfl⟩
          rw [← hL9] at J9
          clear hL9
          obtain ⟨u9, n9, d9, b9, t9, o9⟩ := T9
          have hok9 := J9.out.ok
          obtain ⟨lb9, hlb9⟩ : ∃ z, b9.length = z := ⟨_, rfl⟩
          have hA := hok9.un; have hB := hok9.ne; have hC := hok9.b64
          dsimp only at hA hB hC
          rw [hlb9] at hC
          have HL9 := Lib.hid hlb9
          have g1 : ¬ u9 > n9 := by omega
          have g2 : ¬ n9 > d9 := by omega
          have g3 : ¬ (lb9 : Int) > 64 := by omega
          have g4 : decide (n9 < u9) = false := decide_eq_false g1
          have g5 : decide (d9 < n9) = false := decide_eq_false g2
          have g6 : decide (64 < (lb9 : Int)) = false := decide_eq_false g3
          clear hok9 hA hB hC hlb9
          go_wp2_with fail
          refine (sn_una (u := u9) rfl w9 J9.out.st).mono ?_
          rintro e v1 ⟨rfl, f1⟩
          have K1 := Lib.hid f1
          clear f1
          go_wp2_with fail
          refine (sn_next (u := n9) rfl v1 (J9.out.st.fine K1.out)).mono ?_
          rintro e v2 ⟨rfl, f2⟩
          have K2 := Lib.hid (K1.out.trans f2)
          clear f2
          go_wp2_with fail
          refine (sn_next (u := n9) rfl v2 (J9.out.st.fine K2.out)).mono ?_
          rintro e v3 ⟨rfl, f3⟩
          have K3 := Lib.hid (K2.out.trans f3)
          clear f3
          go_wp2_with fail
          refine (sn_edge (u := d9) rfl v3 (J9.out.st.fine K3.out)).mono ?_
          rintro e v4 ⟨rfl, f4⟩
          have K4 := Lib.hid (K3.out.trans f4)
          clear f4
          go_wp2_with fail
          refine (sn_held HL9.out v4 (J9.out.st.fine K4.out)).mono ?_
          rintro e v5 ⟨rfl, f5⟩
          have K5 := Lib.hid (K4.out.trans f5)
          clear f5
          go_wp2_with fail
          exact ⟨⟨i + 1, hlt, by simp, Lib.hid ⟨F9, _, L9, J9.out.wfine K5.out⟩⟩, by simp only [intOf]; omega⟩
      · have hk0b : (rk == 0) = false := by simpa using hk0
        by_cases hk1 : rk = 1
        · subst hk1
          go_wp2_with fail
          refine (sn_una HUNA.out w5 J5.out.st).mono ?_
          rintro r w6 ⟨rfl, f6⟩
          have J6 := Lib.hid (J5.out.wfine f6)
          have c1' : w6.cell? ⟨xr, 1, none⟩ = some (.int .i64 rn) := (B5.out.fine f6).cell 1
          clear f6 c0 c1 c2 c3
          go_wp2_with fail
          refine (sn_take rn (by omega) J6.out.ok w6 J6.out.st).mono ?_
          rintro r w7 ⟨dsn, k, A7, c7, F9, nx9, L9, rfl, o7, x7, k7, hF7, hp, hd7⟩
          obtain ⟨ok7, hk8, hpos, hnn, hlen⟩ := J6.out.ok.took hp
          have J7 := Lib.hid (J6.out.moved k7 x7 (ok7.more hKm) hF7)
          obtain ⟨ed, hed⟩ : ∃ z, T.ed = z := ⟨_, rfl⟩
          rw [hed, HUNA.out] at hpos
          have HED := Lib.hid hed
          have hedb : -1000000 ≤ ed ∧ ed ≤ 1000000 := by have h1 := J6.out.ok.eb; have h2 := J6.out.ok.ne; have h3 := J6.out.ok.un; have h4 := J6.out.ok.u1; omega
          clear o7 x7 k7 hF7 hp ok7 hlen c1' hed hnn
          by_cases hk0 : k = 0
          · subst hk0
            obtain ⟨T9, hT9⟩ : ∃ z, z = ({ T with nx := nx9 } : Sn) := ⟨_, rfl⟩
            have J9 := J7
            rw [← hT9] at J9
            clear hT9 hpos
            obtain ⟨w9, hw9⟩ : ∃ z, z = w7 := ⟨_, rfl⟩
            subst hw9
            go_upto_region 23 with fail
            obtain ⟨u9, n9, d9, b9, t9, o9⟩ := T9
            have hok9 := J9.out.ok
            obtain ⟨lb9, hlb9⟩ : ∃ z, b9.length = z := ⟨_, rfl⟩
            have hA := hok9.un; have hB := hok9.ne; have hC := hok9.b64
            dsimp only at hA hB hC
            rw [hlb9] at hC
            have HL9 := Lib.hid hlb9
            have g1 : ¬ u9 > n9 := by omega
            have g2 : ¬ n9 > d9 := by omega
            have g3 : ¬ (lb9 : Int) > 64 := by omega
            have g4 : decide (n9 < u9) = false := decide_eq_false g1
            have g5 : decide (d9 < n9) = false := decide_eq_false g2
            have g6 : decide (64 < (lb9 : Int)) = false := decide_eq_false g3
            clear hok9 hA hB hC hlb9
            go_wp2_with fail
            refine (sn_una (u := u9) rfl w9 J9.out.st).mono ?_
            rintro e v1 ⟨rfl, f1⟩
            have K1 := Lib.hid f1
            clear f1
            go_wp2_with fail
            refine (sn_next (u := n9) rfl v1 (J9.out.st.fine K1.out)).mono ?_
            rintro e v2 ⟨rfl, f2⟩
            have K2 := Lib.hid (K1.out.trans f2)
            clear f2
            go_wp2_with fail
            refine (sn_next (u := n9) rfl v2 (J9.out.st.fine K2.out)).mono ?_
            rintro e v3 ⟨rfl, f3⟩
            have K3 := Lib.hid (K2.out.trans f3)
            clear f3
            go_wp2_with fail
            refine (sn_edge (u := d9) rfl v3 (J9.out.st.fine K3.out)).mono ?_
            rintro e v4 ⟨rfl, f4⟩
            have K4 := Lib.hid (K3.out.trans f4)
            clear f4
            go_wp2_with fail
            refine (sn_held HL9.out v4 (J9.out.st.fine K4.out)).mono ?_
            rintro e v5 ⟨rfl, f5⟩
            have K5 := Lib.hid (K4.out.trans f5)
            clear f5
            go_wp2_with fail
            exact ⟨⟨i + 1, hlt, by simp, Lib.hid ⟨F9, _, L9, J9.out.wfine K5.out⟩⟩, by simp only [intOf]; omega⟩
          · have hp2 := hpos (by omega)
            obtain ⟨dn, hdn⟩ : ∃ z, dsn + (k : Int) = z := ⟨_, rfl⟩
            rw [hdn] at hp2
            have e1 : IntKind.i64.wrap (dsn + (k : Int)) = dn := by rw [hdn]; exact IntWalk.i64_in _ (by omega)
            have q1 : (k : Int) > 0 := by omega
            have q2 : decide (0 < (k : Int)) = true := decide_eq_true q1
            have q3 : ¬ dsn < una := by omega
            have q4 : decide (dsn < una) = false := decide_eq_false q3
            have q5 : ¬ dn > ed := by omega
            have q6 : decide (ed < dn) = false := decide_eq_false q5
            have q7 : ¬ (k : Int) > 8 := by omega
            have q8 : decide (8 < (k : Int)) = false := decide_eq_false q7
            have q9 : ¬ dn > nx9 := by omega
            have q10 : decide (nx9 < dn) = false := decide_eq_false q9
            clear hdn hpos
            go_wp2_with fail
            refine (sn_edge (T := { T with nx := nx9 }) HED.out w7 J7.out.st).mono ?_
            rintro r w8 ⟨rfl, f8⟩
            have J8 := Lib.hid (J7.out.wfine f8)
            clear f8
            go_wp2_with fail
            refine (sn_next rfl w8 J8.out.st).mono ?_
            rintro r w9 ⟨rfl, f9⟩
            have J9' := Lib.hid (J8.out.wfine f9)
            clear f9
            obtain ⟨T9, hT9⟩ : ∃ z, z = ({ T with nx := nx9 } : Sn) := ⟨_, rfl⟩
            have J9 := J9'
            rw [← hT9] at J9
            clear hT9 J9'
            go_upto_region 23 with fail
            clear e1 q1 q2 q3 q4 q5 q6 q7 q8 q9 q10
            obtain ⟨u9, n9, d9, b9, t9, o9⟩ := T9
            have hok9 := J9.out.ok
            obtain ⟨lb9, hlb9⟩ : ∃ z, b9.length = z := ⟨_, rfl⟩
            have hA := hok9.un; have hB := hok9.ne; have hC := hok9.b64
            dsimp only at hA hB hC
            rw [hlb9] at hC
            have HL9 := Lib.hid hlb9
            have g1 : ¬ u9 > n9 := by omega
            have g2 : ¬ n9 > d9 := by omega
            have g3 : ¬ (lb9 : Int) > 64 := by omega
            have g4 : decide (n9 < u9) = false := decide_eq_false g1
            have g5 : decide (d9 < n9) = false := decide_eq_false g2
            have g6 : decide (64 < (lb9 : Int)) = false := decide_eq_false g3
            clear hok9 hA hB hC hlb9
            go_wp2_with fail
            refine (sn_una (u := u9) rfl w9 J9.out.st).mono ?_
            rintro e v1 ⟨rfl, f1⟩
            have K1 := Lib.hid f1
            clear f1
            go_wp2_with fail
            refine (sn_next (u := n9) rfl v1 (J9.out.st.fine K1.out)).mono ?_
            rintro e v2 ⟨rfl, f2⟩
            have K2 := Lib.hid (K1.out.trans f2)
            clear f2
            go_wp2_with fail
            refine (sn_next (u := n9) rfl v2 (J9.out.st.fine K2.out)).mono ?_
            rintro e v3 ⟨rfl, f3⟩
            have K3 := Lib.hid (K2.out.trans f3)
            clear f3
            go_wp2_with fail
            refine (sn_edge (u := d9) rfl v3 (J9.out.st.fine K3.out)).mono ?_
            rintro e v4 ⟨rfl, f4⟩
            have K4 := Lib.hid (K3.out.trans f4)
            clear f4
            go_wp2_with fail
            refine (sn_held HL9.out v4 (J9.out.st.fine K4.out)).mono ?_
            rintro e v5 ⟨rfl, f5⟩
            have K5 := Lib.hid (K4.out.trans f5)
            clear f5
            go_wp2_with fail
            exact ⟨⟨i + 1, hlt, by simp, Lib.hid ⟨F9, _, L9, J9.out.wfine K5.out⟩⟩, by simp only [intOf]; omega⟩
        · have hk1b : (rk == 1) = false := by simpa using hk1
          by_cases hk2 : rk = 2
          · subst hk2
            have hnb := nearS_bd rn
            have hmb := nearS_bd rm
            obtain ⟨nv, hnv⟩ : ∃ z, nearS rn = z := ⟨_, rfl⟩
            obtain ⟨mv, hmv⟩ : ∃ z, nearS rm = z := ⟨_, rfl⟩
            rw [hnv] at hnb
            rw [hmv] at hmb
            have HNV := Lib.hid hnv
            have HMV := Lib.hid hmv
            have e2 : IntKind.i64.wrap (una + nv) = una + nv := IntWalk.i64_in _ (by omega)
            have q0 : ∀ p : FineBy w5, p.W.cell? ⟨xr, 1, none⟩ = some (.int .i64 rn) := fun p => (B5.out.fine p.h).cell 1
            have q1 : ∀ p : FineBy w5, p.W.cell? ⟨xr, 2, none⟩ = some (.int .i64 rm) := fun p => (B5.out.fine p.h).cell 2
            have QA : Hid (∀ p : FineBy w5, Calls Try.prog 56 #[.pointer (some ⟨s, 0, none⟩)] p.W fun r w' => r = .returned (.int .i64 una) ∧ Fine p.W w') := Lib.hid (fun p => sn_una HUNA.out p.W (J5.out.st.fine p.h))
            have QN : Hid (∀ w', Calls Try.prog 58 #[.int .i64 rn] w' fun r w'' => r = .returned (.int .i64 nv) ∧ Fine w' w'') := Lib.hid (fun w' => by have := nearS_any rn w'; rw [HNV.out] at this; exact this)
            have QM : Hid (∀ w', Calls Try.prog 58 #[.int .i64 rm] w' fun r w'' => r = .returned (.int .i64 mv) ∧ Fine w' w'') := Lib.hid (fun w' => by have := nearS_any rm w'; rw [HMV.out] at this; exact this)
            clear hnv hmv
            go_upto_region 20 with fail
            clear c0 c1 c2 c3
            refine wp_region_quiet_fine_tail 10 (by kernel_rfl) (by kernel_rfl) ?_
            simp only [List.take_succ_cons, List.take_zero, List.drop_succ_cons, List.drop_zero]
            repeat (quiet_step (first | exact Calls.fine_of (QA.out _) | exact Calls.fine_of (QN.out _) | exact Calls.fine_of (QM.out _)))
            refine wpQuiet_nil ?_
            intro wf hwf'
            have hwf := Lib.hid (FineBy.of hwf')
            clear hwf' q0 q1
            have J8 := Lib.hid (J5.out.wfine hwf.out)
            go_wp2_with fail
            refine (sn_lost (una + nv) mv (by omega) (by omega) (by omega) J8.out.ok wf J8.out.st).mono ?_
            rintro r w9 ⟨F9, L9, rfl, hL9, x9, k9, hF9⟩
            have J9 := Lib.hid (J8.out.moved k9 x9 ((J8.out.ok.lost_ hL9).more hKm) hF9)
            clear x9 k9 hF9 hL9
            generalize T = T9 at J9
            obtain ⟨u9, n9, d9, b9, t9, o9⟩ := T9
            have hok9 := J9.out.ok
            obtain ⟨lb9, hlb9⟩ : ∃ z, b9.length = z := ⟨_, rfl⟩
            have hA := hok9.un; have hB := hok9.ne; have hC := hok9.b64
            dsimp only at hA hB hC
            rw [hlb9] at hC
            have HL9 := Lib.hid hlb9
            have g1 : ¬ u9 > n9 := by omega
            have g2 : ¬ n9 > d9 := by omega
            have g3 : ¬ (lb9 : Int) > 64 := by omega
            have g4 : decide (n9 < u9) = false := decide_eq_false g1
            have g5 : decide (d9 < n9) = false := decide_eq_false g2
            have g6 : decide (64 < (lb9 : Int)) = false := decide_eq_false g3
            clear hok9 hA hB hC hlb9
            go_wp2_with fail
            refine (sn_una (u := u9) rfl w9 J9.out.st).mono ?_
            rintro e v1 ⟨rfl, f1⟩
            have K1 := Lib.hid f1
            clear f1
            go_wp2_with fail
            refine (sn_next (u := n9) rfl v1 (J9.out.st.fine K1.out)).mono ?_
            rintro e v2 ⟨rfl, f2⟩
            have K2 := Lib.hid (K1.out.trans f2)
            clear f2
            go_wp2_with fail
            refine (sn_next (u := n9) rfl v2 (J9.out.st.fine K2.out)).mono ?_
            rintro e v3 ⟨rfl, f3⟩
            have K3 := Lib.hid (K2.out.trans f3)
            clear f3
            go_wp2_with fail
            refine (sn_edge (u := d9) rfl v3 (J9.out.st.fine K3.out)).mono ?_
            rintro e v4 ⟨rfl, f4⟩
            have K4 := Lib.hid (K3.out.trans f4)
            clear f4
            go_wp2_with fail
            refine (sn_held HL9.out v4 (J9.out.st.fine K4.out)).mono ?_
            rintro e v5 ⟨rfl, f5⟩
            have K5 := Lib.hid (K4.out.trans f5)
            clear f5
            go_wp2_with fail
            exact ⟨⟨i + 1, hlt, by simp, Lib.hid ⟨F9, _, L9, J9.out.wfine K5.out⟩⟩, by simp only [intOf]; omega⟩
          · have hk2b : (rk == 2) = false := by simpa using hk2
            by_cases hk3 : rk = 3
            · subst hk3
              have hnb := nearS_bd rn
              have hmb := nearS_bd rm
              obtain ⟨nv, hnv⟩ : ∃ z, nearS rn = z := ⟨_, rfl⟩
              obtain ⟨mv, hmv⟩ : ∃ z, nearS rm = z := ⟨_, rfl⟩
              rw [hnv] at hnb
              rw [hmv] at hmb
              have HNV := Lib.hid hnv
              have HMV := Lib.hid hmv
              have e2 : IntKind.i64.wrap (una + nv) = una + nv := IntWalk.i64_in _ (by omega)
              have q0 : ∀ p : FineBy w5, p.W.cell? ⟨xr, 1, none⟩ = some (.int .i64 rn) := fun p => (B5.out.fine p.h).cell 1
              have q1 : ∀ p : FineBy w5, p.W.cell? ⟨xr, 2, none⟩ = some (.int .i64 rm) := fun p => (B5.out.fine p.h).cell 2
              have QA : Hid (∀ p : FineBy w5, Calls Try.prog 56 #[.pointer (some ⟨s, 0, none⟩)] p.W fun r w' => r = .returned (.int .i64 una) ∧ Fine p.W w') := Lib.hid (fun p => sn_una HUNA.out p.W (J5.out.st.fine p.h))
              have QN : Hid (∀ w', Calls Try.prog 58 #[.int .i64 rn] w' fun r w'' => r = .returned (.int .i64 nv) ∧ Fine w' w'') := Lib.hid (fun w' => by have := nearS_any rn w'; rw [HNV.out] at this; exact this)
              have QM : Hid (∀ w', Calls Try.prog 58 #[.int .i64 rm] w' fun r w'' => r = .returned (.int .i64 mv) ∧ Fine w' w'') := Lib.hid (fun w' => by have := nearS_any rm w'; rw [HMV.out] at this; exact this)
              clear hnv hmv
              go_upto_region 22 with fail
              clear c0 c1 c2 c3
              refine wp_region_quiet_fine_tail 10 (by kernel_rfl) (by kernel_rfl) ?_
              simp only [List.take_succ_cons, List.take_zero, List.drop_succ_cons, List.drop_zero]
              repeat (quiet_step (first | exact Calls.fine_of (QA.out _) | exact Calls.fine_of (QN.out _) | exact Calls.fine_of (QM.out _)))
              refine wpQuiet_nil ?_
              intro wf hwf'
              have hwf := Lib.hid (FineBy.of hwf')
              clear hwf' q0 q1
              have J8 := Lib.hid (J5.out.wfine hwf.out)
              go_wp2_with fail
              refine (sn_ack (una + nv) mv (by omega) J8.out.ok wf J8.out.st).mono ?_
              rintro r w9 ⟨F9, L9, x9, k9, hF9, hp⟩
              have hok9 := (J8.out.ok.acked_ (hp.imp (fun h => ⟨h.1, h.2.2⟩) (fun h => ⟨h.1, h.2.2⟩))).more hKm
              have J9 := Lib.hid (J8.out.moved k9 x9 hok9 hF9)
              generalize (if ackOk T (una + nv) mv then T.acked (una + nv) mv else T) = T9 at J9
              have hp2 : ∃ a b, r = .returned (.tuple #[.int .i64 a, .bool b]) := hp.elim (fun h => ⟨_, _, h.2.1⟩) (fun h => ⟨_, _, h.2.1⟩)
              obtain ⟨ra, rb, rfl⟩ := hp2
              clear x9 k9 hF9 hp hok9
              obtain ⟨u9, n9, d9, b9, t9, o9⟩ := T9
              have hok9 := J9.out.ok
              obtain ⟨lb9, hlb9⟩ : ∃ z, b9.length = z := ⟨_, rfl⟩
              have hA := hok9.un; have hB := hok9.ne; have hC := hok9.b64
              dsimp only at hA hB hC
              rw [hlb9] at hC
              have HL9 := Lib.hid hlb9
              have g1 : ¬ u9 > n9 := by omega
              have g2 : ¬ n9 > d9 := by omega
              have g3 : ¬ (lb9 : Int) > 64 := by omega
              have g4 : decide (n9 < u9) = false := decide_eq_false g1
              have g5 : decide (d9 < n9) = false := decide_eq_false g2
              have g6 : decide (64 < (lb9 : Int)) = false := decide_eq_false g3
              clear hok9 hA hB hC hlb9
              go_wp2_with fail
              refine (sn_una (u := u9) rfl w9 J9.out.st).mono ?_
              rintro e v1 ⟨rfl, f1⟩
              have K1 := Lib.hid f1
              clear f1
              go_wp2_with fail
              refine (sn_next (u := n9) rfl v1 (J9.out.st.fine K1.out)).mono ?_
              rintro e v2 ⟨rfl, f2⟩
              have K2 := Lib.hid (K1.out.trans f2)
              clear f2
              go_wp2_with fail
              refine (sn_next (u := n9) rfl v2 (J9.out.st.fine K2.out)).mono ?_
              rintro e v3 ⟨rfl, f3⟩
              have K3 := Lib.hid (K2.out.trans f3)
              clear f3
              go_wp2_with fail
              refine (sn_edge (u := d9) rfl v3 (J9.out.st.fine K3.out)).mono ?_
              rintro e v4 ⟨rfl, f4⟩
              have K4 := Lib.hid (K3.out.trans f4)
              clear f4
              go_wp2_with fail
              refine (sn_held HL9.out v4 (J9.out.st.fine K4.out)).mono ?_
              rintro e v5 ⟨rfl, f5⟩
              have K5 := Lib.hid (K4.out.trans f5)
              clear f5
              go_wp2_with fail
              exact ⟨⟨i + 1, hlt, by simp, Lib.hid ⟨F9, _, L9, J9.out.wfine K5.out⟩⟩, by simp only [intOf]; omega⟩
            · have hk3b : (rk == 3) = false := by simpa using hk3
              go_upto_region 23 with fail
              obtain ⟨T9, hT9⟩ : ∃ z, z = T := ⟨_, rfl⟩
              have J9 : Hid (SnJ w w5 s F T L (1 + 100 * ((i + 1 : Nat) : Int))) := Lib.hid ⟨J5.out.st, J5.out.ok.more hKm, J5.out.out, J5.out.fine⟩
              rw [← hT9] at J9
              obtain ⟨w9, hw9⟩ : ∃ z, z = w5 := ⟨_, rfl⟩
              obtain ⟨F9, hF9⟩ : ∃ z, z = F := ⟨_, rfl⟩
              obtain ⟨L9, hL9⟩ : ∃ z, z = L := ⟨_, rfl⟩
              rw [← hF9, ← hL9] at J9
              clear hF9 hL9 hT9 c0 c1 c2 c3
              subst hw9
              obtain ⟨u9, n9, d9, b9, t9, o9⟩ := T9
              have hok9 := J9.out.ok
              obtain ⟨lb9, hlb9⟩ : ∃ z, b9.length = z := ⟨_, rfl⟩
              have hA := hok9.un; have hB := hok9.ne; have hC := hok9.b64
              dsimp only at hA hB hC
              rw [hlb9] at hC
              have HL9 := Lib.hid hlb9
              have g1 : ¬ u9 > n9 := by omega
              have g2 : ¬ n9 > d9 := by omega
              have g3 : ¬ (lb9 : Int) > 64 := by omega
              have g4 : decide (n9 < u9) = false := decide_eq_false g1
              have g5 : decide (d9 < n9) = false := decide_eq_false g2
              have g6 : decide (64 < (lb9 : Int)) = false := decide_eq_false g3
              clear hok9 hA hB hC hlb9
              go_wp2_with fail
              refine (sn_una (u := u9) rfl w9 J9.out.st).mono ?_
              rintro e v1 ⟨rfl, f1⟩
              have K1 := Lib.hid f1
              clear f1
              go_wp2_with fail
              refine (sn_next (u := n9) rfl v1 (J9.out.st.fine K1.out)).mono ?_
              rintro e v2 ⟨rfl, f2⟩
              have K2 := Lib.hid (K1.out.trans f2)
              clear f2
              go_wp2_with fail
              refine (sn_next (u := n9) rfl v2 (J9.out.st.fine K2.out)).mono ?_
              rintro e v3 ⟨rfl, f3⟩
              have K3 := Lib.hid (K2.out.trans f3)
              clear f3
              go_wp2_with fail
              refine (sn_edge (u := d9) rfl v3 (J9.out.st.fine K3.out)).mono ?_
              rintro e v4 ⟨rfl, f4⟩
              have K4 := Lib.hid (K3.out.trans f4)
              clear f4
              go_wp2_with fail
              refine (sn_held HL9.out v4 (J9.out.st.fine K4.out)).mono ?_
              rintro e v5 ⟨rfl, f5⟩
              have K5 := Lib.hid (K4.out.trans f5)
              clear f5
              go_wp2_with fail
              exact ⟨⟨i + 1, hlt, by simp, Lib.hid ⟨F9, _, L9, J9.out.wfine K5.out⟩⟩, by simp only [intOf]; omega⟩
    · have hie : i = n := by omega
      subst hie
      go_wp2_with fail
      go_ret
      exact ⟨rfl, J1.out.fine⟩
set_option maxHeartbeats 2000000 in
set_option maxRecDepth 20000 in
theorem lawDsendWindow (w : World) (A : Option Addr) (len cap : Nat) (z : List Ds) (h : RS layDs w A cap z ∧ z.length = len ∧ ∀ x ∈ z, DsOk w x) :
    Calls Try.prog 14 #[.slice A len cap] w fun e w' => e = .returned (.bool true) ∧ Below w.heap.size w w' := by
  show Calls _ _ _ _ fun e w' => e = .returned (.bool true) ∧ Fine w w'
  obtain ⟨h1, h2, h3⟩ := h
  by_cases hl : len ≤ 100
  · exact dsendWindow_main w A len cap z hl h1 h2 h3
  · clear h1 h2 h3
    have h4 : (len : Int) > 100 := by omega
    go_enter Try.func14, Try.ntmps14
    go_wp2_with fail
    refine (dsendWakes_any w).mono ?_
    rintro r w1 ⟨rfl, f1⟩
    have F1 := Lib.hid f1
    clear f1
    go_wp2_with fail
    go_ret
    exact ⟨rfl, F1.out⟩
end Go.Proofs.Ytnigfdldfmiaiaa
