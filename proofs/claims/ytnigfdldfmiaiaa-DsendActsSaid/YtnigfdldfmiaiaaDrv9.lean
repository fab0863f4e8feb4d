/- Acts that came in; the law DrecvWindow. -/
import Derived.Test.YtnigfdldfmiaiaaDrv8
import Derived.Test.YtnigfdldfmiaiaaStructs
namespace Go.Proofs.Ytnigfdldfmiaiaa
open Go.ChangeShapes Go.WideShapes Go.ChangeAt Go.RowKit Go.Maps
set_option linter.unusedVariables false
set_option linter.unusedSimpArgs false
/-- An act: a kind, a number, bytes. -/
structure Da where
  k : Int
  n : Int
  A : Option Addr
  len : Nat
  cap : Nat
  zs : List Int
def layDa : Lay Da 3 := { cs := fun a => [.int .i64 a.k, .int .i64 a.n, .slice a.A a.len a.cap], len := fun _ => rfl, one := fun r u hu => by simp at hu; rcases hu with rfl | rfl | rfl <;> rfl, pos := by decide }
def DaOk (w : World) (a : Da) : Prop := (-9223372036854775808 ≤ a.k ∧ a.k ≤ 9223372036854775807) ∧ (-9223372036854775808 ≤ a.n ∧ a.n ≤ 9223372036854775807) ∧ a.zs.length = a.len ∧ RS layB w a.A a.cap a.zs ∧ ∀ x ∈ a.zs, 0 ≤ x ∧ x ≤ 255
section
variable {H : Type} {enc : TypeId × Value → H} {w : World} {m : Nat}
theorem cell_slice {t e : TypeId} {v : Value} {x : DataW H × List MemPlace} (ht : Try.prog.underlying t = some (.slice e)) (h : DataW.trod enc Try.prog w 0 (fun _ => true) true m t [v] = some x) :
    ∃ A len cap, v = .slice A len cap ∧ DataW.Trod enc Try.prog w 0 (fun _ => true) true t (.slice A len cap) x.1 x.2 := by
  have hx : DataW.trod enc Try.prog w 0 (fun _ => true) true m t [v] = some (x.1, x.2) := h
  rcases DataW.trod_slice ht h with ⟨hcs, _⟩ | ⟨ad, len', cap', elems, rest, n, _, hcs, _⟩
  · injection hcs with hcs _
    subst hcs
    exact ⟨none, 0, 0, rfl, ⟨m, hx⟩⟩
  · injection hcs with hcs _
    subst hcs
    exact ⟨some ad, len', cap', rfl, ⟨m, hx⟩⟩
theorem da_of {fs : Array Field} {cs : List Value} (hfs : Try.prog.underlying 57 = some (.struct fs)) (h : Fielded enc Try.prog w (fun _ => true) true m fs cs) (hl : cs.length = 3) :
    ∃ a : Da, cs = layDa.cs a ∧ DaOk w a := by
  have e1 := hfs.symm.trans Try.underlying57
  injection e1 with e1
  injection e1 with e1
  subst e1
  have h0 := h.int 0 0 3 (by kernel_rfl) (by kernel_rfl) Try.underlying3
  have h1 := h.int 1 1 3 (by kernel_rfl) (by kernel_rfl) Try.underlying3
  obtain ⟨v, x, h3, hx⟩ := h.one 2 2 46 (by kernel_rfl) (by kernel_rfl) (by omega)
  obtain ⟨A, len, cap, rfl, ht⟩ := cell_slice Try.underlying46 hx
  obtain ⟨zs, hz⟩ := intsIn_of Try.underlying46 Try.underlying5 (by kernel_rfl) ht
  obtain ⟨hz1, hz2, hz3⟩ := ints_rs hz
  refine ⟨⟨cellInt cs[0]?, cellInt cs[1]?, A, len, cap, zs⟩, ?_, bounds_i64 h0.2, bounds_i64 h1.2, hz1, hz2, hz3⟩
  apply List.ext_getElem?
  intro i
  rcases i with _ | _ | _ | i
  · exact h0.1
  · exact h1.1
  · exact h3
  · rw [List.getElem?_eq_none (by omega), List.getElem?_eq_none (by simp [layDa])]
theorem open_dacts {t : TypeId} (ht : Try.prog.underlying t = some (.slice 57)) {a : Option Addr} {len cap : Nat} {d : DataW H} {p : List MemPlace} (h : DataW.Trod enc Try.prog w 0 (fun _ => true) true t (.slice a len cap) d p) :
    ∃ z : List Da, RS layDa w a cap z ∧ z.length = len ∧ ∀ x ∈ z, DaOk w x := by
  obtain ⟨h1, h2, h3, h4⟩ := slice_structs 3 ht Try.underlying57 (by kernel_rfl) (by omega) h
  rcases Nat.eq_zero_or_pos len with h0 | hpos
  · subst h0
    exact ⟨[], ⟨Nat.zero_le _, h2, fun e => (h3 e).2, fun h => absurd h (by simp)⟩, rfl, fun x hx => by cases hx⟩
  · obtain ⟨b, off, ha, hb, hel⟩ := h4 hpos
    have key : ∀ i, ∃ z : Da, i < len → (∀ j, j < 3 → w.cell? ⟨b, off + (i * 3 + j), none⟩ = (layDa.cs z)[j]?) ∧ DaOk w z := by
      intro i
      by_cases hi : i < len
      · obtain ⟨cs, m, hl, hc, hF⟩ := hel i hi
        obtain ⟨z, rfl, hp⟩ := da_of Try.underlying57 hF hl
        exact ⟨z, fun _ => ⟨hc, hp⟩⟩
      · exact ⟨⟨0, 0, none, 0, 0, []⟩, fun h => absurd h hi⟩
    obtain ⟨f, hf⟩ := Classical.axiomOfChoice key
    refine ⟨(List.range len).map f, RS.ofCells _ h1 h2 h3 (fun _ => ⟨b, off, ha, hb, fun i hi j hj => (hf i hi).1 j hj⟩), by simp, fun x hx => ?_⟩
    obtain ⟨i, hi, rfl⟩ := List.mem_map.mp hx
    exact (hf i (List.mem_range.mp hi)).2
end
theorem open_dacts55 {H : Type} {enc : TypeId × Value → H} {w : World} {a : Option Addr} {len cap : Nat} {d : DataW H} {p : List MemPlace} (h : DataW.Trod enc Try.prog w 0 (fun _ => true) true 55 (.slice a len cap) d p) :
    ∃ z : List Da, RS layDa w a cap z ∧ z.length = len ∧ ∀ x ∈ z, DaOk w x := open_dacts Try.underlying55 h
theorem cnt_mono {q r : Nat → Bool} (h : ∀ j, q j = true → r j = true) (k : Nat) : cntP q k ≤ cntP r k := by
  unfold cntP
  exact Int.ofNat_le.mpr (List.countP_mono_left (fun x _ hx => h _ hx))
theorem cnt_range (lo hi d : Int) (k : Nat) : cntP (fun j : Nat => decide (lo ≤ d + j) && decide (d + (j : Int) < hi)) k ≤ max 0 (min (d + k) hi - lo) := by
  induction k with
  | zero => rw [cntP_zero]; omega
  | succ k ih =>
    rw [cntP_succ]
    split
    · rename_i h
      simp at h
      omega
    · omega
theorem tk_count {In : Int → Bool} {rd nx e : Int} (h : nx ≤ rd + 33) (h2 : rd < nx) (d : Int) (k : Nat) : 0 ≤ cntP (fun j => tkB In rd nx e (d + j)) k ∧ cntP (fun j => tkB In rd nx e (d + j)) k ≤ 32 := by
  refine ⟨(cntP_le _ _).1, ?_⟩
  have h3 := cnt_mono (q := fun j : Nat => tkB In rd nx e (d + j)) (r := fun j : Nat => decide (nx ≤ d + j) && decide (d + (j : Int) < rd + 33)) (fun j hj => by
    have := tkB_iff.mp hj
    simp
    omega) k
  have h4 := cnt_range nx (rd + 33) d k
  omega
def nearV (n : Int) : Int := min (max n (-500)) 1073741824
theorem nearV_bd (n : Int) : -500 ≤ nearV n ∧ nearV n ≤ 1073741824 := by unfold nearV; omega
theorem near_any (n : Int) (w : World) : Calls Try.prog 38 #[.int .i64 n] w fun r w' => r = .returned (.int .i64 (nearV n)) ∧ Fine w w' := by
  obtain ⟨a, ha⟩ : ∃ z, (if n < -500 then -500 else n) = z := ⟨_, rfl⟩
  obtain ⟨b, hb⟩ : ∃ z, (if 1073741824 < a then 1073741824 else a) = z := ⟨_, rfl⟩
  have e : nearV n = b := by unfold nearV; rw [← hb, ← ha]; simp only [Int.min_def, Int.max_def]; split <;> split <;> split <;> split <;> omega
  rw [e]
  clear e
  go_enter Try.func38, Try.ntmps38
  go_wp2_with fail
  go_ret
  exact ⟨rfl, Fine.refl w⟩
theorem ackV_zero {nx : Int} (h : 1 ≤ nx) : ackV 0 nx = nx := by unfold ackV; rw [if_neg (by omega)]
set_option maxHeartbeats 8000000 in
set_option maxRecDepth 20000 in
theorem drecvWindow_main (w : World) (A : Option Addr) (n cap : Nat) (acts : List Da) (hn100 : n ≤ 100) (hr : RS layDa w A cap acts) (hn : acts.length = n) (hok : ∀ x ∈ acts, DaOk w x) :
    Calls Try.prog 9 #[.slice A n cap] w fun r w' => r = .returned (.bool true) ∧ Fine w w' := by
  have HR := Lib.hid hr; have HOK := Lib.hid hok; have HN := Lib.hid hn
  have hz2 : ¬ (n : Int) > 100 := by omega
  clear hr hok hn
  go_enter Try.func9, Try.ntmps9
  go_wp2_with fail
  refine (drecvWakes_any w).mono ?_
  rintro r w1 ⟨rfl, f1⟩
  have F1 := Lib.hid f1
  clear f1
  go_wp2_with fail
  refine (rnewv_any w1).mono ?_
  rintro r w2 ⟨g, rfl, h2, f2⟩
  have H2 := Lib.hid h2; have F2 := Lib.hid (F1.out.trans f2)
  have hs12 := F1.out.size
  clear h2 f2
  go_wp2_with fail
  go_loopw [18] (fun s18 wr => ∃ (i : Nat), i ≤ n ∧ s18 = .int .i64 i ∧ Hid (∃ F In B rd nx mz, RcS F wr g In B rd nx 0 mz ∧ mz ≤ 100 * i ∧ rd ≤ 32 * i ∧ (∀ x, F x → w.heap.size ≤ x) ∧ Fine w wr)) (fun s18 _ => n - (intOf s18).toNat)
  case atStart => exact ⟨0, Nat.zero_le _, rfl, Lib.hid ⟨_, _, _, _, _, _, H2.out, by omega, by omega, (fun x hx => by have := hx.1; omega), F2.out⟩⟩
  case round =>
    obtain ⟨i, hi, rfl, HJ⟩ := hrel
    obtain ⟨F, In, B, rd, nx, mz, j1, j2, j3, j4, j5⟩ := HJ.out
    have J1 := Lib.hid j1; have J4 := Lib.hid j4; have J5 := Lib.hid j5
    clear j1 j4 j5 HJ
    by_cases hlt : i < n
    · obtain ⟨r, hr0⟩ : ∃ r, acts[i]? = some r := ⟨_, List.getElem?_eq_getElem (by have := HN.out; omega)⟩
      have hrok := HOK.out r (List.mem_of_getElem? hr0)
      obtain ⟨bb, o, rfl, hb, hc⟩ := (HR.out.fine J5.out).at_ hr0
      obtain ⟨rk, rn, rA, rl, rc, zs⟩ := r
      have d0 := hc 0 (.int .i64 rk) rfl
      have d1 := hc 1 (.int .i64 rn) rfl
      have d2 := hc 2 (.slice rA rl rc) rfl
      simp only [← Nat.add_assoc, Nat.add_zero] at d0 d1 d2
      have HD := Lib.hid hrok
      obtain ⟨xr, hxr⟩ : ∃ x, wr.heap.size = x := ⟨_, rfl⟩
      have b5 := Blk.newAt (w := wr) (t := 57) (cs := #[.int .i64 rk, .int .i64 rn, .slice rA rl rc]) hxr.symm
      have f5 := (Fine.refl wr).alloc (.cells #[.int .i64 rk, .int .i64 rn, .slice rA rl rc] 57)
      have hxF : ¬ F xr := fun hf => by have := J1.out.lt _ hf; omega
      clear hc hr0 hrok
      go_upto_region 9 with fail
      generalize wr.alloc (.cells #[.int .i64 rk, .int .i64 rn, .slice rA rl rc] 57) = w5 at b5 f5 ⊢
      have B5 := Lib.hid b5; have S5 := Lib.hid (J1.out.fine f5); have F5 := Lib.hid (J5.out.trans f5)
      have c2 : w5.cell? ⟨xr, 2, none⟩ = some (.slice rA rl rc) := b5.cell 2
      clear b5 f5 hxr d0 d1 d2
      by_cases hbig : 100 < rl
      · have hbig2 : (rl : Int) > 100 := by omega
        go_wp2_with fail
        go_ret
        exact ⟨rfl, F5.out⟩
      · have hbig2 : ¬ (rl : Int) > 100 := by omega
        have hrd890 : rd ≤ 3200 := by omega
        have hmz890 : mz ≤ 10000 := by omega
        have hnxb : 1 ≤ nx ∧ nx ≤ 4000 := by have := J1.out.inv; have := this.nr; have := J1.out.inv.rn; have := J1.out.inv.r0; omega
        go_wp2_with fail
        refine (win_any w5 S5.out).mono ?_
        rintro e w6 ⟨rfl, f6⟩
        obtain ⟨was, hwas⟩ : ∃ z, rd + 33 - nx = z := ⟨_, rfl⟩
        rw [hwas]
        have hwasb : -10 ≤ was ∧ was ≤ 40 := by have h1 := J1.out.inv.nr; have h2 := J1.out.inv.rn; omega
        have HWAS := Lib.hid hwas
        have S6 := Lib.hid (S5.out.fine f6); have F6 := Lib.hid (F5.out.trans f6); have B6 := Lib.hid (B5.out.fine f6)
        clear f6 hwas c2
        go_wp2_with fail
        refine (ack_any w6 S6.out).mono ?_
        rintro e w7 ⟨rfl, f7⟩
        rw [ackV_zero hnxb.1]
        have S7 := Lib.hid (S6.out.fine f7); have F7 := Lib.hid (F6.out.trans f7); have B7 := Lib.hid (B6.out.fine f7)
        have c0 : w7.cell? ⟨xr, 0, none⟩ = some (.int .i64 rk) := B7.out.cell 0
        have c1 : w7.cell? ⟨xr, 1, none⟩ = some (.int .i64 rn) := B7.out.cell 1
        have c2 : w7.cell? ⟨xr, 2, none⟩ = some (.slice rA rl rc) := B7.out.cell 2
        clear f7
        by_cases hk0 : rk = 0
        · subst hk0
          have HAK0 := Lib.hid (ackV_zero (nx := nx) hnxb.1)
          have hnb := nearV_bd rn
          obtain ⟨nv, hnv⟩ : ∃ z, nearV rn = z := ⟨_, rfl⟩
          rw [hnv] at hnb
          have HNV := Lib.hid hnv
          have e2 : IntKind.i64.wrap (nx + nv) = nx + nv := IntWalk.i64_in _ (by omega)
          have q0 : ∀ p : FineBy w7, p.W.cell? ⟨xr, 1, none⟩ = some (.int .i64 rn) := fun p => (B7.out.fine p.h).cell 1
          have q1 : ∀ p : FineBy w7, p.W.cell? ⟨xr, 2, none⟩ = some (.slice rA rl rc) := fun p => (B7.out.fine p.h).cell 2
          have QA : Hid (∀ p : FineBy w7, Calls Try.prog 37 #[.pointer (some ⟨g, 0, none⟩)] p.W fun r w' => r = .returned (.int .i64 nx) ∧ Fine p.W w') := Lib.hid (fun p => by have := ack_any p.W (S7.out.fine p.h); rw [HAK0.out] at this; exact this)
          have QN : Hid (∀ w', Calls Try.prog 38 #[.int .i64 rn] w' fun r w'' => r = .returned (.int .i64 nv) ∧ Fine w' w'') := Lib.hid (fun w' => by have := near_any rn w'; rw [HNV.out] at this; exact this)
          clear hnv c1 c2
          go_upto_region 14 with fail
          clear c0
          refine wp_region_quiet_fine_tail 9 (by kernel_rfl) (by kernel_rfl) ?_
          simp only [List.take_succ_cons, List.take_zero, List.drop_succ_cons, List.drop_zero]
          repeat (quiet_step (first | exact Calls.fine_of (QA.out _) | exact Calls.fine_of (QN.out _)))
          refine wpQuiet_nil ?_
          intro wf hwf'
          have hwf := Lib.hid (FineBy.of hwf')
          clear hwf' q0 q1
          have S8 := Lib.hid (S7.out.fine hwf.out); have F8 := Lib.hid (F7.out.trans hwf.out)
          go_wp2_with fail
          refine (sput_any (nx + nv) (by omega) zs rl rc rA HD.out.2.2.1 (by omega) HD.out.2.2.2.2 (by omega) wf (HD.out.2.2.2.1.fine F8.out) (fun h0 b o e hf => by
            obtain ⟨b', o', e', h, _⟩ := HD.out.2.2.2.1.2.2.2 (by have := HD.out.2.2.1; dsimp only at this ⊢; omega)
            dsimp only at e'
            rw [e] at e'; injection e' with e'; injection e' with e' _ _
            have := J4.out b hf
            omega) S8.out).mono ?_
          rintro e w9 ⟨rfl, k9, F9, nx9, h9, hn9, hF9⟩
          have hcnt := tk_count (In := In) (e := 0) J1.out.inv.nr J1.out.inv.rn (nx + nv) zs.length
          generalize cntP _ _ = q9 at hcnt ⊢
          have hq9 : ¬ q9 > 32 := by omega
          generalize putI In rd nx 0 (nx + nv) zs.length = In9 at h9
          generalize putV In rd nx 0 (nx + nv) zs B = B9 at h9
          obtain ⟨rd9, hrd9'⟩ : ∃ z, z = rd := ⟨_, rfl⟩
          obtain ⟨mz9, hmz9'⟩ : ∃ z, z = mz + zs.length := ⟨_, rfl⟩
          rw [← hrd9', ← hmz9'] at h9
          have hmz9 : mz9 ≤ 100 * (i + 1) := by have := HD.out.2.2.1; dsimp only at this; omega
          have hrd9 : rd9 ≤ 32 * ((i + 1 : Nat) : Int) := by omega
          have J9 := Lib.hid h9
          have JF9 : Hid (∀ x, F9 x → w.heap.size ≤ x) := Lib.hid (fun x hx => by
            rcases hF9 x hx with h | h
            · exact J4.out x h
            · exact Nat.le_trans F8.out.size h)
          have JW9 : Hid (Fine w w9) := Lib.hid (F8.out.kept k9 (fun x hx hf => by have := J4.out x hf; omega))
          clear h9 k9 hF9 hcnt hrd9' hmz9' e2
          have hi9 := J9.out.inv
          obtain ⟨wv, hwv⟩ : ∃ z, rd9 + 33 - nx9 = z := ⟨_, rfl⟩
          have hwb : 0 ≤ wv ∧ wv ≤ 32 := by have := hi9.nr; have := hi9.rn; omega
          have hrv : nx9 - 1 - rd9 = 32 - wv := by omega
          have e1 : IntKind.i64.wrap (32 - (32 - wv)) = wv := by rw [show 32 - (32 - wv) = wv by omega]; exact IntWalk.i64_in _ (by omega)
          have hak := ackV_zero (nx := nx9) (by have := hi9.rn; have := hi9.r0; omega)
          have HWV := Lib.hid hwv; have HRV := Lib.hid hrv; have HAK := Lib.hid hak
          have g1 : ¬ wv < 0 := by omega
          have g2 : ¬ wv > 32 := by omega
          have g3 : ¬ 32 - wv > 32 := by omega
          have g4 : decide (wv < 0) = false := decide_eq_false g1
          have g5 : decide (32 < wv) = false := decide_eq_false g2
          have g6 : decide (32 < 32 - wv) = false := decide_eq_false g3
          have g7 : ¬ nx9 < nx := by omega
          have g8 : (wv != wv) = false := by simp
          clear hi9 hwv hrv hak
          go_wp2_with fail
          refine (win_any w9 J9.out).mono ?_
          rintro e v1 ⟨rfl, f1⟩
          rw [HWV.out]
          have K1 := Lib.hid f1
          clear f1
          go_wp2_with fail
          refine (win_any v1 (J9.out.fine K1.out)).mono ?_
          rintro e v2 ⟨rfl, f2⟩
          rw [HWV.out]
          have K2 := Lib.hid (K1.out.trans f2)
          clear f2
          go_wp2_with fail
          refine (ready_any v2 (J9.out.fine K2.out)).mono ?_
          rintro e v3 ⟨rfl, f3⟩
          rw [HRV.out]
          have K3 := Lib.hid (K2.out.trans f3)
          clear f3
          go_wp2_with fail
          refine (win_any v3 (J9.out.fine K3.out)).mono ?_
          rintro e v4 ⟨rfl, f4⟩
          rw [HWV.out]
          have K4 := Lib.hid (K3.out.trans f4)
          clear f4
          go_wp2_with fail
          refine (ready_any v4 (J9.out.fine K4.out)).mono ?_
          rintro e v5 ⟨rfl, f5⟩
          rw [HRV.out]
          have K5 := Lib.hid (K4.out.trans f5)
          clear f5
          go_wp2_with fail
          refine (ack_any v5 (J9.out.fine K5.out)).mono ?_
          rintro e v6 ⟨rfl, f6⟩
          rw [HAK.out]
          have K6 := Lib.hid (K5.out.trans f6)
          clear f6
          go_wp2_with fail
          exact ⟨⟨i + 1, hlt, by simp, Lib.hid ⟨F9, In9, B9, rd9, nx9, mz9, J9.out.fine K6.out, hmz9, hrd9, JF9.out, JW9.out.trans K6.out⟩⟩, by simp only [intOf]; omega⟩
        · have hk0b : (rk == 0) = false := by simpa using hk0
          by_cases hk2 : rk = 2
          · subst hk2
            go_wp2_with fail
            refine (read_any rn HD.out.2.1 (by omega) w7 S7.out).mono ?_
            rintro e w8 ⟨v, ys, er, rd9, F9, rfl, o8, hA, hB, h9, k9, hF9, _⟩
            have hlen : Hid ((ys.length : Int) = rd9 - rd ∧ 0 ≤ rd9 - rd ∧ rd9 ≤ rd + 32) := Lib.hid (by
              have hi := J1.out.inv
              have h1 := hi.nr; have h2 := hi.rn
              by_cases h0 : rd + 1 = nx
              · obtain ⟨rfl, _, rfl⟩ := hA h0
                simp
                omega
              · obtain ⟨_, h3, h4⟩ := hB h0
                rw [h4, bufL_len]
                omega)
            obtain ⟨A8, c8, rfl, _, _⟩ := o8.form
            obtain ⟨ln, hln⟩ : ∃ z, ys.length = z := ⟨_, rfl⟩
            rw [hln] at hlen ⊢
            obtain ⟨wn, hwn⟩ : ∃ z, rd9 + 33 - nx = z := ⟨_, rfl⟩
            have e3 : IntKind.i64.wrap (was + (ln : Int)) = wn := by rw [show was + (ln : Int) = wn by have := HWAS.out; have := hlen.out; omega]; exact IntWalk.i64_in _ (by have := HWAS.out; have := hlen.out; omega)
            have HWN := Lib.hid hwn
            have hrd9 : rd9 ≤ 32 * ((i + 1 : Nat) : Int) := by have := hlen.out; omega
            have hmz9 : mz ≤ 100 * (i + 1) := by omega
            have S8 := Lib.hid h9
            have JF9 : Hid (∀ x, F9 x → w.heap.size ≤ x) := Lib.hid (fun x hx => by
              rcases hF9 x hx with h | h
              · exact J4.out x h
              · exact Nat.le_trans F7.out.size h)
            have F8 : Hid (Fine w w8) := Lib.hid (F7.out.kept k9 (fun x hx hf => by have := J4.out x hf; omega))
            clear o8 hA hB h9 k9 hF9 hln hwn c0 c1 c2
            go_wp2_with fail
            refine (win_any w8 S8.out).mono ?_
            rintro e wa ⟨rfl, fa⟩
            rw [HWN.out]
            have SA := Lib.hid (S8.out.fine fa); have FA := Lib.hid (F8.out.trans fa)
            have g0 : (wn != wn) = false := by simp
            clear fa
            go_wp2_with fail
            refine (ack_any wa SA.out).mono ?_
            rintro e w9 ⟨rfl, fb⟩
            rw [ackV_zero hnxb.1]
            have J9 := Lib.hid (SA.out.fine fb); have JW9 := Lib.hid (FA.out.trans fb)
            have g01 : (nx != nx) = false := by simp
            clear fb e3
            obtain ⟨nx9, hnx9⟩ : ∃ z, z = nx := ⟨_, rfl⟩
            rw [← hnx9] at J9
            obtain ⟨mz9, hmz9'⟩ : ∃ z, z = mz := ⟨_, rfl⟩
            rw [← hmz9'] at J9 hmz9
            have hn9 : nx ≤ nx9 := by omega
            generalize In = In9 at J9
            generalize B = B9 at J9
            clear hnx9 hmz9'
            have hi9 := J9.out.inv
            obtain ⟨wv, hwv⟩ : ∃ z, rd9 + 33 - nx9 = z := ⟨_, rfl⟩
            have hwb : 0 ≤ wv ∧ wv ≤ 32 := by have := hi9.nr; have := hi9.rn; omega
            have hrv : nx9 - 1 - rd9 = 32 - wv := by omega
            have e1 : IntKind.i64.wrap (32 - (32 - wv)) = wv := by rw [show 32 - (32 - wv) = wv by omega]; exact IntWalk.i64_in _ (by omega)
            have hak := ackV_zero (nx := nx9) (by have := hi9.rn; have := hi9.r0; omega)
            have HWV := Lib.hid hwv; have HRV := Lib.hid hrv; have HAK := Lib.hid hak
            have g1 : ¬ wv < 0 := by omega
            have g2 : ¬ wv > 32 := by omega
            have g3 : ¬ 32 - wv > 32 := by omega
            have g4 : decide (wv < 0) = false := decide_eq_false g1
            have g5 : decide (32 < wv) = false := decide_eq_false g2
            have g6 : decide (32 < 32 - wv) = false := decide_eq_false g3
            have g7 : ¬ nx9 < nx := by omega
            have g8 : (wv != wv) = false := by simp
            clear hi9 hwv hrv hak
            go_wp2_with fail
            refine (win_any w9 J9.out).mono ?_
            rintro e v1 ⟨rfl, f1⟩
            rw [HWV.out]
            have K1 := Lib.hid f1
            clear f1
            go_wp2_with fail
            refine (win_any v1 (J9.out.fine K1.out)).mono ?_
            rintro e v2 ⟨rfl, f2⟩
            rw [HWV.out]
            have K2 := Lib.hid (K1.out.trans f2)
            clear f2
            go_wp2_with fail
            refine (ready_any v2 (J9.out.fine K2.out)).mono ?_
            rintro e v3 ⟨rfl, f3⟩
            rw [HRV.out]
            have K3 := Lib.hid (K2.out.trans f3)
            clear f3
            go_wp2_with fail
            refine (win_any v3 (J9.out.fine K3.out)).mono ?_
            rintro e v4 ⟨rfl, f4⟩
            rw [HWV.out]
            have K4 := Lib.hid (K3.out.trans f4)
            clear f4
            go_wp2_with fail
            refine (ready_any v4 (J9.out.fine K4.out)).mono ?_
            rintro e v5 ⟨rfl, f5⟩
            rw [HRV.out]
            have K5 := Lib.hid (K4.out.trans f5)
            clear f5
            go_wp2_with fail
            refine (ack_any v5 (J9.out.fine K5.out)).mono ?_
            rintro e v6 ⟨rfl, f6⟩
            rw [HAK.out]
            have K6 := Lib.hid (K5.out.trans f6)
            clear f6
            go_wp2_with fail
            exact ⟨⟨i + 1, hlt, by simp, Lib.hid ⟨F9, In9, B9, rd9, nx9, mz9, J9.out.fine K6.out, hmz9, hrd9, JF9.out, JW9.out.trans K6.out⟩⟩, by simp only [intOf]; omega⟩
          · have hk2b : (rk == 2) = false := by simpa using hk2
            have J9 := S7; have JW9 := F7
            obtain ⟨nx9, hnx9⟩ : ∃ z, z = nx := ⟨_, rfl⟩
            rw [← hnx9] at J9
            obtain ⟨rd9, hrd9'⟩ : ∃ z, z = rd := ⟨_, rfl⟩
            rw [← hrd9'] at J9
            obtain ⟨w9, hw9⟩ : ∃ z, z = w7 := ⟨_, rfl⟩
            have hn9 : nx ≤ nx9 := by omega
            have hrd9 : rd9 ≤ 32 * ((i + 1 : Nat) : Int) := by omega
            obtain ⟨mz9, hmz9'⟩ : ∃ z, z = mz := ⟨_, rfl⟩
            rw [← hmz9'] at J9
            have hmz9 : mz9 ≤ 100 * (i + 1) := by omega
            obtain ⟨F9, hF9⟩ : ∃ z, z = F := ⟨_, rfl⟩
            have JF9 := J4
            rw [← hF9] at J9 JF9
            generalize In = In9 at J9
            generalize B = B9 at J9
            clear hnx9 hmz9' hrd9'
            subst hw9
            have hi9 := J9.out.inv
            obtain ⟨wv, hwv⟩ : ∃ z, rd9 + 33 - nx9 = z := ⟨_, rfl⟩
            have hwb : 0 ≤ wv ∧ wv ≤ 32 := by have := hi9.nr; have := hi9.rn; omega
            have hrv : nx9 - 1 - rd9 = 32 - wv := by omega
            have e1 : IntKind.i64.wrap (32 - (32 - wv)) = wv := by rw [show 32 - (32 - wv) = wv by omega]; exact IntWalk.i64_in _ (by omega)
            have hak := ackV_zero (nx := nx9) (by have := hi9.rn; have := hi9.r0; omega)
            have HWV := Lib.hid hwv; have HRV := Lib.hid hrv; have HAK := Lib.hid hak
            have g1 : ¬ wv < 0 := by omega
            have g2 : ¬ wv > 32 := by omega
            have g3 : ¬ 32 - wv > 32 := by omega
            have g4 : decide (wv < 0) = false := decide_eq_false g1
            have g5 : decide (32 < wv) = false := decide_eq_false g2
            have g6 : decide (32 < 32 - wv) = false := decide_eq_false g3
            have g7 : ¬ nx9 < nx := by omega
            have g8 : (wv != wv) = false := by simp
            clear hi9 hwv hrv hak
            go_wp2_with fail
            refine (win_any w9 J9.out).mono ?_
            rintro e v1 ⟨rfl, f1⟩
            rw [HWV.out]
            have K1 := Lib.hid f1
            clear f1
            go_wp2_with fail
            refine (win_any v1 (J9.out.fine K1.out)).mono ?_
            rintro e v2 ⟨rfl, f2⟩
            rw [HWV.out]
            have K2 := Lib.hid (K1.out.trans f2)
            clear f2
            go_wp2_with fail
            refine (ready_any v2 (J9.out.fine K2.out)).mono ?_
            rintro e v3 ⟨rfl, f3⟩
            rw [HRV.out]
            have K3 := Lib.hid (K2.out.trans f3)
            clear f3
            go_wp2_with fail
            refine (win_any v3 (J9.out.fine K3.out)).mono ?_
            rintro e v4 ⟨rfl, f4⟩
            rw [HWV.out]
            have K4 := Lib.hid (K3.out.trans f4)
            clear f4
            go_wp2_with fail
            refine (ready_any v4 (J9.out.fine K4.out)).mono ?_
            rintro e v5 ⟨rfl, f5⟩
            rw [HRV.out]
            have K5 := Lib.hid (K4.out.trans f5)
            clear f5
            go_wp2_with fail
            refine (ack_any v5 (J9.out.fine K5.out)).mono ?_
            rintro e v6 ⟨rfl, f6⟩
            rw [HAK.out]
            have K6 := Lib.hid (K5.out.trans f6)
            clear f6
            go_wp2_with fail
            exact ⟨⟨i + 1, hlt, by simp, Lib.hid ⟨F9, In9, B9, rd9, nx9, mz9, J9.out.fine K6.out, hmz9, hrd9, JF9.out, JW9.out.trans K6.out⟩⟩, by simp only [intOf]; omega⟩
    · have hie : i = n := by omega
      subst hie
      go_wp2_with fail
      go_ret
      exact ⟨rfl, J5.out⟩
set_option maxHeartbeats 2000000 in
set_option maxRecDepth 20000 in
theorem lawDrecvWindow (w : World) (A : Option Addr) (len cap : Nat) (z : List Da) (h : RS layDa w A cap z ∧ z.length = len ∧ ∀ x ∈ z, DaOk w x) :
    Calls Try.prog 9 #[.slice A len cap] w fun e w' => e = .returned (.bool true) ∧ Below w.heap.size w w' := by
  show Calls _ _ _ _ fun e w' => e = .returned (.bool true) ∧ Fine w w'
  obtain ⟨h1, h2, h3⟩ := h
  by_cases hl : len ≤ 100
  · exact drecvWindow_main w A len cap z hl h1 h2 h3
  · clear h1 h2 h3
    have h4 : (len : Int) > 100 := by omega
    go_enter Try.func9, Try.ntmps9
    go_wp2_with fail
    refine (drecvWakes_any w).mono ?_
    rintro r w1 ⟨rfl, f1⟩
    have F1 := Lib.hid f1
    clear f1
    go_wp2_with fail
    go_ret
    exact ⟨rfl, F1.out⟩
end Go.Proofs.Ytnigfdldfmiaiaa
