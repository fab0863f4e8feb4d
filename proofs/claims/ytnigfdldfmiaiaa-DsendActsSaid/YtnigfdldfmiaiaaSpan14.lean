/- The law SpanOrder. -/
import Derived.Test.YtnigfdldfmiaiaaSpan13
import Derived.Test.YtnigfdldfmiaiaaOpen
import Derived.Deep.RegionLaw
namespace Go.Proofs.Ytnigfdldfmiaiaa
open Go.ChangeShapes Go.WideShapes Go.ChangeAt Go.RowKit
set_option linter.unusedVariables false
set_option linter.unusedSimpArgs false
/-- An act: a kind, two numbers. -/
abbrev Ac := Int × Int × Int
def layA : Lay Ac 3 := { cs := fun r => [.int .i64 r.1, .int .i64 r.2.1, .int .i64 r.2.2], len := fun _ => rfl, one := fun r u hu => by simp at hu; rcases hu with rfl | rfl | rfl <;> rfl, pos := by decide }
theorem sliceA : SliceTy Try.prog 22 27 3 24 := SliceTy.mk' (z := .agg #[.int .i64 0, .int .i64 0, .int .i64 0]) Try.underlying22 (by kernel_rfl) rfl
theorem acts_rs {w : World} {a : Option Addr} {len cap : Nat} {zs : Nat → Nat → Int} (h : RecsIn .i64 3 w a len cap zs) :
    ∃ acts : List Ac, acts.length = len ∧ RS layA w a cap acts ∧ ∀ x ∈ acts, (-9223372036854775808 ≤ x.1 ∧ x.1 ≤ 9223372036854775807) ∧ (-9223372036854775808 ≤ x.2.1 ∧ x.2.1 ≤ 9223372036854775807) ∧ (-9223372036854775808 ≤ x.2.2 ∧ x.2.2 ≤ 9223372036854775807) := by
  obtain ⟨h1, h2, h3, h4, h5⟩ := h
  refine ⟨(List.range len).map (fun i => (zs i 0, zs i 1, zs i 2)), by simp, ⟨by simpa using h1, h2, fun e => (h3 e).2, fun hp => ?_⟩, fun x hx => ?_⟩
  · have hp : 0 < len := by simpa using hp
    obtain ⟨b, off, e, hb, hc⟩ := h5 hp
    refine ⟨b, off, e, hb, fun q v hv => ?_⟩
    have hq : q < len * 3 := by
      have := (List.getElem?_eq_some_iff.1 hv).1
      rw [layA.flat_length] at this
      simpa using this
    obtain ⟨i, j, hj, rfl⟩ : ∃ i j, j < 3 ∧ q = i * 3 + j := ⟨q / 3, q % 3, Nat.mod_lt _ (by omega), by omega⟩
    have hi : i < len := by omega
    rw [layA.flat_at (x := (zs i 0, zs i 1, zs i 2)) (by simp [hi]) hj] at hv
    rw [hc i j hi hj]
    have hj3 : j = 0 ∨ j = 1 ∨ j = 2 := by omega
    rcases hj3 with rfl | rfl | rfl <;> exact hv
  · obtain ⟨i, hi, rfl⟩ := List.mem_map.mp hx
    have hi := List.mem_range.mp hi
    exact ⟨bounds_i64 (h4 i 0 hi (by omega)), bounds_i64 (h4 i 1 hi (by omega)), bounds_i64 (h4 i 2 hi (by omega))⟩
/-- What acts' runs hold. -/
def actP (us : List Ac) (n : Int) : Bool := us.any (fun x => hasR (heldR x.2.1 x.2.2) n)
theorem actP_rot (us : List Ac) (k : Nat) (n : Int) : actP (us.drop k ++ us.take k) n = actP us n := by
  unfold actP
  rw [List.any_append, Bool.or_comm, ← List.any_append, List.take_append_drop]
theorem actP_take {us : List Ac} {k : Nat} {x : Ac} (h : us[k]? = some x) (n : Int) : actP (us.take (k + 1)) n = (actP (us.take k) n || hasR (heldR x.2.1 x.2.2) n) := by
  unfold actP
  rw [List.take_add_one, h, List.any_append]
  simp
set_option maxHeartbeats 2000000 in
set_option maxRecDepth 20000 in
theorem new_nil (w : World) : Calls Try.prog 19 #[.slice none 0 0] w fun r w' => r = .returned (.pointer (some ⟨w.heap.size, 0, none⟩)) ∧ Blk w' w.heap.size 97 #[.slice none 0 0] ∧ Fine w w' := by
  obtain ⟨g, hg⟩ : ∃ g, w.heap.size = g := ⟨_, rfl⟩
  have HF := Lib.hid ((Fine.refl w).alloc (.cells #[.slice none 0 0] 97))
  have HB := Lib.hid (Blk.newAt (w := w) (t := 97) (cs := #[.slice none 0 0]) hg.symm)
  have HG := Lib.hid hg
  go_enter Try.func19, Try.ntmps19
  go_wp2_with fail
  generalize w.alloc (.cells #[.slice none 0 0] 97) = w1 at HB HF ⊢
  clear hg
  go_loopw [10] (fun s10 wr => s10 = .int .i64 0 ∧ wr = w1) (fun _ _ => 0)
  case atStart => exact ⟨rfl, rfl⟩
  case round =>
    obtain ⟨rfl, rfl⟩ := hrel
    go_wp2_with fail
    go_ret
    rw [HG.out]
    exact ⟨rfl, HB.out, HF.out⟩
theorem SetA.nil {base : Nat} {w : World} {g : Nat} (h : Blk w g 97 #[.slice none 0 0]) : SetA base w g (.slice none 0 0) [] := ⟨none, 0, rfl, h, Own.nil_ _ _ _ _, by intro e; cases e⟩
theorem SetA.own {base : Nat} {w : World} {g : Nat} {v : Value} {l : List Rn} (h : SetA base w g v l) : ∀ x, v.ownBlock = some x → base ≤ x ∧ x < w.heap.size := by
  obtain ⟨A, c, rfl, h1, h2, _⟩ := h
  exact h2.lt
set_option maxHeartbeats 4000000 in
set_option maxRecDepth 20000 in
theorem spanOrder_main (w : World) (A : Option Addr) (n cap : Nat) (hn0 : 0 < n) (hn60 : n ≤ 60) (acts : List Ac) (hn : acts.length = n) (hr : RS layA w A cap acts) (hbd : ∀ x ∈ acts, (-9223372036854775808 ≤ x.1 ∧ x.1 ≤ 9223372036854775807) ∧ (-9223372036854775808 ≤ x.2.1 ∧ x.2.1 ≤ 9223372036854775807) ∧ (-9223372036854775808 ≤ x.2.2 ∧ x.2.2 ≤ 9223372036854775807)) (m : Int) (hm : 0 ≤ m ∧ m ≤ 255) :
    Calls Try.prog 3 #[.slice A n cap, .int .u8 m] w fun r w' => r = .returned (.bool true) ∧ Fine w w' := by
  have HR := Lib.hid hr; have HB := Lib.hid hbd; have HN := Lib.hid hn
  obtain ⟨k, hk, hkn⟩ : ∃ k : Nat, m.tmod (n : Int) = (k : Int) ∧ k < n := by
    have h1 := Int.tmod_lt_of_pos m (b := (n : Int)) (by omega)
    have h2 := Int.tmod_nonneg (n : Int) hm.1
    exact ⟨(m.tmod (n : Int)).toNat, by omega, by omega⟩
  obtain ⟨A1, q1, rs1, _⟩ := hr.run_behind sliceA k (by omega)
  have q2 := hr.run_front sliceA k (by omega)
  rw [hn] at q1 q2
  have HRS1 := Lib.hid rs1
  have hz1 : ((n : Int) == 0) = false := by simp; omega
  have hz2 : ¬ (n : Int) > 60 := by omega
  clear hr hbd hn rs1
  go_enter Try.func3, Try.ntmps3
  go_wp2_with fail
  refine (wakes_any w).mono ?_
  rintro r w1 ⟨rfl, f1⟩
  have F1 := Lib.hid f1
  clear f1
  go_wp2_with fail
  refine (new_nil w1).mono ?_
  rintro r w2 ⟨rfl, b2, f2⟩
  obtain ⟨g1, hg1⟩ : ∃ g, w1.heap.size = g := ⟨_, rfl⟩
  rw [hg1] at b2 ⊢
  have G1 := Lib.hid hg1; have B2 := Lib.hid b2; have F2 := Lib.hid (F1.out.trans f2); have F12 := Lib.hid f2
  clear b2 f2 hg1
  go_wp2_with fail
  refine (new_nil w2).mono ?_
  rintro r w3 ⟨rfl, b3, f3⟩
  obtain ⟨g2, hg2⟩ : ∃ g, w2.heap.size = g := ⟨_, rfl⟩
  rw [hg2] at b3 ⊢
  have hg12 : g1 < g2 := hg2 ▸ B2.out.lt
  have G2 := Lib.hid hg2; have B3 := Lib.hid b3; have F3 := Lib.hid (F2.out.trans f3); have B13 := Lib.hid (B2.out.fine f3)
  have hwg : w.heap.size ≤ g1 := by rw [← G1.out]; exact F1.out.size
  clear b3 f3 hg2
  go_wp2_with fail
  go_loopw [34] (fun s34 wr => ∃ (i : Nat), i ≤ n ∧ s34 = .int .i64 i ∧ Hid (∃ v l, Tidy l ∧ (∀ x, inB l x = actP (acts.take i) x) ∧ SetA w.heap.size wr g1 v l ∧ Blk wr g2 97 #[.slice none 0 0] ∧ v.ownBlock ≠ some g2 ∧ Fine w wr)) (fun s34 _ => n - (intOf s34).toNat)
  case atStart => exact ⟨0, Nat.zero_le _, rfl, Lib.hid ⟨_, [], Tidy.nil, fun x => rfl, SetA.nil B13.out, B3.out, (by intro e; cases e), F3.out⟩⟩
  case round =>
    obtain ⟨i, hi, rfl, HI⟩ := hrel
    obtain ⟨v, l, i1, i2, i3, i4, i5, i6⟩ := HI.out
    have I1 := Lib.hid i1; have I2 := Lib.hid i2; have I3 := Lib.hid i3; have I4 := Lib.hid i4; have I5 := Lib.hid i5; have I6 := Lib.hid i6
    clear i1 i2 i3 i4 i5 i6 HI
    by_cases hlt : i < n
    · obtain ⟨r, hr0⟩ : ∃ r, acts[i]? = some r := ⟨_, List.getElem?_eq_getElem (by have := HN.out; omega)⟩
      obtain ⟨bb, o, rfl, hb, hc⟩ := (HR.out.fine I6.out).at_ hr0
      have HNX := Lib.hid (actP_take hr0)
      have HBD := Lib.hid (HB.out r (List.mem_of_getElem? hr0))
      obtain ⟨r0, r1, r2⟩ := r
      have d0 := hc 0 (.int .i64 r0) rfl
      have d1 := hc 1 (.int .i64 r1) rfl
      have d2 := hc 2 (.int .i64 r2) rfl
      simp only [← Nat.add_assoc, Nat.add_zero] at d0 d1 d2
      clear hc hr0
      go_wp2_with fail
      have f5 := (Fine.refl wr).alloc (.cells #[.int .i64 r0, .int .i64 r1, .int .i64 r2] 27)
      have S5 := I3.out.fine f5
      refine (add_any w.heap.size g1 v l I1.out r1 r2 HBD.out.2.1 HBD.out.2.2 _ (Nat.le_trans I6.out.size f5.size) S5).mono ?_
      rintro x w6 HA
      have F6 := Lib.hid (HA.fine (I6.out.trans f5) (Nat.le_refl _) hwg S5)
      obtain ⟨v', l', rfl, a1, a2, a3, a4, a5⟩ := HA
      have A1 := Lib.hid a1; have A2 := Lib.hid a2; have A3 := Lib.hid a3
      have A4 := Lib.hid ((I4.out.fine f5).kept a4 (fun e => e.elim (fun e => by omega) (fun e => I5.out e)))
      have A5 : Hid (v'.ownBlock ≠ some g2) := Lib.hid (fun e => by
        rcases a5 with h | h
        · exact I5.out (h ▸ e)
        · have h1 := h g2 e
          have h2 := (I4.out.fine f5).lt
          omega)
      clear a1 a2 a3 a4 a5 S5 f5
      go_wp2_with fail
      refine ⟨⟨i + 1, hlt, by simp, Lib.hid ⟨v', l', A1.out, fun x => ?_, A3.out, A4.out, A5.out, F6.out⟩⟩, by simp only [intOf]; omega⟩
      rw [A2.out x, I2.out x, HNX.out x]
    · have hie : i = n := by omega
      subst hie
      have I2F : Hid (∀ x, inB l x = actP acts x) := Lib.hid (fun x => by rw [I2.out x, ← HN.out, List.take_length])
      go_upto_region 12 with fail
      obtain ⟨xq, hxq⟩ : ∃ x, wr.heap.size = x := ⟨_, rfl⟩
      have hsz : w.heap.size ≤ xq := hxq ▸ I6.out.size
      have O0 : Hid (Own layA 27 (wr.alloc (.cells #[] 27)).drew xq (.slice (some ⟨xq, 0, none⟩) 0 0) []) := Lib.hid (by rw [← hxq]; exact (Own.lit (E := layA) (e := 27) (xs := []) wr #[] rfl (Nat.le_refl _) (by simp)).drew)
      have F0 : Hid (Fine w (wr.alloc (.cells #[] 27)).drew) := Lib.hid (I6.out.trans ((Fine.refl wr).alloc _).drew)
      have RS1 : Hid (RS layA (wr.alloc (.cells #[] 27)).drew A1 (cap - k) (acts.drop k)) := Lib.hid (HRS1.out _ (HR.out.fine F0.out))
      have Z0 : Hid (xq ≤ (wr.alloc (.cells #[] 27)).drew.heap.size) := Lib.hid (hxq ▸ ((Fine.refl wr).alloc _).drew.size)
      have hdl : (acts.drop k).length = i - k := by rw [List.length_drop, HN.out]
      have htl : (acts.take k).length = k := by rw [List.length_take, HN.out]; omega
      have HDL := Lib.hid hdl; have HTL := Lib.hid htl
      clear hdl htl
      go_region_law (first | (refine step_appE rfl sliceA (.tmp 45) (.tmp 48) rfl xq (.slice (some ⟨xq, 0, none⟩) 0 0) [] rfl O0.out A1 (i - k) (cap - k) (acts.drop k) rfl HDL.out.symm RS1.out (by rw [HDL.out]; simp; omega) (by rw [HDL.out]; simp; unfold maxLen; omega) Z0.out ?_; intro v1 wA oA kA grA hA; have OA : Hid (Own layA 27 wA xq v1 (acts.drop k)) := Lib.hid (by simpa using oA); have FA : Hid (Fine w wA) := Lib.hid (F0.out.kept kA (fun x hx e => by omega)); have ZA : Hid (xq ≤ wA.heap.size) := Lib.hid (Nat.le_trans Z0.out kA.size); have GA : Hid (Fine wr wA) := Lib.hid ((((Fine.refl wr).alloc _).drew).kept kA (fun x hx e => by omega)); clear oA kA grA hA) | (refine step_appE rfl sliceA (.tmp 49) (.tmp 52) rfl xq v1 (acts.drop k) rfl OA.out A k cap (acts.take k) rfl HTL.out.symm ((HR.out.front k (by have := HN.out; omega)).fine FA.out) (by rw [HDL.out, HTL.out]; omega) (by rw [HDL.out, HTL.out]; unfold maxLen; omega) ZA.out ?_; intro v2 wB oB kB grB hB; obtain ⟨A2, c2, e2, _, _⟩ := oB.form; have e3 : (acts.drop k ++ acts.take k).length = i := (by rw [List.length_append, HDL.out, HTL.out]; omega); rw [e3] at e2; subst e2; have FB : Hid (Fine w wB) := Lib.hid (FA.out.kept kB (fun x hx e => by omega)); have GB : Hid (Fine wr wB) := Lib.hid (GA.out.kept kB (fun x hx e => by omega)); have OB := Lib.hid oB; have E3 := Lib.hid e3; clear oB kB grB hB e3))
      obtain ⟨rot, hrot⟩ : ∃ z, acts.drop k ++ acts.take k = z := ⟨_, rfl⟩
      rw [hrot] at OB E3
      have hrm : ∀ x ∈ rot, x ∈ acts := fun x hx => by
        rw [← hrot] at hx
        rcases List.mem_append.mp hx with h | h
        · exact List.mem_of_mem_drop h
        · exact List.mem_of_mem_take h
      have HRP : Hid (∀ x, actP rot x = actP acts x) := Lib.hid (fun x => by rw [← hrot]; exact actP_rot acts k x)
      have HBR := Lib.hid (fun x hx => HB.out x (hrm x hx))
      have S1 := Lib.hid (I3.out.fine GB.out)
      have S2 := Lib.hid (I4.out.fine GB.out)
      have hg2x : g2 < xq := hxq ▸ I4.out.lt
      have hg1x : g1 < xq := hxq ▸ I3.out.lt
      have HV : Hid (∀ x, v.ownBlock = some x → x < xq ∧ x ≠ g2) := Lib.hid (fun x hx => ⟨hxq ▸ (I3.out.own x hx).2, fun e => I5.out (e ▸ hx)⟩)
      have hzB : xq ≤ wB.heap.size := hxq ▸ GB.out.size
      clear hrot hrm O0 F0 RS1 Z0 OA FA ZA GA q1 q2 hxq HDL HTL HRS1 hk
      simp only [Act.put, getElem!_pos, List.getElem_toArray, List.getElem_cons_succ, List.getElem_cons_zero, List.setIfInBounds_toArray, List.set_cons_zero, List.set_cons_succ]
      go_simp
      go_wp2_with fail
      go_loopw [55] (fun s55 wq => ∃ (j : Nat), j ≤ i ∧ s55 = .int .i64 j ∧ Hid (∃ v2 l2, Tidy l2 ∧ (∀ x, inB l2 x = actP (rot.take j) x) ∧ SetA wB.heap.size wq g2 v2 l2 ∧ Kept (fun x => x = g2 ∨ wB.heap.size ≤ x) wB wq)) (fun s55 _ => i - (intOf s55).toNat)
      case atStart => exact ⟨0, Nat.zero_le _, rfl, Lib.hid ⟨_, [], Tidy.nil, fun x => rfl, SetA.nil S2.out, Kept.refl _ _⟩⟩
      case round =>
        rename_i wq _
        obtain ⟨j, hj, rfl, HJ⟩ := hrel
        obtain ⟨v2, l2, j1, j2, j3, j4⟩ := HJ.out
        have J1 := Lib.hid j1; have J2 := Lib.hid j2; have J3 := Lib.hid j3; have J4 := Lib.hid j4
        clear j1 j2 j3 j4 HJ
        by_cases hjt : j < i
        · obtain ⟨r, hr0⟩ : ∃ r, rot[j]? = some r := ⟨_, List.getElem?_eq_getElem (by have := E3.out; omega)⟩
          have KQ := J4.out
          obtain ⟨bb, o, hA2, hb, hc⟩ := (OB.out.rs.1.kept KQ (fun b off e h => by
            have h1 := OB.out.from_ b off e
            rcases h with h | h <;> omega)).at_ hr0
          subst hA2
          have HNX := Lib.hid (actP_take hr0)
          have HBD := Lib.hid (HBR.out r (List.mem_of_getElem? hr0))
          obtain ⟨r0, r1, r2⟩ := r
          have d0 := hc 0 (.int .i64 r0) rfl
          have d1 := hc 1 (.int .i64 r1) rfl
          have d2 := hc 2 (.int .i64 r2) rfl
          simp only [← Nat.add_assoc, Nat.add_zero] at d0 d1 d2
          clear hc hr0 KQ
          go_wp2_with fail
          have f5 := (Fine.refl wr).alloc (.cells #[.int .i64 r0, .int .i64 r1, .int .i64 r2] 27)
          have S5 := J3.out.fine f5
          refine (add_any wB.heap.size g2 v2 l2 J1.out r1 r2 HBD.out.2.1 HBD.out.2.2 _ (Nat.le_trans J4.out.size f5.size) S5).mono ?_
          rintro x w6 HA
          obtain ⟨v', l', rfl, a1, a2, a3, a4, a5⟩ := HA
          have A1 := Lib.hid a1; have A2 := Lib.hid a2; have A3 := Lib.hid a3
          have A4 : Hid (Kept (fun x => x = g2 ∨ wB.heap.size ≤ x) wB w6) := Lib.hid ((J4.out.trans (Kept.of_fine f5)).trans (a4.mono (fun x _ e => e.imp id (fun e => (S5.own x e).1))))
          clear a1 a2 a3 a4 a5 S5 f5
          go_wp2_with fail
          refine ⟨⟨j + 1, hjt, by simp, Lib.hid ⟨v', l', A1.out, fun x => ?_, A3.out, A4.out⟩⟩, by simp only [intOf]; omega⟩
          rw [A2.out x, J2.out x, HNX.out x]
        · have hje : j = i := by omega
          subst hje
          have hl2 : l2 = l := Tidy.uniq J1.out I1.out (fun x => by rw [J2.out x, I2F.out x, ← HRP.out x, ← E3.out, List.take_length])
          subst hl2
          have S1 := Lib.hid (S1.out.kept J4.out (fun e => by rcases e with e | e <;> omega) (fun x hx e => by
            have h := HV.out x hx
            rcases e with e | e
            · exact h.2 e
            · omega))
          have FQ : Hid (Fine w wr) := Lib.hid (FB.out.kept J4.out (fun x hx e => by rcases e with e | e <;> omega))
          have hll : l2.length ≤ 8589934592 := by have := I1.out.length_le; omega
          go_wp2_with fail
          refine (runs_any g1 l2 hll _ S1.out.set).mono ?_
          rintro x w7 ⟨v3, rfl, o3, f7⟩
          obtain ⟨A3, c3, rfl, rs3, _⟩ := o3.form
          obtain ⟨nl, hnl⟩ : ∃ nl, l2.length = nl := ⟨_, rfl⟩
          have J3' := Lib.hid (J3.out.set.fine f7)
          have F7 := Lib.hid (FQ.out.trans f7)
          have R3 := Lib.hid rs3
          have HNL := Lib.hid hnl
          rw [hnl]
          clear o3 rs3 f7 hnl
          go_wp2_with fail
          refine (runs_any g2 l2 hll w7 J3'.out).mono ?_
          rintro x w8 ⟨v4, rfl, o4, f8⟩
          obtain ⟨A4, c4, rfl, rs4, _⟩ := o4.form
          have hnl := HNL.out
          rw [hnl]
          have F8 := Lib.hid (F7.out.trans f8)
          have R4 := Lib.hid rs4
          have R3' := Lib.hid (R3.out.fine f8)
          clear o4 rs4 f8 hnl
          have hnb : nl ≤ 8589934592 := by rw [← HNL.out]; exact hll
          clear hll
          go_wp2_with fail
          go_loopw [77] (fun s77 wz => ∃ (z : Nat), z ≤ nl ∧ s77 = .int .i64 z ∧ Hid (Fine w8 wz)) (fun s77 _ => nl - (intOf s77).toNat)
          case atStart => exact ⟨0, Nat.zero_le _, rfl, Lib.hid (Fine.refl _)⟩
          case round =>
            obtain ⟨z, hz, rfl, HZ⟩ := hrel
            by_cases hzt : z < nl
            · obtain ⟨r, hr0⟩ : ∃ r, l2[z]? = some r := ⟨_, List.getElem?_eq_getElem (by have := HNL.out; omega)⟩
              obtain ⟨b3, o3, rfl, _, hc3⟩ := (R3'.out.fine HZ.out).at_ hr0
              obtain ⟨b4, o4, rfl, _, hc4⟩ := (R4.out.fine HZ.out).at_ hr0
              obtain ⟨r1, r2⟩ := r
              have d0 := hc3 0 (.int .i64 r1) rfl
              have d1 := hc3 1 (.int .i64 r2) rfl
              have e0 := hc4 0 (.int .i64 r1) rfl
              have e1 := hc4 1 (.int .i64 r2) rfl
              simp only [← Nat.add_assoc, Nat.add_zero] at d0 d1 e0 e1
              clear hc3 hc4 hr0
              go_upto_region 23 with fail
              go_quiet (fail)
              go_wp2_with fail
              exact ⟨⟨z + 1, hzt, by simp, Lib.hid (HZ.out.drewN _)⟩, by simp only [intOf]; omega⟩
            · have hze : z = nl := by omega
              subst hze
              go_wp2_with fail
              go_ret
              exact ⟨rfl, F8.out.trans HZ.out⟩
set_option maxHeartbeats 2000000 in
set_option maxRecDepth 20000 in
theorem lawSpanOrder (w : World) (A : Option Addr) (len cap : Nat) (zs : Nat → Nat → Int) (hz : RecsIn .i64 3 w A len cap zs) (m : Int) (wm : (Lit.int .u8 m).wf = true) :
    Calls Try.prog 3 #[.slice A len cap, .int .u8 m] w fun e w' => e = .returned (.bool true) ∧ Below w.heap.size w w' := by
  show Calls _ _ _ _ fun e w' => e = .returned (.bool true) ∧ Fine w w'
  have hcap := hz.1
  have hmax := hz.2.1
  unfold maxLen at hmax
  obtain ⟨acts, hn, hr, hb⟩ := acts_rs hz
  by_cases h : 0 < len ∧ len ≤ 60
  · exact spanOrder_main w A len cap h.1 h.2 acts hn hr hb m (bounds_u8 wm)
  · clear hz hr hb hn wm
    have h2 : len = 0 ∨ 60 < len := by omega
    rcases h2 with rfl | h2
    · go_enter Try.func3, Try.ntmps3
      go_wp2_with fail
      refine (wakes_any w).mono ?_
      rintro r w1 ⟨rfl, f1⟩
      have F1 := Lib.hid f1
      clear f1
      go_wp2_with fail
      go_ret
      exact ⟨rfl, F1.out⟩
    · have h3 : ((len : Int) == 0) = false := by simp; omega
      have h4 : (len : Int) > 60 := by omega
      go_enter Try.func3, Try.ntmps3
      go_wp2_with fail
      refine (wakes_any w).mono ?_
      rintro r w1 ⟨rfl, f1⟩
      have F1 := Lib.hid f1
      clear f1
      go_wp2_with fail
      go_ret
      exact ⟨rfl, F1.out⟩
end Go.Proofs.Ytnigfdldfmiaiaa
