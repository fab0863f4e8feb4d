/- Same; the law DrecvFirst. -/
import Derived.Test.YtnigfdldfmiaiaaDrv7
namespace Go.Proofs.Ytnigfdldfmiaiaa
open Go.ChangeShapes Go.WideShapes Go.ChangeAt Go.RowKit Go.Maps
set_option linter.unusedVariables false
set_option linter.unusedSimpArgs false
theorem ints_rs {w : World} {A : Option Addr} {len cap : Nat} {zs : List Int} (h : IntsIn .u8 w A len cap zs) : zs.length = len ∧ RS layB w A cap zs ∧ ∀ x ∈ zs, 0 ≤ x ∧ x ≤ 255 := by
  obtain ⟨h1, h2, h3, h4, h5, h6⟩ := h
  refine ⟨h3, ⟨by omega, h2, fun e => (h4 e).2, fun hp => ?_⟩, fun x hx => bounds_u8 (h5 x hx)⟩
  obtain ⟨b, off, e, hb, hc⟩ := h6 (by omega)
  refine ⟨b, off, e, hb, fun i v hv => ?_⟩
  rw [flatI] at hv
  have hi : i < zs.length := by have := (List.getElem?_eq_some_iff.1 hv).1; simpa using this
  rw [hc i (by omega)]
  simp [List.getElem?_eq_getElem hi] at hv
  rw [← hv]
  simp [List.getD, hi]
theorem run_mid {α : Type} {P : Program} {t e : TypeId} {n bytes : Nat} {E : Lay α n} (T : SliceTy P t e n bytes) (A : Option Addr) (len c i j : Nat) (hij : i ≤ j) (hj : j ≤ len) (hlc : len ≤ c) :
    ∃ A', (∀ w, (Instr.sliceAt t (.slice A len c) (some (.int .i64 (i : Int))) (some (.int .i64 (j : Int))) none).run P w = .ok (.slice A' (j - i) (c - i)) w) ∧ ∀ w (xs : List α), xs.length = len → RS E w A c xs → RS E w A' (c - i) ((xs.drop i).take (j - i)) := by
  obtain ⟨i', hi', hz⟩ := Option.map_eq_some_iff.1 T.size
  refine ⟨if c = i then A else A.map (·.add (i * n)), fun w => ?_, fun w xs hx h => ?_⟩
  · simp only [Instr.sliceAt, Instr.slice, Sem.run_bind, run_underlying T.ht, Result.andThen_ok, Instr.sliceBounds, Sem.run_pure]
    rw [run_sliceBound (w := w) .i64 j c _ (by omega) (by omega)]
    simp only [Result.andThen_ok, Int.toNat_natCast]
    rw [run_sliceBound (w := w) .i64 i j _ (by omega) (by omega)]
    simp [sizeOf, typeInfo, hi', hz, Result.andThen]
  · refine (h.behind i (by omega) _ (fun b off e hlt => ?_) (fun e => ?_)).front (j - i) (by rw [List.length_drop]; omega)
    · rw [if_neg (by omega), e]
      simp [Addr.add]
    · by_cases hc : c = i
      · exact hc
      · rw [if_neg hc] at e
        have h0 : A = none := by cases A with
          | none => rfl
          | some a => cases e
        have := h.2.2.1 h0
        omega
theorem infoU8 : (Try.prog.info? 5).map (fun i => (i.zero, i.size, i.bytes)) = some (some (.int .u8 0), 1, 1) := by kernel_rfl
set_option maxRecDepth 20000 in
theorem wpList_makeU8 {w : World} {ops : Array Oper} {rest : List Oper} {o : Oper} {a : Act} {Q : Exit → Act → World → Prop} (hgd : o.guard = none) (l c : Operand) (hop : o.op = Op.makeSlice 46 l c)
    (n : Nat) (hn : n ≤ 1000000) (L C : Int) (hl : a.eval l = .int .i64 L) (hc : a.eval c = .int .i64 C) (hL : L = (n : Int)) (hC : C = (n : Int))
    (h : ∀ w', Blk w' w.heap.size 5 ((List.replicate n (0 : Int)).map (Value.int .u8)).toArray → Fine w w' → wpList Try.prog ops Q rest (a.put o.dst (.slice (some ⟨w.heap.size, 0, none⟩) n n)) w') : wpList Try.prog ops Q (o :: rest) a w := by
  obtain ⟨i, hi, hz0, hz1, hz2⟩ := info_parts infoU8
  refine wpList_make_full w hgd l c 46 hop w.heap.size 5 i _ 1 Try.underlying46 hi hz0 hz1 .i64 .i64 L C n hl hc hL hC (by rw [hz2]; omega) (by unfold maxLen; omega) (Nat.le_refl _) fun w' hown hg => h w' ?_ ((Fine.refl w).grown hg (fun k hk => by cases hk))
  obtain ⟨_, hv⟩ := hown
  rcases hv with ⟨h1, _⟩ | ⟨g, cap, cur, h1, _, hh, _, _, hcs, ht⟩
  · cases h1
  · injection h1 with h1 _ h3
    injection h1 with h1
    injection h1 with h1 _
    subst h1 h3
    unfold Blk
    rw [hh]
    congr 2
    apply Array.toList_inj.1
    rw [List.take_of_length_le (by simp [hcs])] at ht
    rw [ht]
    simp [Value.cells, toList_madeCells_one]
set_option maxHeartbeats 1000000 in
set_option maxRecDepth 20000 in
theorem same_any (A B : Option Addr) (c d n m : Nat) (xs ys : List Int) (hn : xs.length = n) (hm : ys.length = m) (w : World) (hx : RS layB w A c xs) (hy : RS layB w B d ys) :
    Calls Try.prog 35 #[.slice A n c, .slice B m d] w fun r w' => r = .returned (.bool (decide (xs = ys))) ∧ Fine w w' := by
  have HX := Lib.hid hx; have HY := Lib.hid hy; have HN := Lib.hid hn; have HM := Lib.hid hm
  have hmx : n ≤ 9223372036854775807 := by have := hx.1; have := hx.2.1; unfold maxLen at this; omega
  clear hx hy hn hm
  by_cases hnm : n = m
  · subst hnm
    go_enter Try.func35, Try.ntmps35
    go_wp2_with fail
    go_loopw [5] (fun s5 wr => ∃ i : Nat, i ≤ n ∧ s5 = .int .i64 i ∧ Hid (Fine w wr ∧ ∀ j, j < i → xs.getD j 0 = ys.getD j 0)) (fun s5 _ => n - (intOf s5).toNat)
    case atStart => exact ⟨0, Nat.zero_le _, rfl, Lib.hid ⟨Fine.refl _, fun j hj => absurd hj (by omega)⟩⟩
    case round =>
      obtain ⟨i, hi, rfl, HI⟩ := hrel
      by_cases hlt : i < n
      · obtain ⟨b1, o1, rfl, _, c1⟩ := (HX.out.fine HI.out.1).atI (i := i) (by rw [HN.out]; exact hlt)
        obtain ⟨b2, o2, rfl, _, c2⟩ := (HY.out.fine HI.out.1).atI (i := i) (by rw [HM.out]; exact hlt)
        obtain ⟨x, hx⟩ : ∃ x, xs.getD i 0 = x := ⟨_, rfl⟩
        obtain ⟨y, hy⟩ : ∃ x, ys.getD i 0 = x := ⟨_, rfl⟩
        rw [hx] at c1
        rw [hy] at c2
        have HXX := Lib.hid hx; have HYY := Lib.hid hy
        clear hx hy
        by_cases hxy : x = y
        · have HXY := Lib.hid hxy
          have g1 : (x != y) = false := by simpa using hxy
          clear hxy
          go_upto_region 6 with fail
          go_quiet (fail)
          go_wp2_with fail
          refine ⟨⟨i + 1, hlt, by simp, Lib.hid ⟨HI.out.1.drewN _, fun j hj => ?_⟩⟩, by simp only [intOf]; omega⟩
          by_cases e : j = i
          · subst e; rw [HXX.out, HYY.out, HXY.out]
          · exact HI.out.2 j (by omega)
        · have g1 : (x != y) = true := by simpa using hxy
          have HXY := Lib.hid hxy
          clear hxy
          go_upto_region 6 with fail
          go_quiet (fail)
          go_wp2_with fail
          go_ret
          exact ⟨by rw [decide_eq_false (fun e => HXY.out (by rw [← HXX.out, ← HYY.out, e]))]; rfl, HI.out.1.drewN _⟩
      · have hie : i = n := by omega
        subst hie
        go_wp2_with fail
        go_ret
        refine ⟨?_, HI.out.1⟩
        have : xs = ys := List.ext_getElem (by rw [HN.out, HM.out]) (fun j h1 h2 => by
          have := HI.out.2 j (by rw [← HN.out]; exact h1)
          simpa [List.getD, h1, h2] using this)
        rw [decide_eq_true this]
        rfl
  · have g1 : ((n : Int) != (m : Int)) = true := by simp; omega
    have g2 : ¬ (n : Int) = (m : Int) := by omega
    go_enter Try.func35, Try.ntmps35
    go_wp2_with fail
    go_ret
    exact ⟨by rw [decide_eq_false (fun e => hnm (by rw [← HN.out, ← HM.out, e]))]; rfl, Fine.refl w⟩
theorem put_keep {In : Int → Bool} {B : Int → Int} {rd nx e dsn : Int} {bs : List Int} {m : Int} (h : In m = true) : putI In rd nx e dsn bs.length m = true ∧ putV In rd nx e dsn bs B m = B m := by
  have ht : tkB In rd nx e m = false := by unfold tkB; rw [h]; simp
  unfold putI putV
  rw [h, ht]
  exact ⟨rfl, rfl⟩
theorem put_take {In : Int → Bool} {B : Int → Int} {rd nx e dsn : Int} {bs : List Int} {m : Int} (h1 : nx ≤ m) (h2 : m < rd + 33) (h3 : e = 0 ∨ m < e) (h4 : In m = false) (h5 : dsn ≤ m) (h6 : m < dsn + bs.length) : putI In rd nx e dsn bs.length m = true ∧ putV In rd nx e dsn bs B m = bs.getD (m - dsn).toNat 0 := by
  have ht : tkB In rd nx e m = true := tkB_iff.mpr ⟨h1, h2, h3, h4⟩
  have hr : (decide (dsn ≤ m) && decide (m < dsn + bs.length)) = true := by simp; omega
  unfold putI putV
  rw [h4, ht, hr]
  exact ⟨rfl, rfl⟩
set_option maxHeartbeats 4000000 in
set_option maxRecDepth 20000 in
theorem drecvFirst_main (w : World) (A : Option Addr) (la ca : Nat) (xs : List Int) (hla : 0 < la ∧ la ≤ 20) (hxn : xs.length = la) (hxr : RS layB w A ca xs) (hxb : ∀ x ∈ xs, 0 ≤ x ∧ x ≤ 255) (Bb : Option Addr) (lb cb : Nat) (ys : List Int) (hlb : lb ≤ 20) (hyn : ys.length = lb) (hyr : RS layB w Bb cb ys) (hyb : ∀ x ∈ ys, 0 ≤ x ∧ x ≤ 255) (m : Int) (hm : 0 ≤ m ∧ m ≤ 255) :
    Calls Try.prog 8 #[.slice A la ca, .slice Bb lb cb, .int .u8 m] w fun r w' => r = .returned (.bool true) ∧ Fine w w' := by
  have HXR := Lib.hid hxr; have HXN := Lib.hid hxn; have HXB := Lib.hid hxb; have HYR := Lib.hid hyr; have HYN := Lib.hid hyn; have HYB := Lib.hid hyb
  have hXA : ∀ b o, A = some ⟨b, o, none⟩ → b < w.heap.size := fun b o e => by
    obtain ⟨b', o', e', h, _⟩ := hxr.2.2.2 (by omega)
    rw [e] at e'; injection e' with e'; injection e' with e' _ _; omega
  have HXA := Lib.hid hXA
  obtain ⟨f0, hf0⟩ : ∃ k : Nat, m.tmod 10 = (k : Int) := ⟨(m.tmod 10).toNat, by have := Int.tmod_nonneg 10 hm.1; omega⟩
  have hfb : f0 < 10 := by have := Int.tmod_lt_of_pos m (b := 10) (by omega); omega
  obtain ⟨frm, hfrm⟩ : ∃ z : Int, 1 + (f0 : Int) = z := ⟨_, rfl⟩
  have em : IntKind.i64.wrap m = m := IntWalk.i64_in _ (by omega)
  have ef : IntKind.i64.wrap (1 + (f0 : Int)) = frm := by rw [hfrm]; exact IntWalk.i64_in _ (by omega)
  have hg1 : ¬ (la : Int) > 20 := by omega
  have hg2 : ¬ (lb : Int) > 20 := by omega
  have hg3 : ((la : Int) == 0) = false := by simp; omega
  have hfr : 1 ≤ frm ∧ frm ≤ 10 := by omega
  have HFRM := Lib.hid hfrm
  clear hxr hxn hxb hyr hyn hyb hXA hfrm
  go_enter Try.func8, Try.ntmps8
  go_wp2_with fail
  refine (drecvWakes_any w).mono ?_
  rintro r w1 ⟨rfl, f1⟩
  have F1 := Lib.hid f1
  clear f1
  go_wp2_with fail
  refine (rnewv_any w1).mono ?_
  rintro r w2 ⟨g, rfl, h2, f2⟩
  have H2 := Lib.hid h2; have F2 := Lib.hid (F1.out.trans f2)
  have hs12 := F1.out.size
  clear h2 f2
  have hlx : xs.length = la := HXN.out
  go_wp2_with fail
  refine (sput_any frm (by omega) xs la ca A HXN.out (by omega) HXB.out (by omega) w2 (HXR.out.fine F2.out) (fun _ b o e hf => by have := HXA.out b o e; have := hf.1; omega) H2.out).mono ?_
  rintro r w3 ⟨rfl, k3, F3, nx3, h3, hn3, hF3⟩
  generalize cntP _ _ = q3
  have f3 : Fine w w3 := F2.out.kept k3 (fun x hx hf => by have := hf.1; omega)
  have hB3 : ∀ x, F3 x → w.heap.size ≤ x := fun x hx => by
    rcases hF3 x hx with h | h
    · have := h.1; omega
    · exact Nat.le_trans F2.out.size h
  have hI3 : ∀ m, frm ≤ m → m < frm + la → putI (fun _ => false) 0 1 0 frm xs.length m = true ∧ putV (fun _ => false) 0 1 0 frm xs (fun _ => 0) m = xs.getD (m - frm).toNat 0 := fun m a b => put_take (by omega) (by omega) (.inl rfl) rfl a (by omega)
  have H3 := Lib.hid h3; have FW3 := Lib.hid f3; have HB3 := Lib.hid hB3; have HI3 := Lib.hid hI3
  clear h3 f3 hB3 hI3 k3 hF3 hn3 hlx
  go_wp2_with fail
  go_loopw [36] (fun s36 wr => ∃ k : Nat, k ≤ 12 ∧ s36 = .int .i64 k ∧ Hid (∃ F In B nx mz, RcS F wr g In B 0 nx 0 mz ∧ (∀ m, frm ≤ m → m < frm + la → In m = true ∧ B m = xs.getD (m - frm).toNat 0) ∧ mz ≤ 20 + 20 * k ∧ (∀ x, F x → w.heap.size ≤ x) ∧ Fine w wr)) (fun s36 _ => 12 - (intOf s36).toNat)
  case atStart => exact ⟨0, by omega, rfl, Lib.hid ⟨F3, _, _, nx3, _, H3.out, HI3.out, by rw [HXN.out]; omega, HB3.out, FW3.out⟩⟩
  case round =>
    obtain ⟨k, hk, rfl, HJ⟩ := hrel
    obtain ⟨F, In, B, nx, mz, j1, j2, j3, j4, j5⟩ := HJ.out
    have J1 := Lib.hid j1; have J2 := Lib.hid j2; have J4 := Lib.hid j4; have J5 := Lib.hid j5
    clear j1 j2 j4 j5 HJ
    by_cases hkt : k < 12
    · obtain ⟨d, hd⟩ : ∃ z, 1 + (k : Int) = z := ⟨_, rfl⟩
      have e1 : IntKind.i64.wrap (1 + (k : Int)) = d := by rw [hd]; exact IntWalk.i64_in _ (by omega)
      have hdb : 1 ≤ d ∧ d ≤ 100 := by omega
      clear hd
      go_wp2_with fail
      have hYA : 0 < lb → ∀ b o, Bb = some ⟨b, o, none⟩ → ¬ F b := fun h0 b o e hf => by
        obtain ⟨b', o', e', h, _⟩ := HYR.out.2.2.2 (by rw [HYN.out]; exact h0)
        rw [e] at e'; injection e' with e'; injection e' with e' _ _
        have := J4.out b hf
        omega
      refine (sput_any d (by omega) ys lb cb Bb HYN.out (by omega) HYB.out (by omega) wr (HYR.out.fine J5.out) hYA J1.out).mono ?_
      rintro r w4 ⟨rfl, k4, F4, nx4, h4, hn4, hF4⟩
      generalize cntP _ _ = q4
      have f4 : Fine w w4 := J5.out.kept k4 (fun x hx hf => by have := J4.out x hf; omega)
      have hB4 : ∀ x, F4 x → w.heap.size ≤ x := fun x hx => by
        rcases hF4 x hx with h | h
        · exact J4.out x h
        · exact Nat.le_trans J5.out.size h
      have H4 := Lib.hid h4; have FW4 := Lib.hid f4; have HB4 := Lib.hid hB4
      clear h4 f4 hB4 k4 hF4 hn4 hYA
      go_wp2_with fail
      refine ⟨⟨k + 1, by omega, by simp, Lib.hid ⟨F4, _, _, nx4, _, H4.out, fun m a b => ?_, by rw [HYN.out]; omega, HB4.out, FW4.out⟩⟩, by simp only [intOf]; omega⟩
      have h := J2.out m a b
      have h2 := put_keep (B := B) (rd := 0) (nx := nx) (e := 0) (dsn := d) (bs := ys) h.1
      exact ⟨h2.1, by rw [h2.2]; exact h.2⟩
    · have hke : k = 12 := by omega
      subst hke
      have e1 : IntKind.i64.wrap (frm - 1) = (f0 : Int) := by rw [show frm - 1 = (f0 : Int) by have := HFRM.out; omega]; exact IntWalk.i64_in _ (by omega)
      go_wp2_with (at_make; refine wpList_makeU8 rfl (.tmp 47) (.tmp 47) rfl f0 (by omega) _ _ rfl rfl rfl rfl ?_; intro w5 hb5 f5)
      have hx5 : w.heap.size ≤ wr.heap.size := J5.out.size
      refine (sput_any 1 (by omega) (List.replicate f0 0) f0 f0 (some ⟨wr.heap.size, 0, none⟩) (by simp) (by omega) (by intro x hx; have := (List.mem_replicate.mp hx).2; omega) (by omega) w5 (RS.ofBlk hb5 (by rw [flatI]) (by simp) (by unfold maxLen; omega)) (fun _ b o e hf => by injection e with e; injection e with e _ _; have := J1.out.lt _ hf; omega) (J1.out.fine f5)).mono ?_
      rintro r w6 ⟨rfl, k6, F6, nx6, h6, hn6, hF6⟩
      generalize cntP _ _ = q6
      have f6 : Fine w w6 := (J5.out.trans f5).kept k6 (fun x hx hf => by have := J4.out x hf; omega)
      have hall : ∀ m, 1 ≤ m → m < frm + la → putI In 0 nx 0 1 (List.replicate f0 (0 : Int)).length m = true := fun m a b => by
        by_cases hm2 : In m = true
        · unfold putI; rw [hm2]; rfl
        · have hm3 : In m = false := by simpa using hm2
          have hnx : nx ≤ m := by
            rcases Int.lt_or_le m nx with h | h
            · rw [J1.out.inv.low m a h] at hm3; cases hm3
            · exact h
          have hlt : m < frm := by
            rcases Int.lt_or_le m frm with h | h
            · exact h
            · rw [(J2.out m h b).1] at hm3; cases hm3
          exact (put_take (B := B) hnx (by omega) (.inl rfl) hm3 a (by rw [List.length_replicate]; have := HFRM.out; omega)).1
      have hnx6 : frm + la ≤ nx6 := by
        rcases Int.lt_or_le nx6 (frm + la) with h | h
        · have h1 := h6.inv.no
          have h2 := h6.inv.rn
          rw [hall nx6 (by omega) h] at h1
          cases h1
        · exact h
      have hval : ∀ m, frm ≤ m → m < frm + la → putV In 0 nx 0 1 (List.replicate f0 (0 : Int)) B m = xs.getD (m - frm).toNat 0 := fun m a b => by
        have h := J2.out m a b
        rw [(put_keep (B := B) h.1).2, h.2]
      have hb6 : nx6 ≤ 33 := h6.inv.nr
      have hB6 : ∀ x, F6 x → w.heap.size ≤ x := fun x hx => by
        rcases hF6 x hx with h | h
        · exact J4.out x h
        · exact Nat.le_trans (J5.out.trans f5).size h
      have HB6 := Lib.hid hB6
      have H6 := Lib.hid h6; have FW6 := Lib.hid f6; have HV := Lib.hid hval
      clear h6 f6 hval hall k6 hF6 hn6 hb5 f5
      go_wp2_with fail
      refine (read_any 99 (by omega) (by omega) w6 H6.out).mono ?_
      rintro r w7 ⟨v, zs, er, rd7, F7, rfl, o7, _, h7, _, k7, _, _⟩
      obtain ⟨rfl, hrd, hzs⟩ := h7 (by omega)
      have hrd2 : rd7 = nx6 - 1 := by omega
      subst hrd2
      have f7 : Fine w w7 := FW6.out.kept k7 (fun x hx hf => by
        have := HB6.out x hf
        omega)
      obtain ⟨A7, c7, rfl, rs7, _⟩ := o7.form
      obtain ⟨n7, hn7⟩ : ∃ n, zs.length = n := ⟨_, rfl⟩
      have hn7v : (n7 : Int) = nx6 - 1 := by rw [← hn7, hzs, bufL_len]; omega
      obtain ⟨j, hj⟩ : ∃ j, f0 + la = j := ⟨_, rfl⟩
      have hjn : j ≤ n7 := by have := HFRM.out; omega
      obtain ⟨A8, q8, r8⟩ := run_mid (E := layB) sliceB A7 n7 c7 f0 j (by omega) hjn (by rw [← hn7]; exact rs7.1)
      have hjf : j - f0 = la := by omega
      have rs8 := r8 w7 zs hn7 rs7
      have heq : (zs.drop f0).take (j - f0) = xs := by
        rw [hjf]
        apply List.ext_getElem
        · rw [List.length_take, List.length_drop, hn7, HXN.out]; omega
        · intro i h1 h2
          have hi : i < la := by rw [HXN.out] at h2; exact h2
          have hz : zs[f0 + i]'(by rw [hn7]; omega) = putV In 0 nx 0 1 (List.replicate f0 (0 : Int)) B (frm + i) := by
            subst hzs
            simp only [bufL, List.getElem_map, List.getElem_range]
            congr 1
            have := HFRM.out
            omega
          rw [List.getElem_take, List.getElem_drop, hz, HV.out (frm + i) (by omega) (by omega)]
          rw [show (frm + (i : Int) - frm).toNat = i by omega]
          simp [List.getD, h2]
      rw [heq] at rs8
      rw [hjf] at q8
      rw [hn7]
      have e9 : IntKind.i64.wrap ((f0 : Int) + (la : Int)) = (j : Int) := by rw [show (f0 : Int) + (la : Int) = (j : Int) by omega]; exact IntWalk.i64_in _ (by omega)
      have g9 : (n7 : Int) ≥ (j : Int) := by omega
      have g10 : decide (j ≤ n7) = true := decide_eq_true hjn
      obtain ⟨c8, hc8⟩ : ∃ c, c7 - f0 = c := ⟨_, rfl⟩
      rw [hc8] at q8 rs8
      have RS8 := Lib.hid rs8; have FW7 := Lib.hid f7
      clear h7 hrd hzs o7 rs7 r8 rs8 f7 hn7 hn7v hj hjf heq hc8 k7 hB6
      go_wp2_with fail
      refine (same_any A8 A c8 ca la la xs xs HXN.out HXN.out w7 RS8.out (HXR.out.fine FW7.out)).mono ?_
      rintro r w8 ⟨rfl, f8⟩
      rw [decide_eq_true (rfl : xs = xs)]
      have FW8 := Lib.hid (FW7.out.trans f8)
      clear f8
      go_wp2_with fail
      go_ret
      exact ⟨rfl, FW8.out⟩
set_option maxHeartbeats 2000000 in
set_option maxRecDepth 20000 in
theorem lawDrecvFirst (w : World) (A : Option Addr) (la ca : Nat) (xs : List Int) (hx : IntsIn .u8 w A la ca xs) (Bb : Option Addr) (lb cb : Nat) (ys : List Int) (hy : IntsIn .u8 w Bb lb cb ys) (m : Int) (wm : (Lit.int .u8 m).wf = true) :
    Calls Try.prog 8 #[.slice A la ca, .slice Bb lb cb, .int .u8 m] w fun e w' => e = .returned (.bool true) ∧ Below w.heap.size w w' := by
  show Calls _ _ _ _ fun e w' => e = .returned (.bool true) ∧ Fine w w'
  obtain ⟨hxn, hxr, hxb⟩ := ints_rs hx
  obtain ⟨hyn, hyr, hyb⟩ := ints_rs hy
  by_cases h : (0 < la ∧ la ≤ 20) ∧ lb ≤ 20
  · exact drecvFirst_main w A la ca xs h.1 hxn hxr hxb Bb lb cb ys h.2 hyn hyr hyb m (bounds_u8 wm)
  · have key : ∀ K : Prop, (20 < la → K) → (la ≤ 20 → 20 < lb → K) → (la ≤ 20 → lb ≤ 20 → la = 0 → K) → K := fun K a b c => by
      by_cases h1 : 20 < la
      · exact a h1
      · by_cases h2 : 20 < lb
        · exact b (by omega) h2
        · exact c (by omega) (by omega) (by omega)
    have KEY := Lib.hid key
    clear hx hy hxn hxr hxb hyn hyr hyb wm h key
    refine KEY.out _ (fun q1 => ?_) (fun q1 q2 => ?_) (fun q1 q2 q3 => ?_)
    · have g1 : (la : Int) > 20 := by omega
      clear KEY
      go_enter Try.func8, Try.ntmps8
      go_wp2_with fail
      refine (drecvWakes_any w).mono ?_
      rintro r w1 ⟨rfl, f1⟩
      have F1 := Lib.hid f1
      clear f1
      go_wp2_with fail
      go_ret
      exact ⟨rfl, F1.out⟩
    · have g1 : ¬ (la : Int) > 20 := by omega
      have g2 : (lb : Int) > 20 := by omega
      clear KEY
      go_enter Try.func8, Try.ntmps8
      go_wp2_with fail
      refine (drecvWakes_any w).mono ?_
      rintro r w1 ⟨rfl, f1⟩
      have F1 := Lib.hid f1
      clear f1
      go_wp2_with fail
      go_ret
      exact ⟨rfl, F1.out⟩
    · subst q3
      have g2 : ¬ (lb : Int) > 20 := by omega
      clear KEY
      go_enter Try.func8, Try.ntmps8
      go_wp2_with fail
      refine (drecvWakes_any w).mono ?_
      rintro r w1 ⟨rfl, f1⟩
      have F1 := Lib.hid f1
      clear f1
      go_wp2_with fail
      go_ret
      exact ⟨rfl, F1.out⟩
end Go.Proofs.Ytnigfdldfmiaiaa
