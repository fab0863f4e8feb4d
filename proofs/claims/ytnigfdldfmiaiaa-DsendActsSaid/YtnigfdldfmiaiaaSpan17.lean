/- Contracts: slices.DeleteFunc, where something goes. -/
import Derived.Test.YtnigfdldfmiaiaaSpan16
namespace Go.Proofs.Ytnigfdldfmiaiaa
open Go.ChangeShapes Go.WideShapes Go.ChangeAt Go.RowKit
set_option linter.unusedVariables false
set_option linter.unusedSimpArgs false
set_option maxHeartbeats 4000000 in
set_option maxRecDepth 20000 in
theorem delete_some (base g c n : Nat) (l : List Rn) (hn : l.length = n) (hnb : n ≤ 4294967296) (hT : Tidy l) (b : Int) (hd : ∃ x, l[0]? = some x ∧ dropB b x = true) (xb : Nat) (hxg : xb ≠ g) (w : World) (hb : Blk w xb 3 #[.int .i64 b]) (h : Own layR 32 w base (.slice (some ⟨g, 0, none⟩) n c) l) :
    Calls Try.prog 76 #[.slice (some ⟨g, 0, none⟩) n c, .func (.func 77) #[] #[.pointer (some ⟨xb, 0, none⟩)]] w (RowOf base (keepB b l).length (.slice (some ⟨g, 0, none⟩) n c) (keepB b l) w) := by
  have HI := Lib.hid (indexFunc_any (some ⟨g, 0, none⟩) n c l hn hnb hT b xb w hb h.rs.1)
  have H := Lib.hid h; have HD := Lib.hid hd; have HT := Lib.hid hT; have HB := Lib.hid hb; have HN := Lib.hid hn
  obtain ⟨m, hm⟩ : ∃ m, (keepB b l).length = m := ⟨_, rfl⟩
  have HM := Lib.hid hm
  rw [hm]
  obtain ⟨L, hL⟩ : ∃ L, keepB b l = L := ⟨_, rfl⟩
  have HL := Lib.hid hL
  rw [hL]
  have hn0 : 0 < n := by
    obtain ⟨x, hx, _⟩ := hd
    have := (List.getElem?_eq_some_iff.mp hx).1
    omega
  clear h hb hn hT hd hm hL
  go_enter Try.func76, Try.ntmps76
  go_wp2_with fail
  refine HI.out.mono ?_
  rintro e w1 ⟨f1, hk⟩
  rcases hk with ⟨k, hkn, rfl, hkb, x, hx, hxd⟩ | ⟨rfl, hno⟩
  · have hk0 : k = 0 := first_drop HT.out hx hxd hkb
    subst hk0
    have F1 := Lib.hid f1
    have HX : Hid (l[0]? = some x ∧ dropB b x = true) := Lib.hid ⟨hx, hxd⟩
    clear f1 hkb hx hxd HI
    go_wp2_with fail
    go_loopw [5, 6] (fun s5 s6 wr => ∃ (i j : Nat), i < j ∧ j ≤ n ∧ s5 = .int .i64 i ∧ s6 = .int .i64 j ∧ Hid (∃ cs : List Rn, cs.length = n ∧ Own layR 32 wr base (.slice (some ⟨g, 0, none⟩) n c) cs ∧ cs.take i = keepB b (l.take j) ∧ cs.drop j = l.drop j ∧ Kept (· = g) w wr)) (fun _ s6 _ => n - (intOf s6).toNat)
    case atStart => exact ⟨0, 1, by omega, by omega, rfl, rfl, Lib.hid ⟨l, HN.out, H.out.fine F1.out, by
      have e := keepB_take (b := b) HX.out.1
      rw [HX.out.2] at e
      simpa [keepB] using e.symm, rfl, Kept.of_fine F1.out⟩⟩
    case round =>
      obtain ⟨i, j, hij, hj, rfl, rfl, HC⟩ := hrel
      obtain ⟨cs, i1, i2, i3, i4, i5⟩ := HC.out
      have I1 := Lib.hid i1; have I2 := Lib.hid i2; have I3 := Lib.hid i3; have I4 := Lib.hid i4; have I5 := Lib.hid i5
      clear i1 i2 i3 i4 i5 HC
      by_cases hlt : j < n
      · obtain ⟨r, hr0⟩ : ∃ r, l[j]? = some r := ⟨_, List.getElem?_eq_getElem (by have := HN.out; omega)⟩
        have hcj : cs[j]? = some r := by
          have h1 : (cs.drop j)[0]? = (l.drop j)[0]? := by rw [I4.out]
          simpa [List.getElem?_drop, hr0] using h1
        have hok := HT.out.okAt hr0
        have HKT := Lib.hid (keepB_take (b := b) hr0)
        have H0 := Lib.hid hr0
        have HDR : Hid (cs.drop (j + 1) = l.drop (j + 1)) := Lib.hid (by
          have h1 : (cs.drop j).drop 1 = (l.drop j).drop 1 := by rw [I4.out]
          simpa [List.drop_drop] using h1)
        obtain ⟨bb, o, hbo, _, hc⟩ := I2.out.rs.1.at_ hcj
        injection hbo with hbo
        injection hbo with e1 e2 e3
        subst e1 e2
        obtain ⟨r1, r2⟩ := r
        have d0 := hc 0 (.int .i64 r1) rfl
        have d1 := hc 1 (.int .i64 r2) rfl
        simp only [← Nat.add_assoc, Nat.add_zero, Nat.zero_add] at d0 d1
        obtain ⟨s, hs⟩ : ∃ s, r1 + r2 = s := ⟨_, rfl⟩
        have hs2 : rto (r1, r2) = s := hs
        have HS2 := Lib.hid hs2
        rw [hs2] at hok
        have hsb : -9223372036854775808 ≤ s ∧ s ≤ 9223372036854775807 := by have := hok; dsimp only at this; omega
        clear hc hr0 hcj hok hs2 e3
        go_wp2_with fail
        obtain ⟨xr, hxr⟩ : ∃ x, wr.heap.size = x := ⟨_, rfl⟩
        have f2 := (Fine.refl wr).alloc (.cells #[.int .i64 r1, .int .i64 r2] 32)
        have br := Blk.newAt (w := wr) (t := 32) (cs := #[.int .i64 r1, .int .i64 r2]) hxr.symm
        have bx := (HB.out.kept I5.out hxg).fine f2
        have hgx : g < xr := hxr ▸ Nat.lt_of_lt_of_le (H.out.from_ g 0 rfl).2 I5.out.size
        refine (dropT_any r1 r2 s b hs hsb xb _ bx).mono ?_
        rintro e w2 ⟨rfl, f3⟩
        have F2 := Lib.hid (f2.trans f3)
        have BR := Lib.hid (br.fine f3)
        clear f2 f3 br bx
        obtain ⟨q, hq⟩ : ∃ q, decide (s ≤ b) = q := ⟨_, rfl⟩
        have HDB : Hid (dropB b (r1, r2) = q) := Lib.hid (by unfold dropB; rw [HS2.out]; exact hq)
        rw [hq]
        clear hq
        cases q
        rotate_left
        · go_wp2_with fail
          refine ⟨⟨i, j + 1, by omega, hlt, rfl, by simp, Lib.hid ⟨cs, I1.out, I2.out.fine F2.out, by rw [HKT.out, HDB.out, I3.out]; simp, HDR.out, I5.out.trans (Kept.of_fine F2.out)⟩⟩, by simp only [intOf]; omega⟩
        · obtain ⟨y, hy⟩ : ∃ y, cs[i]? = some y := ⟨_, List.getElem?_eq_getElem (by have := I1.out; omega)⟩
          have HY := Lib.hid hy
          have O2 := Lib.hid (I2.out.fine F2.out)
          obtain ⟨bb, o, hbo, _, hc⟩ := O2.out.rs.1.at_ hy
          injection hbo with hbo
          injection hbo with e1 e2 e3
          subst e1 e2
          obtain ⟨y1, y2⟩ := y
          have g0 := hc 0 (.int .i64 y1) rfl
          have g1 := hc 1 (.int .i64 y2) rfl
          simp only [← Nat.add_assoc, Nat.add_zero, Nat.zero_add] at g0 g1
          have z0 := O2.out.frozen (i * 2)
          have z1 := O2.out.frozen (i * 2 + 1)
          have p0 : w2.cell? ⟨xr, 0, none⟩ = some (.int .i64 r1) := BR.out.cell 0
          have p1 : w2.cell? ⟨xr, 1, none⟩ = some (.int .i64 r2) := BR.out.cell 1
          clear hc hy e3
          go_wp2_with fail
          have s1 := O2.out.stored (i := i) (j := 0) (x := (y1, y2)) (y := (r1, y2)) HY.out (by omega) (u := .int .i64 r1) rfl
          have s2 := s1.stored (i := i) (j := 1) (x := (r1, y2)) (y := (r1, r2)) (by rw [List.getElem?_set_self (by have := I1.out; omega)]) (by omega) (u := .int .i64 r2) rfl
          rw [List.set_set] at s2
          have k2 : Kept (· = g) w ((w2.setCell ⟨g, i * 2, none⟩ (.int .i64 r1)).setCell ⟨g, i * 2 + 1, none⟩ (.int .i64 r2)) := ((I5.out.trans (Kept.of_fine F2.out)).setIn (p := ⟨g, i * 2, none⟩) rfl _).setIn (p := ⟨g, i * 2 + 1, none⟩) rfl _
          refine ⟨⟨i + 1, j + 1, by omega, hlt, by simp, by simp, Lib.hid ⟨cs.set i (r1, r2), by rw [List.length_set]; exact I1.out, s2, ?_, by rw [List.drop_set_of_lt (by omega)]; exact HDR.out, k2⟩⟩, by simp only [intOf]; omega⟩
          rw [HKT.out, HDB.out, ← I3.out, List.take_add_one, List.getElem?_set_self (by have := I1.out; omega), List.take_set_of_le (Nat.le_refl _)]
          rfl
      · have hje : j = n := by omega
        have e1 : cs.take i = L := by rw [I3.out, hje, ← HN.out, List.take_length]; exact HL.out
        have him : i = m := by
          rw [← HM.out, HL.out, ← e1, List.length_take, I1.out]
          omega
        obtain ⟨g', cap', cur, e2, hbg, hbk, hle, hmax, hcs, htk⟩ := I2.out.block (by rw [I1.out]; omega)
        injection e2 with e2 e3 e4
        injection e2 with e2
        injection e2 with e2 _ _
        subst e2 e4
        rw [I1.out] at hle htk
        obtain ⟨p, hp, q1⟩ := cutB' sliceR g n c i (i : Int) rfl (by omega) hle
        have q2 := cutF sliceR g n c i (i : Int) rfl (by omega)
        have hLl : cur.toList.length = c * 2 := by rw [Array.length_toList]; exact hcs
        have hnc : n * 2 ≤ c * 2 := Nat.mul_le_mul_right 2 hle
        obtain ⟨wc, zs, hr3, hz, bc, kc⟩ := run_clearM (n := 2) Try.underlying29 _ zeroR rfl zeroOne hbk p (n - i) (by rw [hcs]; omega)
        have ha : cur.toList.take (i * 2) = layR.flat L := by
          rw [← e1, ← layR.flat_take, ← htk, List.take_take, Nat.min_eq_left (by omega)]
        have hll : L.length = i := by rw [← HL.out, HM.out, him]
        have ho : Own layR 32 wc base (.slice (some ⟨g, 0, none⟩) L.length c) L := Own.make hbg bc (by omega) hmax (by
          rw [List.size_toArray, List.length_append, List.length_append, List.length_take, List.length_drop, hz, hLl]
          omega) (by
          rw [List.toList_toArray, hll]
          rcases hp with ⟨_, rfl⟩ | ⟨h1, rfl⟩
          · rw [List.append_assoc, List.take_left' (by rw [List.length_take, hLl]; omega)]
            exact ha
          · omega)
        rw [hll] at ho
        have HO := Lib.hid ho
        have HK : Hid (Kept (fun k => (Value.slice (some ⟨g, 0, none⟩) n c).ownBlock = some k) w wc) := Lib.hid ((I5.out.trans kc).mono (fun x _ e => by rw [e]; rfl))
        subst him
        clear ho kc bc hz ha hLl hnc hcs hmax hle htk hbk hbg hp e1 e3 hll
        subst hje
        go_wp2_with fail
        go_ret
        exact ⟨some ⟨g, 0, none⟩, c, rfl, HO.out, HK.out, .inl rfl⟩
  · exfalso
    obtain ⟨x, hx, hxd⟩ := HD.out
    rw [hno x (List.mem_of_getElem? hx)] at hxd
    cases hxd
end Go.Proofs.Ytnigfdldfmiaiaa
