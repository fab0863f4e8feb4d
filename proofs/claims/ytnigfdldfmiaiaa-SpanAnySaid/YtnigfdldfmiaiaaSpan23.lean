/- The law SpanAny. -/
import Derived.Test.YtnigfdldfmiaiaaSpan21
import Derived.Test.YtnigfdldfmiaiaaSpan22
namespace Go.Proofs.Ytnigfdldfmiaiaa
open Go.ChangeShapes Go.WideShapes Go.ChangeAt Go.RowKit
set_option linter.unusedVariables false
set_option linter.unusedSimpArgs false
theorem held_has {f b : Int} (h0 : 0 ≤ f) (h1 : f < 4294967296) (h2 : 0 < b) : hasR (heldR f b) f = true := by
  unfold heldR
  rw [if_neg (by omega), if_neg (by omega), hasR_iff]
  unfold rto
  dsimp only
  omega
theorem tidy_bnds {l : List Rn} (h : Tidy l) : ∀ r ∈ l, (-9223372036854775808 ≤ r.1 ∧ r.1 ≤ 9223372036854775807) ∧ (-9223372036854775808 ≤ r.2 ∧ r.2 ≤ 9223372036854775807) := fun r hr => by
  have := h.ok r hr
  unfold rto at this
  omega
set_option maxHeartbeats 4000000 in
set_option maxRecDepth 20000 in
theorem spanAny_main (w : World) (A : Option Addr) (n cap : Nat) (hn60 : n ≤ 60) (acts : List Ac) (hn : acts.length = n) (hr : RS layA w A cap acts) (hbd : ∀ x ∈ acts, (-9223372036854775808 ≤ x.1 ∧ x.1 ≤ 9223372036854775807) ∧ (-9223372036854775808 ≤ x.2.1 ∧ x.2.1 ≤ 9223372036854775807) ∧ (-9223372036854775808 ≤ x.2.2 ∧ x.2.2 ≤ 9223372036854775807)) (m : Int) (hm : -9223372036854775808 ≤ m ∧ m ≤ 9223372036854775807) :
    Calls Try.prog 6 #[.slice A n cap, .int .i64 m] w fun r w' => r = .returned (.bool true) ∧ Fine w w' := by
  have HR := Lib.hid hr; have HB := Lib.hid hbd; have HN := Lib.hid hn
  have hz2 : ¬ (n : Int) > 60 := by omega
  clear hr hbd hn
  go_enter Try.func6, Try.ntmps6
  go_wp2_with fail
  refine (wakes_any w).mono ?_
  rintro r w1 ⟨rfl, f1⟩
  have F1 := Lib.hid f1
  clear f1
  go_wp2_with fail
  refine (new_nil w1).mono ?_
  rintro r w2 ⟨rfl, b2, f2⟩
  obtain ⟨g1, hg1⟩ : ∃ g, w1.heap.size = g := ⟨_, rfl⟩
  rw [hg1] at b2 ⊢
  have G1 := Lib.hid hg1; have B2 := Lib.hid b2; have F2 := Lib.hid (F1.out.trans f2)
  have hwg : w.heap.size ≤ g1 := by rw [← G1.out]; exact F1.out.size
  clear b2 f2 hg1
  go_wp2_with fail
  go_loopw [20] (fun s20 wr => ∃ (i : Nat), i ≤ n ∧ s20 = .int .i64 i ∧ Hid (∃ v l, Tidy l ∧ SetA w.heap.size wr g1 v l ∧ Fine w wr)) (fun s20 _ => n - (intOf s20).toNat)
  case atStart => exact ⟨0, Nat.zero_le _, rfl, Lib.hid ⟨_, [], Tidy.nil, SetA.nil B2.out, F2.out⟩⟩
  case round =>
    obtain ⟨i, hi, rfl, HI⟩ := hrel
    obtain ⟨v, l, i1, i3, i6⟩ := HI.out
    have I1 := Lib.hid i1; have I3 := Lib.hid i3; have I6 := Lib.hid i6
    clear i1 i3 i6 HI
    by_cases hlt : i < n
    · obtain ⟨r, hr0⟩ : ∃ r, acts[i]? = some r := ⟨_, List.getElem?_eq_getElem (by have := HN.out; omega)⟩
      obtain ⟨bb, o, rfl, hb, hc⟩ := (HR.out.fine I6.out).at_ hr0
      have hbd := HB.out r (List.mem_of_getElem? hr0)
      obtain ⟨r0, r1, r2⟩ := r
      have d0 := hc 0 (.int .i64 r0) rfl
      have d1 := hc 1 (.int .i64 r1) rfl
      have d2 := hc 2 (.int .i64 r2) rfl
      simp only [← Nat.add_assoc, Nat.add_zero] at d0 d1 d2
      dsimp only at hbd
      have HBD := Lib.hid hbd
      obtain ⟨xr, hxr⟩ : ∃ x, wr.heap.size = x := ⟨_, rfl⟩
      have b5 := Blk.newAt (w := wr) (t := 27) (cs := #[.int .i64 r0, .int .i64 r1, .int .i64 r2]) hxr.symm
      have f5 := (Fine.refl wr).alloc (.cells #[.int .i64 r0, .int .i64 r1, .int .i64 r2] 27)
      have s5 := I3.out.fine f5
      have hgx : g1 < xr := hxr ▸ I3.out.lt
      have hvx : ∀ x, v.ownBlock = some x → x ≠ xr := fun x hx => by have := (I3.out.own x hx).2; omega
      have HVX := Lib.hid hvx
      clear hc hr0 hbd hvx
      go_upto_region 9 with fail
      generalize wr.alloc (.cells #[.int .i64 r0, .int .i64 r1, .int .i64 r2] 27) = w5 at b5 f5 s5 ⊢
      have F5 := Lib.hid (I6.out.trans f5); have B5 := Lib.hid b5; have S5 := Lib.hid s5
      clear b5 f5 s5 hxr d0 d1 d2
      go_wp2_with fail
      refine (many_any g1 l I1.out w5 S5.out.set).mono ?_
      rintro x w6 ⟨rfl, f6⟩
      obtain ⟨was, hwas⟩ : ∃ t, total l = t := ⟨_, rfl⟩
      have hwb : 0 ≤ was ∧ was ≤ 4294967296 := by rw [← hwas]; exact ⟨total_nonneg I1.out, total_le I1.out⟩
      rw [hwas]
      have HW := Lib.hid hwas
      have F6 := Lib.hid (F5.out.trans f6); have B6 := Lib.hid (B5.out.fine f6); have S6 := Lib.hid (S5.out.fine f6)
      clear f6 hwas
      have c0 : w6.cell? ⟨xr, 0, none⟩ = some (.int .i64 r0) := B6.out.cell 0
      have c1 : w6.cell? ⟨xr, 1, none⟩ = some (.int .i64 r1) := B6.out.cell 1
      have c2 : w6.cell? ⟨xr, 2, none⟩ = some (.int .i64 r2) := B6.out.cell 2
      by_cases hk : r0 = 1
      · subst hk
        go_wp2_with fail
        refine (drop_any w.heap.size g1 v l I1.out r1 HBD.out.2.1 w6 F6.out.size S6.out).mono ?_
        rintro x w7 ⟨v7, rfl, s7, k7, h7⟩
        have DL := Lib.hid (drop_law I1.out r1)
        obtain ⟨D, hD⟩ : ∃ D, dropL l r1 = D := ⟨_, rfl⟩
        rw [hD] at s7 ⊢
        have HD := Lib.hid hD
        have TD : Hid (Tidy D) := Lib.hid (hD ▸ DL.out.1)
        obtain ⟨td, htd⟩ : ∃ t, total D = t := ⟨_, rfl⟩
        have htb : 0 ≤ td ∧ td ≤ 4294967296 := by rw [← htd]; exact ⟨total_nonneg TD.out, total_le TD.out⟩
        rw [HW.out, htd]
        have HTD := Lib.hid htd
        obtain ⟨dr, hdr⟩ : ∃ t, was - td = t := ⟨_, rfl⟩
        rw [hdr]
        have e1 : IntKind.i64.wrap (was - dr) = td := by rw [show was - dr = td by omega]; exact IntWalk.i64_in _ (by omega)
        have F7 : Hid (Fine w w7) := Lib.hid (F6.out.kept k7 (fun x hx e => by
          rcases e with e | e
          · omega
          · have := (S6.out.own x e).1; omega))
        have B7 := Lib.hid (B6.out.kept k7 (fun e => e.elim (fun e => by omega) (fun e => HVX.out _ e rfl)))
        have S7 := Lib.hid s7
        clear s7 k7 h7 hD htd hdr c0 c1 c2
        go_wp2_with fail
        refine (many_any g1 D TD.out w7 S7.out.set).mono ?_
        rintro x w8 ⟨rfl, f8⟩
        rw [HTD.out]
        have F8 := Lib.hid (F7.out.trans f8); have B8 := Lib.hid (B7.out.fine f8); have S8 := Lib.hid (S7.out.fine f8)
        have c1 : w8.cell? ⟨xr, 1, none⟩ = some (.int .i64 r1) := B8.out.cell 1
        clear f8 e1
        obtain ⟨mm, hmm⟩ : ∃ z, (if 1099511627776 < r1 then 1099511627776 else r1) = z := ⟨_, rfl⟩
        obtain ⟨mq, hmq⟩ : ∃ z, IntKind.i64.wrap (mm - 1) = z := ⟨_, rfl⟩
        have hno : Hid (inB D mq = false) := Lib.hid (by
          have hmb : mm ≤ r1 ∧ mm ≤ 1099511627776 ∧ (mm = r1 ∨ mm = 1099511627776) := by rw [← hmm]; split <;> omega
          cases e : inB D mq with
          | false => rfl
          | true =>
            exfalso
            have hbd := TD.out.bd e
            rw [← HD.out, DL.out.2 mq] at e
            rw [Bool.and_eq_true, decide_eq_true_eq] at e
            have e2 := e.2
            by_cases hmn : mm = -9223372036854775808
            · have : mq = 9223372036854775807 := by rw [← hmq, hmn]; decide
              omega
            · have : mq = mm - 1 := by rw [← hmq]; exact IntWalk.i64_in _ (by have := HBD.out.2.1; omega)
              omega)
        go_wp2_with fail
        refine (has_any g1 D TD.out mq w8 S8.out.set).mono ?_
        rintro x w9 ⟨rfl, f9⟩
        rw [hno.out]
        have F9 := Lib.hid (F8.out.trans f9); have S9 := Lib.hid (S8.out.fine f9)
        clear f9 hmm hmq c1
        go_wp2_with fail
        have hDl : D.length ≤ 8589934592 := by have := TD.out.length_le; omega
        refine (runs_any g1 D hDl w9 S9.out.set).mono ?_
        rintro x w10 ⟨v10, rfl, o10, f10⟩
        obtain ⟨A3, c3, rfl, rs3, _⟩ := o10.form
        have R3 := Lib.hid rs3
        have F10 := Lib.hid (F9.out.trans f10); have S10 := Lib.hid (S9.out.fine f10)
        clear o10 rs3 f10
        go_wp2_with fail
        refine (tidy_any A3 D.length c3 D rfl TD.out w10 R3.out).mono ?_
        rintro x w11 ⟨rfl, f11⟩
        have F11 := Lib.hid (F10.out.trans f11); have S11 := Lib.hid (S10.out.fine f11)
        clear f11
        go_wp2_with fail
        exact ⟨⟨i + 1, hlt, by simp, Lib.hid ⟨v7, D, TD.out, S11.out, F11.out⟩⟩, by simp only [intOf]; omega⟩
      · have hk2 : (r0 == 1) = false := by simpa using hk
        go_wp2_with fail
        refine (add_any w.heap.size g1 v l I1.out r1 r2 HBD.out.2.1 HBD.out.2.2 w6 F6.out.size S6.out).mono ?_
        rintro x w7 HA
        have F7 := Lib.hid (HA.fine F6.out (Nat.le_refl _) hwg S6.out)
        obtain ⟨v7, L, rfl, a1, a2, a3, a4, a5⟩ := HA
        have TL := Lib.hid a1; have A2 := Lib.hid a2; have S7 := Lib.hid a3
        have B7 := Lib.hid (B6.out.kept a4 (fun e => e.elim (fun e => by omega) (fun e => HVX.out _ e rfl)))
        have hvx7 : ∀ x, v7.ownBlock = some x → x ≠ xr := fun x hx => by
          rcases a5 with h | h
          · exact HVX.out x (h ▸ hx)
          · have h1 := h x hx
            have h2 := B6.out.lt
            omega
        have HVX7 := Lib.hid hvx7
        obtain ⟨tl, htl⟩ : ∃ t, total L = t := ⟨_, rfl⟩
        have hmono := total_mono I1.out a1 (fun m hm => by rw [a2 m, hm]; rfl)
        rw [HW.out, htl] at hmono
        have htb : tl ≤ 4294967296 := by rw [← htl]; exact total_le a1
        rw [HW.out, htl]
        have HTL := Lib.hid htl
        obtain ⟨more, hmore⟩ : ∃ t, tl - was = t := ⟨_, rfl⟩
        rw [hmore]
        have g0 : decide (more < 0) = false := by simp; omega
        have g1' : ¬ more < 0 := by omega
        have e1 : IntKind.i64.wrap (was + more) = tl := by rw [show was + more = tl by omega]; exact IntWalk.i64_in _ (by omega)
        clear a1 a2 a3 a4 a5 hvx7 hmono htl hmore c0 c1 c2
        go_wp2_with fail
        refine (many_any g1 L TL.out w7 S7.out.set).mono ?_
        rintro x w8 ⟨rfl, f8⟩
        rw [HTL.out]
        have F8 := Lib.hid (F7.out.trans f8); have B8 := Lib.hid (B7.out.fine f8); have S8 := Lib.hid (S7.out.fine f8)
        have c1 : w8.cell? ⟨xr, 1, none⟩ = some (.int .i64 r1) := B8.out.cell 1
        have c2 : w8.cell? ⟨xr, 2, none⟩ = some (.int .i64 r2) := B8.out.cell 2
        clear f8 e1 g0 g1'
        go_wp2_with fail
        refine (add_any w.heap.size g1 v7 L TL.out r1 r2 HBD.out.2.1 HBD.out.2.2 w8 F8.out.size S8.out).mono ?_
        rintro x w9 HA
        have F9 := Lib.hid (HA.fine F8.out (Nat.le_refl _) hwg S8.out)
        obtain ⟨v9, L9, rfl, a1, a2, a3, a4, a5⟩ := HA
        have hL9 : L9 = L := Tidy.uniq a1 TL.out (fun m => by rw [a2 m, A2.out m, Bool.or_assoc, Bool.or_self])
        subst hL9
        rw [Int.sub_self]
        have S9 := Lib.hid a3
        have B9 := Lib.hid (B8.out.kept a4 (fun e => e.elim (fun e => by omega) (fun e => HVX7.out _ e rfl)))
        have c1 : w9.cell? ⟨xr, 1, none⟩ = some (.int .i64 r1) := B9.out.cell 1
        have c2 : w9.cell? ⟨xr, 2, none⟩ = some (.int .i64 r2) := B9.out.cell 2
        have hLl : L9.length ≤ 8589934592 := by have := TL.out.length_le; omega
        clear a1 a2 a3 a4 a5
        by_cases hin : (0 ≤ r1 ∧ r1 < 4294967296) ∧ 0 < r2
        · obtain ⟨⟨hi0, hi1⟩, hi2⟩ := hin
          have hhas : Hid (inB L9 r1 = true) := Lib.hid (by rw [A2.out r1, held_has hi0 hi1 hi2, Bool.or_true])
          have g0 : r1 ≥ 0 := hi0
          have g1' : r2 > 0 := hi2
          go_wp2_with fail
          refine (has_any g1 L9 TL.out r1 w9 S9.out.set).mono ?_
          rintro x w10 ⟨rfl, f10⟩
          rw [hhas.out]
          have F10 := Lib.hid (F9.out.trans f10); have S10 := Lib.hid (S9.out.fine f10)
          clear f10
          go_wp2_with fail
          refine (runs_any g1 L9 hLl w10 S10.out.set).mono ?_
          rintro x w11 ⟨v11, rfl, o11, f11⟩
          obtain ⟨A3, c3, rfl, rs3, _⟩ := o11.form
          have R3 := Lib.hid rs3
          have F11 := Lib.hid (F10.out.trans f11); have S11 := Lib.hid (S10.out.fine f11)
          clear o11 rs3 f11
          go_wp2_with fail
          refine (tidy_any A3 L9.length c3 L9 rfl TL.out w11 R3.out).mono ?_
          rintro x w12 ⟨rfl, f12⟩
          have F12 := Lib.hid (F11.out.trans f12); have S12 := Lib.hid (S11.out.fine f12)
          clear f12
          go_wp2_with fail
          exact ⟨⟨i + 1, hlt, by simp, Lib.hid ⟨v9, L9, TL.out, S12.out, F12.out⟩⟩, by simp only [intOf]; omega⟩
        · have key : ∀ K : Prop, (r1 < 0 → K) → (0 ≤ r1 → 4294967296 ≤ r1 → K) → (0 ≤ r1 → r1 < 4294967296 → r2 ≤ 0 → K) → K := fun K h1 h2 h3 => by
            by_cases q1 : r1 < 0
            · exact h1 q1
            · by_cases q2 : 4294967296 ≤ r1
              · exact h2 (by omega) q2
              · exact h3 (by omega) (by omega) (by omega)
          have KEY := Lib.hid key
          clear key hin
          refine KEY.out _ (fun q1 => ?_) (fun q0 q1 => ?_) (fun q0 q1 q2 => ?_)
          all_goals (
            go_wp2_with fail
            refine (runs_any g1 L9 hLl w9 S9.out.set).mono ?_
            rintro x w11 ⟨v11, rfl, o11, f11⟩
            obtain ⟨A3, c3, rfl, rs3, _⟩ := o11.form
            have R3 := Lib.hid rs3
            have F11 := Lib.hid (F9.out.trans f11); have S11 := Lib.hid (S9.out.fine f11)
            clear o11 rs3 f11
            go_wp2_with fail
            refine (tidy_any A3 L9.length c3 L9 rfl TL.out w11 R3.out).mono ?_
            rintro x w12 ⟨rfl, f12⟩
            have F12 := Lib.hid (F11.out.trans f12); have S12 := Lib.hid (S11.out.fine f12)
            clear f12
            go_wp2_with fail
            exact ⟨⟨i + 1, hlt, by simp, Lib.hid ⟨v9, L9, TL.out, S12.out, F12.out⟩⟩, by simp only [intOf]; omega⟩)
    · have hie : i = n := by omega
      subst hie
      have hll : l.length ≤ 8589934592 := by have := I1.out.length_le; omega
      have hll2 : l.length ≤ 4294967296 := I1.out.length_le
      go_wp2_with fail
      refine (runs_any g1 l hll wr I3.out.set).mono ?_
      rintro x w3 ⟨v3, rfl, o3, f3⟩
      obtain ⟨A3, c3, rfl, rs3, from3⟩ := o3.form
      have R3 := Lib.hid rs3; have F3 := Lib.hid (I6.out.trans f3); have S3 := Lib.hid (I3.out.fine f3)
      clear o3 rs3 from3 f3
      go_wp2_with fail
      refine (new_any A3 l.length c3 l rfl hll2 (tidy_bnds I1.out) w3 R3.out).mono ?_
      rintro x w4 ⟨g4, v4, l4, rfl, hg4, t4, m4, s4, f4⟩
      have hl4 : l4 = l := Tidy.uniq t4 I1.out (fun m => by rw [m4 m]; exact any_held I1.out m)
      subst hl4
      have F4 := Lib.hid (F3.out.trans f4); have S4 := Lib.hid (S3.out.fine f4); have X4 := Lib.hid s4
      clear t4 m4 s4 f4 hg4
      go_wp2_with fail
      refine (many_any g4 l4 I1.out w4 X4.out.set).mono ?_
      rintro x w5 ⟨rfl, f5⟩
      have F5 := Lib.hid (F4.out.trans f5); have S5 := Lib.hid (S4.out.fine f5); have X5 := Lib.hid (X4.out.fine f5)
      clear f5
      go_wp2_with fail
      refine (many_any g1 l4 I1.out w5 S5.out.set).mono ?_
      rintro x w6 ⟨rfl, f6⟩
      have F6 := Lib.hid (F5.out.trans f6); have S6 := Lib.hid (S5.out.fine f6); have X6 := Lib.hid (X5.out.fine f6)
      clear f6
      go_wp2_with fail
      refine (runs_any g4 l4 hll w6 X6.out.set).mono ?_
      rintro x w7 ⟨v7, rfl, o7, f7⟩
      obtain ⟨A7, c7, rfl, _, _⟩ := o7.form
      have F7 := Lib.hid (F6.out.trans f7); have S7 := Lib.hid (S6.out.fine f7)
      clear f7 o7
      obtain ⟨nl, hnl⟩ : ∃ z, l4.length = z := ⟨_, rfl⟩
      rw [hnl]
      have HNL := Lib.hid hnl
      rw [hnl] at hll hll2
      clear hnl
      go_wp2_with fail
      refine (runs_any g1 l4 (by rw [HNL.out]; exact hll) w7 S7.out.set).mono ?_
      rintro x w8 ⟨v8, rfl, o8, f8⟩
      obtain ⟨A8, c8, rfl, _, _⟩ := o8.form
      rw [HNL.out]
      have F8 := Lib.hid (F7.out.trans f8); have S8 := Lib.hid (S7.out.fine f8)
      clear f8 o8
      go_wp2_with fail
      refine (next_any g1 l4 I1.out m hm w8 S8.out.set).mono ?_
      rintro x w9 ⟨nx, rfl, hnx, f9⟩
      have F9 := Lib.hid (F8.out.trans f9); have S9 := Lib.hid (S8.out.fine f9)
      have HNX := Lib.hid hnx
      clear f9 hnx
      go_wp2_with fail
      refine (has_any g1 l4 I1.out nx w9 S9.out.set).mono ?_
      rintro x w10 ⟨rfl, f10⟩
      rw [HNX.out.2.1]
      have F10 := Lib.hid (F9.out.trans f10); have S10 := Lib.hid (S9.out.fine f10)
      clear f10
      obtain ⟨mx, hmx⟩ : ∃ z, (if m < 0 then 0 else m) = z := ⟨_, rfl⟩
      have HMX : Hid (max m 0 = mx) := Lib.hid (by rw [← hmx]; split <;> omega)
      have hge : nx ≥ mx := by have := HNX.out.1; rw [HMX.out] at this; exact this
      have hge2 : mx ≤ nx := hge
      by_cases hne : nx = mx
      · have e1 : (nx == mx) = true := by simpa using hne
        have HNE := Lib.hid hne
        clear hne
        go_wp2_with fail
        go_ret
        exact ⟨rfl, F10.out⟩
      · have e1 : (nx == mx) = false := by simpa using hne
        have hnb : nx ≤ 9223372036854775807 ∧ 0 ≤ mx := by
          have h1 := HNX.out.2.2.2
          rw [HMX.out] at h1
          constructor
          · omega
          · rw [← hmx]; split <;> omega
        obtain ⟨pv, hpv⟩ : ∃ z, nx - 1 = z := ⟨_, rfl⟩
        have e2 : IntKind.i64.wrap (nx - 1) = pv := by rw [hpv]; exact IntWalk.i64_in _ (by omega)
        have hhas : Hid (inB l4 pv = true) := Lib.hid (HNX.out.2.2.1 pv (by rw [HMX.out]; omega) (by omega))
        clear hpv hnb
        go_wp2_with fail
        refine (has_any g1 l4 I1.out pv w10 S10.out.set).mono ?_
        rintro x w11 ⟨rfl, f11⟩
        rw [hhas.out]
        have F11 := Lib.hid (F10.out.trans f11)
        clear f11
        go_wp2_with fail
        go_ret
        exact ⟨rfl, F11.out⟩
set_option maxHeartbeats 2000000 in
set_option maxRecDepth 20000 in
theorem lawSpanAny (w : World) (A : Option Addr) (len cap : Nat) (zs : Nat → Nat → Int) (hz : RecsIn .i64 3 w A len cap zs) (m : Int) (wm : (Lit.int .i64 m).wf = true) :
    Calls Try.prog 6 #[.slice A len cap, .int .i64 m] w fun e w' => e = .returned (.bool true) ∧ Below w.heap.size w w' := by
  show Calls _ _ _ _ fun e w' => e = .returned (.bool true) ∧ Fine w w'
  obtain ⟨acts, hn, hr, hb⟩ := acts_rs hz
  by_cases h : len ≤ 60
  · exact spanAny_main w A len cap h acts hn hr hb m (bounds_i64 wm)
  · clear hz hr hb hn wm
    have h4 : (len : Int) > 60 := by omega
    go_enter Try.func6, Try.ntmps6
    go_wp2_with fail
    refine (wakes_any w).mono ?_
    rintro r w1 ⟨rfl, f1⟩
    have F1 := Lib.hid f1
    clear f1
    go_wp2_with fail
    go_ret
    exact ⟨rfl, F1.out⟩
end Go.Proofs.Ytnigfdldfmiaiaa
