/- A receiver: Put, walked. -/
import Derived.Test.YtnigfdldfmiaiaaDrv2
import Derived.Test.YtnigfdldfmiaiaaSpan25
namespace Go.Proofs.Ytnigfdldfmiaiaa
open Go.ChangeShapes Go.WideShapes Go.ChangeAt Go.RowKit Go.Maps
set_option linter.unusedVariables false
set_option linter.unusedSimpArgs false
/-- What Put leaves: what is there now, what is ready, what came. -/
structure PutOf (F : Nat → Prop) (g : Nat) (bm gs : Nat) (l : List Rn) (buf : List Int) (E : Int → Int) (nx e : Int) (mz : Nat) (got : Int → Bool) (E1 : Int → Int) (w w' : World) : Prop where
  ex : ∃ F' A' c' v' l' E' nx', RcX F' w' g A' c' bm gs v' l' (buf ++ (List.range (nx' - nx).toNat).map (fun i : Nat => E1 (nx + i))) E' nx' e mz ∧ (∀ x, F' x → F x ∨ w.heap.size ≤ x) ∧
    nx ≤ nx' ∧ (∀ m, nx ≤ m → m < nx' → (inB l m || got m) = true) ∧ (inB l nx' || got nx') = false ∧ (∀ m, inB l' m = ((inB l m || got m) && decide (nx' ≤ m))) ∧ (∀ m, nx' ≤ m → E' m = E1 m)
  kept : Kept F w w'
section
variable {F : Nat → Prop} {g : Nat} {A : Option Addr} {c bm gs : Nat} {v : Value} {l : List Rn} {buf : List Int} {E : Int → Int} {nx e : Int} {mz : Nat}
set_option maxHeartbeats 4000000 in
set_option maxRecDepth 20000 in
theorem put_main (ed : Int) (hed : nx - (buf.length : Int) + 32 = ed) (hb : 1 ≤ nx ∧ nx ≤ ed ∧ ed ≤ 1000000 ∧ buf.length ≤ 1000000) (hl : ∀ m, inB l m = true → nx ≤ m ∧ m < ed) (hlx : inB l nx = false) (dsn : Int) (hd : -1099511627776 ≤ dsn ∧ dsn ≤ ed)
    (bs : List Int) (n cb : Nat) (Ab : Option Addr) (hn : bs.length = n) (hnb : n ≤ 100000) (hby : ∀ x ∈ bs, 0 ≤ x ∧ x ≤ 255) (hmz : mz + n ≤ 100000000) (w : World) (hrs : RS layB w Ab cb bs) (hab : 0 < n → ∀ b o, Ab = some ⟨b, o, none⟩ → ¬ F b) (h : RcX F w g A c bm gs v l buf E nx e mz) :
    Calls Try.prog 33 #[.pointer (some ⟨g, 0, none⟩), .int .i64 dsn, .slice Ab n cb] w fun r w' => r = .returned (.int .i64 (cntP (fun j => mayB nx ed e l (dsn + j)) n)) ∧ PutOf F g bm gs l buf E nx e (mz + n) (gotB nx ed e l dsn n) (gotE nx ed e l dsn bs n E) w w' := by
  have HED := Lib.hid hed; have HL := Lib.hid hl; have HLX := Lib.hid hlx; have HN := Lib.hid hn; have HBY := Lib.hid hby; have HRS := Lib.hid hrs; have HAB := Lib.hid hab; have H := Lib.hid h
  have HBN := Lib.hid (show 0 ≤ nx ∧ nx ≤ 4294967296 ∧ buf.length ≤ 4294967296 by omega)
  have hg1 : ¬ dsn > ed := by omega
  have hg2 : ¬ dsn < -1099511627776 := by omega
  clear hed hl hlx hn hby hrs hab h
  go_enter Try.func33, Try.ntmps33
  go_wp2_with fail
  refine (edge_any ed HED.out HBN.out w H.out).mono ?_
  rintro r w1 ⟨rfl, f1⟩
  have F1 := Lib.hid f1
  clear f1
  go_wp2_with fail
  go_loopw [7, 26] (fun s7 s26 wr => ∃ (i : Nat) (t : Int), i ≤ n ∧ s26 = .int .i64 i ∧ s7 = .int .i64 t ∧ (0 ≤ t ∧ t ≤ i) ∧ Hid (∃ F' v' l' E', RcX F' wr g A c bm gs v' l' buf E' nx e (mz + i) ∧ (∀ m, inB l' m = (inB l m || gotB nx ed e l dsn i m)) ∧ (∀ m, E' m = gotE nx ed e l dsn bs i E m) ∧ t = cntP (fun j => mayB nx ed e l (dsn + j)) i ∧ Kept F w wr ∧ (∀ x, F' x → F x ∨ w.heap.size ≤ x))) (fun _ s26 _ => n - (intOf s26).toNat)
  case atStart =>
    exact ⟨0, 0, by omega, rfl, rfl, by omega, Lib.hid ⟨F, v, l, E, H.out.fine F1.out, fun m => by rw [gotB_zero, Bool.or_false], fun m => by unfold gotE; rw [gotB_zero]; rfl, rfl, Kept.of_fine F1.out, fun x hx => .inl hx⟩⟩
  case round =>
    obtain ⟨i, t, hi, rfl, rfl, ht, HI⟩ := hrel
    obtain ⟨F', v', l', E', i1, i2, i3, i4, i5, i6⟩ := HI.out
    have I1 := Lib.hid i1; have I2 := Lib.hid i2; have I3 := Lib.hid i3; have I4 := Lib.hid i4; have I5 := Lib.hid i5; have I6 := Lib.hid i6
    clear i1 i2 i3 i4 i5 i6 HI
    by_cases hlt : i < n
    · obtain ⟨bb, o, hA, _, hcl⟩ := (HRS.out.kept I5.out (HAB.out (by omega))).atI (i := i) (by rw [HN.out]; exact hlt)
      subst hA
      have hbx := HBY.out _ (getD_mem bs i (by rw [HN.out]; exact hlt))
      obtain ⟨x, hx⟩ : ∃ x, bs.getD i 0 = x := ⟨_, rfl⟩
      have HX := Lib.hid hx
      rw [hx] at hcl hbx
      obtain ⟨m, hm⟩ : ∃ m, dsn + (i : Int) = m := ⟨_, rfl⟩
      have e1 : IntKind.i64.wrap (dsn + (i : Int)) = m := by rw [hm]; exact IntWalk.i64_in _ (by omega)
      have hmb : -1099511627776 ≤ m ∧ m ≤ 2000000 := by omega
      have HM := Lib.hid hm
      clear hx hm
      go_wp2_with fail
      refine (may_any ed HED.out HBN.out m _ I1.out).mono ?_
      rintro r w2 ⟨rfl, f2⟩
      have I1' := Lib.hid (I1.out.fine f2); have K2 := Lib.hid (I5.out.trans (Kept.of_fine f2))
      have hsame : mayB nx ed e l' m = mayB nx ed e l m := by
        unfold mayB
        rw [I2.out m]
        have : gotB nx ed e l dsn i m = false := by
          unfold gotB
          have : decide (m < dsn + (i : Int)) = false := by have := HM.out; simp; omega
          rw [this, Bool.and_false, Bool.and_false]
        rw [this, Bool.or_false]
      rw [hsame]
      have HGS := Lib.hid (fun m => gotB_succ nx ed e l dsn i m)
      have HCS := Lib.hid (cntP_succ (fun j => mayB nx ed e l (dsn + j)) i)
      clear f2 hsame e1 hcl
      obtain ⟨q, hq⟩ : ∃ q, mayB nx ed e l m = q := ⟨_, rfl⟩
      have HQ := Lib.hid hq
      rw [hq]
      clear hq
      cases q
      · go_wp2_with fail
        refine ⟨⟨i + 1, t, hlt, by simp, rfl, by omega, Lib.hid ⟨F', v', l', E', ?_, fun m' => ?_, fun m' => ?_, ?_, K2.out, I6.out⟩⟩, by simp only [intOf]; omega⟩
        · have := I1'.out
          exact { this with map := this.map.mono (by omega) }
        · rw [HGS.out, HM.out, HQ.out, Bool.false_and, Bool.or_false]; exact I2.out m'
        · unfold gotE
          rw [HGS.out, HM.out, HQ.out, Bool.false_and, Bool.or_false]; exact I3.out m'
        · rw [HCS.out, HM.out, HQ.out, ← I4.out]; simp
      · have hmr : nx ≤ m ∧ m < ed := by
          have := HQ.out
          unfold mayB at this
          simp at this
          omega
        have hml : inB l m = false := by
          have := HQ.out
          unfold mayB at this
          simp at this
          exact this.2
        have c2 : w2.cell? ⟨g, 2, none⟩ = some (.map (some bm)) := I1'.out.box.cell 2
        obtain ⟨w3, hrun, m3, k3⟩ := I1'.out.map.put (x := m) (c := x) (by unfold maxLen; omega) (by omega) hbx
        have I3' := Lib.hid (I1'.out.mapped k3 m3)
        have c3 : w3.cell? ⟨g, 3, none⟩ = some (.pointer (some ⟨gs, 0, none⟩)) := I3'.out.box.cell 3
        have K3 : Hid (Kept F w w3) := Lib.hid (K2.out.transG k3 (fun _ _ h => h) (fun x hx e => by
          have e : x = bm := e
          subst e
          exact (I6.out _ I1.out.fm).elim id (fun h => by omega)))
        have hlm : inB l' m = false := by
          rw [I2.out m, hml, Bool.false_or]
          unfold gotB
          have : decide (m < dsn + (i : Int)) = false := by have := HM.out; simp; omega
          rw [this, Bool.and_false, Bool.and_false]
        have HLM := Lib.hid hlm
        clear m3 k3 hml hlm
        go_wp2_with fail
        refine (add_any 0 gs v' l' I3'.out.tidy m 1 (by omega) (by omega) w3 (Nat.zero_le _) I3'.out.set).mono ?_
        rintro r w4 ⟨v4, l4, rfl, t4, m4, s4, k4, h4⟩
        rw [total_one I3'.out.tidy t4 (by omega) (by omega) HLM.out m4]
        have I4' := Lib.hid (I3'.out.came k4 s4 t4 h4)
        have K4 : Hid (Kept F w w4) := Lib.hid (K3.out.transG k4 (fun _ _ h => h) (fun x hx e => by
          rcases e with e | e
          · subst e
            exact (I6.out _ I1.out.fs).elim id (fun h => by omega)
          · exact (I6.out _ (I1.out.fv x e)).elim id (fun h => by omega)))
        have hsz : w.heap.size ≤ w3.heap.size := K3.out.size
        have M4 := Lib.hid m4
        have e2 : IntKind.i64.wrap (t + 1) = t + 1 := IntWalk.i64_in _ (by omega)
        clear s4 t4 m4 k4 h4 c2 c3 hrun
        go_wp2_with fail
        refine ⟨⟨i + 1, t + 1, hlt, by simp, rfl, by omega, Lib.hid ⟨Grew F' w3 w4, v4, l4, (fun y => if y = m then x else E' y), I4'.out, fun m' => ?_, fun m' => ?_, ?_, K4.out, fun y hy => ?_⟩⟩, by simp only [intOf]; omega⟩
        · rw [M4.out m', I2.out m', HGS.out, HM.out, HQ.out, Bool.true_and, held_one (by omega) (by omega), Bool.or_assoc]
        · unfold gotE
          rw [HGS.out, HM.out, HQ.out, Bool.true_and]
          by_cases hmm : m' = m
          · subst hmm
            have : (m' - dsn).toNat = i := by have := HM.out; omega
            simp [this]
            exact HX.out.symm
          · dsimp only
            rw [decide_eq_false hmm, Bool.or_false, if_neg hmm]
            exact I3.out m'
        · rw [HCS.out, HM.out, HQ.out, ← I4.out]; rfl
        · rcases hy with hy | hy
          · exact I6.out y hy
          · exact .inr (by omega)
    · have hie : i = n := by omega
      subst hie
      have HGL : Hid (∀ m, inB l' m = true → nx ≤ m ∧ m < ed) := Lib.hid (fun m hm => by
        rw [I2.out m, Bool.or_eq_true] at hm
        rcases hm with hm | hm
        · exact HL.out m hm
        · unfold gotB mayB at hm
          simp at hm
          omega)
      have HNV := Lib.hid (nextV_of I1.out.tidy nx)
      obtain ⟨top, hto⟩ : ∃ z, nextV l' nx = z := ⟨_, rfl⟩
      rw [hto] at HNV
      have HTO := Lib.hid hto
      have htb : nx ≤ top ∧ top ≤ ed := by
        have h1 := HNV.out
        unfold NextOf at h1
        rw [show max nx 0 = nx by omega] at h1
        refine ⟨h1.1, ?_⟩
        rcases Int.lt_or_le ed top with h2 | h2
        · have h3 := h1.2.2.1 (top - 1) (by omega) (by omega)
          have := (HGL.out _ h3).2
          omega
        · exact h2
      have c0 : wr.cell? ⟨g, 0, none⟩ = some (.int .i64 nx) := I1.out.box.cell 0
      have c3 : wr.cell? ⟨g, 3, none⟩ = some (.pointer (some ⟨gs, 0, none⟩)) := I1.out.box.cell 3
      clear hto
      go_upto_region 12 with fail
      go_still_tail 8, (by kernel_rfl)
      change wpList _ _ _ _ _ wr.drew
      have I1' := Lib.hid (I1.out.fine (Fine.refl wr).drew); have K1' := Lib.hid (I5.out.drew)
      generalize wr.drew = w2 at I1' K1' ⊢
      clear c0 c3 I1 I5
      go_wp2_with fail
      refine (nextv_any gs l' I1'.out.tidy nx (by omega) w2 I1'.out.set.set).mono ?_
      rintro r w3 ⟨rfl, f3⟩
      rw [HTO.out]
      have I1 := Lib.hid (I1'.out.fine f3); have K3 := Lib.hid (K1'.out.trans (Kept.of_fine f3))
      clear f3 I1' K1'
      go_wp2_with fail
      go_loopw [] (fun wq => Hid (∃ k : Nat, ∃ F2 A2 c2 E2, nx + k ≤ top ∧ RcX F2 wq g A2 c2 bm gs v' l' (buf ++ (List.range k).map (fun j : Nat => E' (nx + j))) E2 (nx + k) e (mz + i) ∧ (∀ m, nx + k ≤ m → E2 m = E' m) ∧ Kept F w wq ∧ (∀ x, F2 x → F x ∨ w.heap.size ≤ x))) (fun wq => (top - nxOf wq g).toNat)
      case atStart => exact Lib.hid ⟨0, F', A, c, E', by omega, by simpa using I1.out, fun m _ => rfl, K3.out, I6.out⟩
      case round =>
        obtain ⟨k, F2, A2, c2, E2, j1, j2, j3, j4, j5⟩ := hrel.out
        have J2 := Lib.hid j2; have J3 := Lib.hid j3; have J4 := Lib.hid j4; have J5 := Lib.hid j5
        clear j2 j3 j4 j5 hrel
        obtain ⟨nk, hnk⟩ : ∃ z, nx + (k : Int) = z := ⟨_, rfl⟩
        obtain ⟨buf2, hbuf2⟩ : ∃ z, buf ++ (List.range k).map (fun j : Nat => E' (nx + j)) = z := ⟨_, rfl⟩
        have HB2 : Hid (buf2.length = buf.length + k) := Lib.hid (by rw [← hbuf2]; simp)
        have HBF := Lib.hid hbuf2
        rw [hnk] at J2 J3 j1
        rw [hbuf2] at J2
        have HNK := Lib.hid hnk
        have hkb : k ≤ 1000000 := by omega
        have hnkb : 1 ≤ nk ∧ nk ≤ 1000000 := by omega
        clear hnk hbuf2
        have c0 : wr.cell? ⟨g, 0, none⟩ = some (.int .i64 nk) := J2.out.box.cell 0
        have HXO := Lib.hid (nxOf_eq c0)
        by_cases hlt : nk < top
        · have c1 : wr.cell? ⟨g, 1, none⟩ = some (.slice A2 buf2.length c2) := J2.out.box.cell 1
          have c2' : wr.cell? ⟨g, 2, none⟩ = some (.map (some bm)) := J2.out.box.cell 2
          obtain ⟨nb, hnb2⟩ : ∃ z, buf2.length = z := ⟨_, rfl⟩
          rw [hnb2] at c1 HB2
          have HNB := Lib.hid hnb2
          have hnbb : nb ≤ 3000000 := by have := HB2.out; omega
          clear hnb2
          obtain ⟨x, hx⟩ : ∃ z, E2 nk = z := ⟨_, rfl⟩
          have HX := Lib.hid hx
          have hlk := J2.out.map.block (w' := wr.drew) rfl
          have hlk := hlk.look (x := nk) (by omega)
          rw [hx] at hlk
          have HLK := Lib.hid hlk
          have JD := Lib.hid (J2.out.fine (Fine.refl wr).drew)
          have e2 : ∀ o, (wr.alloc o).cell? ⟨g, 1, none⟩ = some (.slice A2 nb c2) := fun o => by have := (J2.out.fine ((Fine.refl wr).alloc o)).box.cell 1; rw [HNB.out] at this; exact this
          have z1 : ∀ o, (wr.alloc o).frozen? ⟨g, 1, none⟩ = false := fun o => (J2.out.fine ((Fine.refl wr).alloc o)).box.frozen 1
          clear hx
          go_upto_region 15 with fail
          go_cut [] (fun wx => Hid (∃ F3 A3 c3, RcX F3 wx g A3 c3 bm gs v' l' (buf2 ++ [x]) E2 nk e (mz + i) ∧ Kept F w wx ∧ (∀ y, F3 y → F y ∨ w.heap.size ≤ y)))
          case first =>
            go_region_law (first | (refine step_appE rfl sliceB (.tmp 78) (.tmp 88) rfl 0 (.slice A2 nb c2) buf2 rfl (by have := (JD.out.fine ((Fine.refl _).alloc (.cells #[.int .u8 x] 5))).own; rw [HNB.out] at this; exact this) (some ⟨wr.heap.size, 0, none⟩) 1 1 [x] rfl rfl (RS.ofBlk (Blk.newAt rfl) rfl rfl (by unfold maxLen; omega)) (by rw [HNB.out]; simp; omega) (by rw [HNB.out]; simp; unfold maxLen; omega) (Nat.zero_le _) ?_; intro x2 wB oB kB0 gB0 bB; obtain ⟨A3, c3, rfl, _, _⟩ := oB.form; have KB : Kept (fun y => (Value.slice A2 nb c2).ownBlock = some y) (wr.drew.alloc (.cells #[.int .u8 x] 5)) wB := Kept.grown (Kept.refl _ _) gB0 (fun k hk _ => hk); have JA := JD.out.fine ((Fine.refl wr.drew).alloc (.cells #[.int .u8 x] 5)); have BB := JA.box.kept KB (fun e => (JA.ne_am g (by rw [HNB.out]; exact e)).1 rfl); have yB0 := BB.cell 1; have yB1 := BB.frozen 1))
            all_goals
              have KB' : Kept (fun y => (Value.slice A2 buf2.length c2).ownBlock = some y) (wr.drew.alloc (.cells #[.int .u8 x] 5)) wB := by rw [HNB.out]; exact KB
              have J15 := Lib.hid (JA.readied (n2 := buf2.length + 1) (buf2 := buf2 ++ [x]) KB' (by simp) (by simpa using oB) (by
                rw [show (buf2 ++ [x]).length = buf2.length + 1 by simp, ← HNB.out] at bB
                rcases bB with h | h
                · exact .inl h
                · refine .inr (fun y hy => ?_)
                  have h2 := h.symm.trans hy
                  injection h2 with h2
                  have h3 : (wr.drew.alloc (.cells #[.int .u8 x] 5)).heap.size = y := h2
                  omega))
              have hgF : g < w.heap.size → F g := fun hh => (J5.out g J2.out.fg).elim id (fun h => by omega)
              have K15 : Hid (Kept F w (wB.setCell ⟨g, 1, none⟩ (.slice A3 (buf2.length + 1) c3))) := Lib.hid (((J4.out.trans (Kept.of_fine ((Fine.refl wr).drew.alloc (.cells #[.int .u8 x] 5)))).transG KB' (fun _ _ h => h) (fun y hy e => (J5.out y (J2.out.fa y e)).elim id (fun h => by omega))).setCell (p := ⟨g, 1, none⟩) hgF _)
              have L15 : Hid (∀ y, Grew F2 (wr.drew.alloc (.cells #[.int .u8 x] 5)) wB y → F y ∨ w.heap.size ≤ y) := Lib.hid (fun y hy => by
                rcases hy with h | h
                · exact J5.out y h
                · have h1 := J4.out.size
                  have h2 := ((Fine.refl wr).drew.alloc (.cells #[.int .u8 x] 5)).size
                  exact .inr (by omega))
              go_wp2_with fail
              go_meet
              exact Lib.hid ⟨_, A3, c3, J15.out, K15.out, L15.out⟩
          case rest =>
            obtain ⟨F3, A3, c3, j15, k15, l15⟩ := hcut.out
            have J15 := Lib.hid j15; have K15 := Lib.hid k15; have L15 := Lib.hid l15
            obtain ⟨w5, hw5⟩ : ∃ w5, w5 = wc := ⟨_, rfl⟩
            subst hw5
            have hgF : g < w.heap.size → F g := fun hh => (J5.out g J2.out.fg).elim id (fun h => by omega)
            clear hcut j15 k15 l15 e2 z1 hlk HLK JD c1 c0 c2'
            have JE := Lib.hid (J15.out.fine (Fine.refl w5).drew)
            have KE := Lib.hid (K15.out.drew)
            have c0 : w5.cell? ⟨g, 0, none⟩ = some (.int .i64 nk) := J15.out.box.cell 0
            have c2' : w5.cell? ⟨g, 2, none⟩ = some (.map (some bm)) := J15.out.box.cell 2
            obtain ⟨w6, hrun, m6, k6⟩ := JE.out.map.del (x := nk) (by omega) 0
            have J16 := Lib.hid (JE.out.mapped k6 m6)
            have K16 : Hid (Kept F w w6) := Lib.hid (KE.out.transG k6 (fun _ _ h => h) (fun y hy e => by
              have e : y = bm := e
              subst e
              exact (J5.out _ J2.out.fm).elim id (fun h => by omega)))
            clear m6 k6
            go_upto_region 16 with fail
            go_still_tail 8, (by kernel_rfl)
            change wpList _ _ _ _ _ w5.drew
            generalize w5.drew = w5d at hrun ⊢
            clear c0 c2'
            have c0 : w6.cell? ⟨g, 0, none⟩ = some (.int .i64 nk) := J16.out.box.cell 0
            have z0 := J16.out.box.frozen 0
            have e3 : IntKind.i64.wrap (nk + 1) = nk + 1 := IntWalk.i64_in _ (by omega)
            go_wp2_with fail
            have J17 := J16.out.setNx (nk + 1)
            have K17 := K16.out.setCell (p := ⟨g, 0, none⟩) hgF (.int .i64 (nk + 1))
            have hx17 := nxOf_eq (J17.box.cell 0)
            refine ⟨Lib.hid ⟨k + 1, F3, A3, c3, (fun y => if y = nk then 0 else E2 y), by have := HNK.out; omega, ?_, fun m' hm' => ?_, K17, L15.out⟩, ?_⟩
            · have eb : buf ++ (List.range (k + 1)).map (fun j : Nat => E' (nx + j)) = buf2 ++ [x] := by
                rw [List.range_succ, List.map_append, ← List.append_assoc, HBF.out, List.map_singleton, HNK.out, ← J3.out nk (Int.le_refl _), HX.out]
              rw [eb, show nx + ((k + 1 : Nat) : Int) = nk + 1 by have := HNK.out; omega]
              exact J17
            · have hm2 : nk + 1 ≤ m' := by have := HNK.out; omega
              dsimp only
              rw [if_neg (by omega)]
              exact J3.out m' (by omega)
            · rw [hx17, HXO.out]; omega
        · have hte : nk = top := by omega
          have c3 : wr.cell? ⟨g, 3, none⟩ = some (.pointer (some ⟨gs, 0, none⟩)) := J2.out.box.cell 3
          have JD := Lib.hid (J2.out.fine (Fine.refl wr).drew)
          have KD := Lib.hid (J4.out.drew)
          subst hte
          go_upto_region 17 with fail
          go_still_tail 8, (by kernel_rfl)
          change wpList _ _ _ _ _ wr.drew
          generalize wr.drew = wd at JD KD ⊢
          clear c0 c3
          go_wp2_with fail
          refine (drop_any 0 gs v' l' JD.out.tidy nk (by omega) wd (Nat.zero_le _) JD.out.set).mono ?_
          rintro r w9 ⟨v9, rfl, s9, k9, h9⟩
          have DL := drop_law JD.out.tidy nk
          have J9 := Lib.hid (JD.out.came k9 s9 DL.1 h9)
          have K9 : Hid (Kept F w w9) := Lib.hid (KD.out.transG k9 (fun _ _ h => h) (fun y hy e => by
            rcases e with e | e
            · subst e
              exact (J5.out _ J2.out.fs).elim id (fun h => by omega)
            · exact (J5.out _ (J2.out.fv y e)).elim id (fun h => by omega)))
          have hszd := KD.out.size
          have DL2 := Lib.hid DL.2
          clear s9 k9 h9 DL
          go_wp2_with fail
          go_ret
          refine ⟨by rw [I4.out]; rfl, ⟨⟨Grew F2 wd w9, A2, c2, v9, dropL l' nk, E2, nk, ?_, fun y hy => ?_, htb.1, fun m' h1 h2 => ?_, ?_, fun m' => ?_, fun m' hm' => ?_⟩, K9.out⟩⟩
          · have eb : buf ++ (List.range (nk - nx).toNat).map (fun j : Nat => gotE nx ed e l dsn bs i E (nx + j)) = buf2 := by
              rw [show (nk - nx).toNat = k by have := HNK.out; omega, ← HBF.out]
              congr 1
              exact List.map_congr_left (fun j _ => (I3.out _).symm)
            rw [eb]
            exact J9.out
          · rcases hy with h | h
            · exact J5.out y h
            · exact .inr (by omega)
          · rw [← I2.out m']
            exact HNV.out.2.2.1 m' (by omega) h2
          · rw [← I2.out]; exact HNV.out.2.1
          · rw [DL2.out m', I2.out m']
          · rw [J3.out m' hm', I3.out]
end
end Go.Proofs.Ytnigfdldfmiaiaa
