/- A receiver: Read, End. -/
import Derived.Test.YtnigfdldfmiaiaaDrv5
namespace Go.Proofs.Ytnigfdldfmiaiaa
open Go.ChangeShapes Go.WideShapes Go.ChangeAt Go.RowKit Go.Maps
set_option linter.unusedVariables false
set_option linter.unusedSimpArgs false
/-- What Read hands out. -/
def ReadOf (F : Nat → Prop) (g : Nat) (In : Int → Bool) (B : Int → Int) (rd nx e : Int) (mz : Nat) (most : Int) (w : World) (r : Ending) (w' : World) : Prop :=
  ∃ v xs er rd' F', r = .returned (.tuple #[v, .int .i64 er]) ∧ Own layB 5 w' w.heap.size v xs ∧ (rd + 1 = nx → xs = [] ∧ er = (if e = nx then 11 else 10) ∧ rd' = rd) ∧ (rd + 1 ≠ nx → er = 0 ∧ rd' = rd + min (max most 0) (nx - 1 - rd) ∧ xs = bufL B rd (rd' + 1)) ∧
    RcS F' w' g In B rd' nx e mz ∧ Kept F w w' ∧ (∀ x, F' x → F x ∨ w.heap.size ≤ x) ∧ ∀ x, v.ownBlock = some x → ¬ F' x
section
variable {F : Nat → Prop} {g : Nat} {In : Int → Bool} {B : Int → Int} {rd nx e : Int} {mz : Nat}
theorem bufL_take (B : Int → Int) (rd nx : Int) (k : Nat) (h : rd + k < nx) : (bufL B rd nx).take k = bufL B rd (rd + k + 1) := by
  unfold bufL
  rw [← List.map_take, List.take_range, show min k (nx - 1 - rd).toNat = (rd + k + 1 - 1 - rd).toNat by omega]
theorem bufL_drop (B : Int → Int) (rd nx : Int) (k : Nat) (h : rd + k < nx) : (bufL B rd nx).drop k = bufL B (rd + k) nx := by
  unfold bufL
  apply List.ext_getElem
  · simp; omega
  · intro i h1 h2
    simp
    congr 1
    omega
set_option maxHeartbeats 2000000 in
set_option maxRecDepth 20000 in
theorem read_any (most : Int) (hm : -9223372036854775808 ≤ most ∧ most ≤ 9223372036854775807) (hrd : rd ≤ 890000) (w : World) (h : RcS F w g In B rd nx e mz) :
    Calls Try.prog 34 #[.pointer (some ⟨g, 0, none⟩), .int .i64 most] w (ReadOf F g In B rd nx e mz most w) := by
  have HE := Lib.hid (ended_any w h)
  have hi := h.inv
  have H := Lib.hid h; have HI := Lib.hid hi
  obtain ⟨A, c, bm, gs, v, l, E, hX, hl, hE, _⟩ := id h
  obtain ⟨n, hn⟩ : ∃ n, (bufL B rd nx).length = n := ⟨_, rfl⟩
  have hnn : (n : Int) = nx - 1 - rd := by rw [← hn, bufL_len]; have := hi.rn; omega
  have hnb : n ≤ 1000 := by have := hi.nr; omega
  have HNN := Lib.hid hnn; have HN := Lib.hid hn
  have c1 : w.cell? ⟨g, 1, none⟩ = some (.slice A n c) := by have := hX.box.cell 1; rw [hn] at this; exact this
  have HX := Lib.hid hX; have HL := Lib.hid hl; have HEE := Lib.hid hE
  clear h hi hX hl hE hn
  by_cases h0 : n = 0
  · have he : Hid (rd + 1 = nx) := Lib.hid (by omega)
    subst h0
    clear hnn
    go_enter Try.func34, Try.ntmps34
    go_wp2_with fail
    refine HE.out.mono ?_
    rintro r w1 ⟨rfl, f1⟩
    have F1 := Lib.hid f1
    have c1 : w1.cell? ⟨g, 1, none⟩ = some (.slice A 0 c) := by have := (HX.out.fine f1).box.cell 1; rw [HN.out] at this; exact this
    clear f1
    have fin : ∀ er, er = (if e = nx then (11 : Int) else 10) → ReadOf F g In B rd nx e mz most w (.returned (.tuple #[.slice none 0 0, .int .i64 er])) w1 := fun er her =>
      ⟨_, [], er, rd, F, rfl, Own.nil_ _ _ _ _, fun _ => ⟨rfl, her, rfl⟩, fun hne => absurd he.out hne, H.out.fine F1.out, Kept.of_fine F1.out, fun x hx => .inl hx, fun x hx => by cases hx⟩
    have FIN := Lib.hid fin
    clear fin
    by_cases hq : e = nx
    · have hq2 : (e == nx) = true := by simpa using hq
      rw [hq2]
      have HQ := Lib.hid hq
      clear hq hq2
      go_wp2_with fail
      exact bodyPost_ret (v := .tuple #[.slice none 0 0, .int .i64 11]) (by simp [results, Try.results34, go_sem]) rfl (FIN.out 11 (by rw [if_pos HQ.out]))
    · have hq2 : (e == nx) = false := by simpa using hq
      rw [hq2]
      have HQ := Lib.hid hq
      clear hq hq2
      go_wp2_with fail
      exact bodyPost_ret (v := .tuple #[.slice none 0 0, .int .i64 10]) (by simp [results, Try.results34, go_sem]) rfl (FIN.out 10 (by rw [if_neg HQ.out]))
  · have he : Hid (rd + 1 ≠ nx) := Lib.hid (by omega)
    have hz : ((n : Int) == 0) = false := by simp; omega
    obtain ⟨mm, hmm⟩ : ∃ z, (if most < 0 then 0 else most) = z := ⟨_, rfl⟩
    have hmb : 0 ≤ mm ∧ mm = max most 0 := by rw [← hmm]; split <;> omega
    obtain ⟨k, hk⟩ : ∃ k : Nat, (if (n : Int) < mm then (n : Int) else mm) = (k : Int) := ⟨(if (n : Int) < mm then (n : Int) else mm).toNat, by split <;> omega⟩
    have hkn : k ≤ n := by have := hk; split at this <;> omega
    have HK : Hid ((k : Int) = min (max most 0) (nx - 1 - rd)) := Lib.hid (by rw [← hk, ← hmb.2, ← hnn]; simp only [Int.min_def]; split <;> split <;> omega)
    have ho := HX.out.own
    have q1 := ho.rs.1.run_front sliceB k (by rw [HN.out]; exact hkn)
    obtain ⟨A1, q2, rs1, _⟩ := ho.rs.1.run_behind sliceB k (by rw [HN.out]; exact hkn)
    rw [HN.out] at q1 q2
    have HRS1 := Lib.hid rs1
    have hbt : (bufL B rd nx).take k = bufL B rd (rd + k + 1) := bufL_take B rd nx k (by omega)
    have hbd : (bufL B rd nx).drop k = bufL B (rd + k) nx := bufL_drop B rd nx k (by omega)
    have HBT := Lib.hid hbt; have HBD := Lib.hid hbd
    have hl1 : Hid ((bufL B rd (rd + k + 1)).length = k) := Lib.hid (by rw [← hbt, List.length_take, HN.out]; omega)
    have hl2 : Hid ((bufL B (rd + k) nx).length = n - k) := Lib.hid (by rw [← hbd, List.length_drop, HN.out])
    have hr1 : Hid (RS layB w A c (bufL B rd (rd + k + 1))) := Lib.hid (by rw [← hbt]; exact ho.rs.1.front k (by rw [HN.out]; exact hkn))
    have hnil : Hid (Own layB 5 w w.heap.size (.slice none 0 0) []) := Lib.hid (Own.nil_ _ _ _ _)
    clear hmb ho rs1 hbt hbd hnn
    go_enter Try.func34, Try.ntmps34
    go_upto_region 9 with (at_builtin; refine wpList_appE rfl sliceB (.const (.slice none 0 0)) (.tmp 42) rfl w.heap.size (.slice none 0 0) [] rfl hnil.out A k c (bufL B rd (rd + k + 1)) rfl hl1.out.symm hr1.out (by rw [hl1.out]; simp; omega) (by rw [hl1.out]; simp; unfold maxLen; omega) (Nat.le_refl _) ?_; intro A3 c3 w2 ho2 k2 g2)
    rw [hl1.out]
    have f2 : Fine w w2 := (Fine.refl w).grown g2.out.1 (fun k hk => by cases hk)
    have F2 := Lib.hid f2
    have O2 : Hid (Own layB 5 w2 w.heap.size (.slice A3 k c3) (bufL B rd (rd + k + 1))) := Lib.hid (by have := ho2.out; rw [List.nil_append, List.length_nil, hl1.out, Nat.zero_add] at this; exact this)
    have X2 := Lib.hid (HX.out.fine f2)
    have hr2 : Hid (RS layB w2 A1 (c - k) (bufL B (rd + k) nx)) := Lib.hid (by rw [← HBD.out]; exact HRS1.out w2 X2.out.own.rs.1)
    have hnil2 : Hid (Own layB 5 w2 w2.heap.size (.slice none 0 0) []) := Lib.hid (Own.nil_ _ _ _ _)
    have c1 : w2.cell? ⟨g, 1, none⟩ = some (.slice A n c) := by have := X2.out.box.cell 1; rw [HN.out] at this; exact this
    clear g2 k2 ho2 f2 q1 hmm hk
    go_wp2_with (at_builtin; refine wpList_appE rfl sliceB (.const (.slice none 0 0)) (.tmp 50) rfl w2.heap.size (.slice none 0 0) [] rfl hnil2.out A1 (n - k) (c - k) (bufL B (rd + k) nx) rfl hl2.out.symm hr2.out (by rw [hl2.out]; simp; omega) (by rw [hl2.out]; simp; unfold maxLen; omega) (Nat.le_refl _) ?_; intro A4 c4 w3 ho3 k3 g3; have f3 : Fine w2 w3 := (Fine.refl w2).grown g3.out.1 (fun k hk => by cases hk); have X3 := Lib.hid (X2.out.fine f3); have d1 := X3.out.box.cell 1; have z1 := X3.out.box.frozen 1; have F3 := Lib.hid f3; clear f3)
    have O3 : Hid (Own layB 5 w3 w2.heap.size (.slice A4 (n - k) c4) (bufL B (rd + k) nx)) := Lib.hid (by have := ho3.out; rw [List.nil_append, List.length_nil, hl2.out, Nat.zero_add] at this; exact this)
    have R := X2.out.readied (w1 := w3) (n2 := n - k) (A2 := A4) (c2 := c4) (buf2 := bufL B (rd + k) nx) (Kept.of_fine F3.out) hl2.out.symm (O3.out.lower (Nat.zero_le _)) (.inr (fun x hx => (O3.out.lt x hx).1))
    have kk : Kept F w (w3.setCell ⟨g, 1, none⟩ (.slice A4 (n - k) c4)) := (Kept.of_fine (F2.out.trans F3.out)).setIn (p := ⟨g, 1, none⟩) HX.out.fg _
    have oo : Own layB 5 (w3.setCell ⟨g, 1, none⟩ (.slice A4 (n - k) c4)) w.heap.size (.slice A3 k c3) (bufL B rd (rd + k + 1)) := (O2.out.fine F3.out).kept (S := (· = g)) ((Kept.refl (· = g) w3).setIn (p := ⟨g, 1, none⟩) rfl _) (fun x hx e => by
      have h1 := (O2.out.lt x hx).1
      have h2 := HX.out.lt _ HX.out.fg
      have e : x = g := e
      omega)
    rw [hl2.out]
    have hkr := HK.out
    have hnnr := HNN.out
    refine bodyPost_ret (v := .tuple #[.slice A3 k c3, .int .i64 0]) (by simp [results, Try.results34, go_sem]) rfl ⟨_, _, 0, rd + k, Grew F w2 w3, rfl, oo, fun hne => absurd hne he.out, fun _ => ⟨rfl, by rw [hkr], rfl⟩, ⟨A4, c4, bm, gs, v, l, E, R, HL.out, HEE.out, ?_⟩, kk, fun x hx => ?_, fun x hx hf => ?_⟩
    · have i := HI.out
      exact ⟨by have := i.r0; omega, by omega, by have := i.nr; omega, by omega, i.low, i.no, fun m hm => by have := i.ok m hm; exact ⟨this.1, by omega, this.2.2.1, this.2.2.2⟩, i.en.imp id (fun h => ⟨h.1, by omega⟩)⟩
    · rcases hx with h1 | h1
      · exact .inl h1
      · have := F2.out.size
        exact .inr (by omega)
    · have h1 := O2.out.lt x hx
      rcases hf with h2 | h2
      · have := HX.out.lt x h2
        omega
      · omega
theorem last_bound {l : List Rn} (hT : Tidy l) {n : Nat} (hn : l.length = n + 1) {r : Rn} (hr : l[n]? = some r) : (∀ m, inB l m = true → m < rto r) ∧ inB l (rto r - 1) = true := by
  constructor
  · intro m hm
    obtain ⟨x, hx, h1, h2⟩ := inB_iff.mp hm
    obtain ⟨k, hk⟩ := List.mem_iff_getElem?.mp hx
    have hkl := (List.getElem?_eq_some_iff.mp hk).1
    rcases Nat.lt_or_ge k n with h3 | h3
    · have := hT.lt_at hk hr h3
      have := hT.okAt hr
      omega
    · have e : k = n := by omega
      subst e
      rw [hr] at hk
      injection hk with hk
      subst hk
      exact h2
  · have := hT.okAt hr
    exact inB_iff.mpr ⟨r, List.mem_of_getElem? hr, by unfold rto at *; omega, by omega⟩
/-- What End answers: whether it may. -/
def endB (In : Int → Bool) (rd nx e dsn : Int) : Prop := nx ≤ dsn ∧ dsn ≤ rd + 33 ∧ (e = 0 ∨ e = dsn) ∧ ∀ m, In m = true → m < dsn
def EndOf (F : Nat → Prop) (g : Nat) (In : Int → Bool) (B : Int → Int) (rd nx e : Int) (mz : Nat) (dsn : Int) (w : World) (r : Ending) (w' : World) : Prop :=
  Kept F w w' ∧ ((r = .returned (.bool true) ∧ endB In rd nx e dsn ∧ RcS F w' g In B rd nx dsn mz) ∨ (r = .returned (.bool false) ∧ ¬ endB In rd nx e dsn ∧ RcS F w' g In B rd nx e mz))
set_option maxHeartbeats 2000000 in
set_option maxRecDepth 20000 in
theorem end_any (dsn : Int) (hd : -9223372036854775808 ≤ dsn ∧ dsn ≤ 9223372036854775807) (w : World) (h : RcS F w g In B rd nx e mz) :
    Calls Try.prog 41 #[.pointer (some ⟨g, 0, none⟩), .int .i64 dsn] w (EndOf F g In B rd nx e mz dsn w) := by
  have HED := Lib.hid (sedge_any w h)
  have hi := h.inv
  have H := Lib.hid h; have HI := Lib.hid hi
  obtain ⟨A, c, bm, gs, v, l, E, hX, hl, hE, _⟩ := id h
  have c0 : w.cell? ⟨g, 0, none⟩ = some (.int .i64 nx) := hX.box.cell 0
  have HX := Lib.hid hX; have HL := Lib.hid hl; have HEE := Lib.hid hE
  have no : ∀ w', Fine w w' → ¬ endB In rd nx e dsn → EndOf F g In B rd nx e mz dsn w (.returned (.bool false)) w' := fun w' f hn => ⟨Kept.of_fine f, .inr ⟨rfl, hn, H.out.fine f⟩⟩
  have NO := Lib.hid no
  obtain ⟨ed, hed⟩ : ∃ z, rd + 33 = z := ⟨_, rfl⟩
  rw [hed] at HED
  have HE := Lib.hid hed
  clear h hi hX hl hE no hed
  by_cases h1 : dsn < nx
  · go_enter Try.func41, Try.ntmps41
    go_wp2_with fail
    go_ret
    exact NO.out w (Fine.refl w) (fun hh => by have := hh.1; omega)
  · go_enter Try.func41, Try.ntmps41
    go_wp2_with fail
    refine HED.out.mono ?_
    rintro r w1 ⟨rfl, f1⟩
    have F1 := Lib.hid f1
    have c4 : w1.cell? ⟨g, 4, none⟩ = some (.int .i64 e) := (HX.out.fine f1).box.cell 4
    have c3 : w1.cell? ⟨g, 3, none⟩ = some (.pointer (some ⟨gs, 0, none⟩)) := (HX.out.fine f1).box.cell 3
    clear f1 c0
    by_cases h2 : ed < dsn
    · have h2' : dsn > ed := h2
      go_wp2_with fail
      go_ret
      exact NO.out w1 F1.out (fun hh => by have := hh.2.1; have := HE.out; omega)
    · have h2' : ¬ dsn > ed := h2
      by_cases h3 : e ≠ 0 ∧ e ≠ dsn
      · have h3a : (e == 0) = false := by simpa using h3.1
        have h3b : (e == dsn) = false := by simpa using h3.2
        have h3c : (e != 0) = true := by simpa using h3.1
        have h3d : (e != dsn) = true := by simpa using h3.2
        have H3 := Lib.hid h3
        clear h3
        go_wp2_with fail
        go_ret
        exact NO.out w1 F1.out (fun hh => by have := hh.2.2.1; have := H3.out; omega)
      · have h4 : e = 0 ∨ e = dsn := by omega
        have H4 := Lib.hid h4
        have HT := HX.out.tidy
        have hll : l.length ≤ 8589934592 := by have := HT.length_le; omega
        have HRN := Lib.hid (runs_any gs l hll w1 (HX.out.fine F1.out).set.set)
        clear HT
        have key : ∀ K : Prop, (e = 0 → K) → (e ≠ 0 → e = dsn → K) → K := fun K a b => by
          by_cases h0 : e = 0
          · exact a h0
          · exact b h0 (h4.resolve_left h0)
        have KEY := Lib.hid key
        clear key h3 h4
        refine KEY.out _ (fun q => ?_) (fun q1 q2 => ?_)
        · have q3 : (e == 0) = true := by simpa using q
          have q4 : (e != 0) = false := by simpa using q
          clear q
          go_wp2_with fail
          refine HRN.out.mono ?_
          rintro r w2 ⟨v2, rfl, o2, f2⟩
          obtain ⟨A2, c2, rfl, rs2, _⟩ := o2.form
          have F2 := Lib.hid (F1.out.trans f2)
          have X2 := Lib.hid (HX.out.fine F2.out)
          have c4 : w2.cell? ⟨g, 4, none⟩ = some (.int .i64 e) := X2.out.box.cell 4
          have z4 := X2.out.box.frozen 4
          have RS2 := Lib.hid rs2
          have yes : ∀ q, (∀ m, inB l m = true → m < dsn) → EndOf F g In B rd nx e mz dsn w (.returned (.bool true)) ((w2.drewN q).setCell ⟨g, 4, none⟩ (.int .i64 dsn)) := fun q hq => by
            have hI : ∀ m, In m = true → m < dsn := fun m hm => by
              by_cases hmn : nx ≤ m
              · exact hq m (by rw [HL.out, hm, decide_eq_true hmn]; rfl)
              · omega
            have hb : endB In rd nx e dsn := ⟨by omega, by have := HE.out; omega, H4.out, hI⟩
            refine ⟨(Kept.of_fine (F2.out.drewN q)).setIn (p := ⟨g, 4, none⟩) HX.out.fg _, .inl ⟨rfl, hb, ⟨A, c, bm, gs, v, l, E, (X2.out.fine ((Fine.refl w2).drewN q)).setE dsn, HL.out, HEE.out, ?_⟩⟩⟩
            have i := HI.out
            exact ⟨i.r0, i.rn, i.nr, i.big, i.low, i.no, fun m hm => ⟨(i.ok m hm).1, (i.ok m hm).2.1, fun _ => hI m hm, (i.ok m hm).2.2.2⟩, .inr ⟨hb.1, hb.2.1⟩⟩
          have YES := Lib.hid yes
          obtain ⟨n, hn⟩ : ∃ n, l.length = n := ⟨_, rfl⟩
          have HN := Lib.hid hn
          rw [hn] at hll ⊢
          clear o2 f2 rs2 yes hn c3
          by_cases hn0 : n = 0
          · have g1 : decide (0 < n) = false := by simp; omega
            have g2 : ¬ (n : Int) > 0 := by omega
            have HN0 : Hid (∀ m, inB l m = true → m < dsn) := Lib.hid (fun m hm => by
              have : l = [] := List.eq_nil_of_length_eq_zero (HN.out.trans hn0)
              rw [this] at hm
              cases hm)
            clear hn0
            go_upto_region 4 with fail
            go_quiet (fail)
            go_wp2_with fail
            go_ret
            exact YES.out _ HN0.out
          · obtain ⟨n1, hn1⟩ : ∃ k, n = k + 1 := ⟨n - 1, by omega⟩
            obtain ⟨r, hr0⟩ : ∃ r, l[n1]? = some r := ⟨_, List.getElem?_eq_getElem (by have := HN.out; omega)⟩
            have HLB := Lib.hid (last_bound HX.out.tidy (HN.out.trans hn1) hr0)
            have hok := HX.out.tidy.okAt hr0
            obtain ⟨bb, o, rfl, _, hc⟩ := RS2.out.at_ hr0
            obtain ⟨r1, r2⟩ := r
            have d0 := hc 0 (.int .i64 r1) rfl
            have d1 := hc 1 (.int .i64 r2) rfl
            simp only [← Nat.add_assoc, Nat.add_zero] at d0 d1
            obtain ⟨s, hs⟩ : ∃ s, r1 + r2 = s := ⟨_, rfl⟩
            unfold rto at hok
            dsimp only at hok
            have e1 : IntKind.i64.wrap (r1 + r2) = s := by rw [hs]; exact IntWalk.i64_in _ (by omega)
            have HSS : Hid (rto (r1, r2) = s) := Lib.hid hs
            have e3 : IntKind.i64.wrap ((n : Int) - 1) = (n1 : Int) := by rw [show (n : Int) - 1 = (n1 : Int) by omega]; exact IntWalk.i64_in _ (by omega)
            have e4 : (n : Int) - 1 = (n1 : Int) := by omega
            have g1 : decide (0 < n) = true := by simp; omega
            have g2 : (n : Int) > 0 := by omega
            have g3 : n1 < n := by omega
            clear hc hr0 hok hs hn1 hn0
            by_cases hsd : dsn < s
            · have g4 : s > dsn := hsd
              have g5 : decide (dsn < s) = true := decide_eq_true hsd
              go_upto_region 4 with fail
              go_quiet (fail)
              go_wp2_with fail
              go_ret
              exact NO.out _ (F2.out.drewN _) (fun hh => by
                have h5 := HLB.out.2
                rw [HSS.out] at h5
                have h6 : In (s - 1) = true := by
                  have := HL.out (s - 1)
                  rw [h5] at this
                  exact (Bool.and_eq_true _ _ ▸ this.symm).1
                have := hh.2.2.2 _ h6
                omega)
            · have g4 : ¬ s > dsn := hsd
              have g5 : decide (dsn < s) = false := decide_eq_false hsd
              have HMX : Hid (∀ m, inB l m = true → m < dsn) := Lib.hid (fun m hm => by
                have := HLB.out.1 m hm
                rw [HSS.out] at this
                omega)
              go_upto_region 4 with fail
              go_quiet (fail)
              go_wp2_with fail
              go_ret
              exact YES.out _ HMX.out
        · have q3 : (e == 0) = false := by simpa using q1
          have q4 : (e != 0) = true := by simpa using q1
          have q5 : (e == dsn) = true := by simpa using q2
          have q6 : (e != dsn) = false := by simpa using q2
          clear q1 q2
          go_wp2_with fail
          refine HRN.out.mono ?_
          rintro r w2 ⟨v2, rfl, o2, f2⟩
          obtain ⟨A2, c2, rfl, rs2, _⟩ := o2.form
          have F2 := Lib.hid (F1.out.trans f2)
          have X2 := Lib.hid (HX.out.fine F2.out)
          have c4 : w2.cell? ⟨g, 4, none⟩ = some (.int .i64 e) := X2.out.box.cell 4
          have z4 := X2.out.box.frozen 4
          have RS2 := Lib.hid rs2
          have yes : ∀ q, (∀ m, inB l m = true → m < dsn) → EndOf F g In B rd nx e mz dsn w (.returned (.bool true)) ((w2.drewN q).setCell ⟨g, 4, none⟩ (.int .i64 dsn)) := fun q hq => by
            have hI : ∀ m, In m = true → m < dsn := fun m hm => by
              by_cases hmn : nx ≤ m
              · exact hq m (by rw [HL.out, hm, decide_eq_true hmn]; rfl)
              · omega
            have hb : endB In rd nx e dsn := ⟨by omega, by have := HE.out; omega, H4.out, hI⟩
            refine ⟨(Kept.of_fine (F2.out.drewN q)).setIn (p := ⟨g, 4, none⟩) HX.out.fg _, .inl ⟨rfl, hb, ⟨A, c, bm, gs, v, l, E, (X2.out.fine ((Fine.refl w2).drewN q)).setE dsn, HL.out, HEE.out, ?_⟩⟩⟩
            have i := HI.out
            exact ⟨i.r0, i.rn, i.nr, i.big, i.low, i.no, fun m hm => ⟨(i.ok m hm).1, (i.ok m hm).2.1, fun _ => hI m hm, (i.ok m hm).2.2.2⟩, .inr ⟨hb.1, hb.2.1⟩⟩
          have YES := Lib.hid yes
          obtain ⟨n, hn⟩ : ∃ n, l.length = n := ⟨_, rfl⟩
          have HN := Lib.hid hn
          rw [hn] at hll ⊢
          clear o2 f2 rs2 yes hn c3
          by_cases hn0 : n = 0
          · have g1 : decide (0 < n) = false := by simp; omega
            have g2 : ¬ (n : Int) > 0 := by omega
            have HN0 : Hid (∀ m, inB l m = true → m < dsn) := Lib.hid (fun m hm => by
              have : l = [] := List.eq_nil_of_length_eq_zero (HN.out.trans hn0)
              rw [this] at hm
              cases hm)
            clear hn0
            go_upto_region 4 with fail
            go_quiet (fail)
            go_wp2_with fail
            go_ret
            exact YES.out _ HN0.out
          · obtain ⟨n1, hn1⟩ : ∃ k, n = k + 1 := ⟨n - 1, by omega⟩
            obtain ⟨r, hr0⟩ : ∃ r, l[n1]? = some r := ⟨_, List.getElem?_eq_getElem (by have := HN.out; omega)⟩
            have HLB := Lib.hid (last_bound HX.out.tidy (HN.out.trans hn1) hr0)
            have hok := HX.out.tidy.okAt hr0
            obtain ⟨bb, o, rfl, _, hc⟩ := RS2.out.at_ hr0
            obtain ⟨r1, r2⟩ := r
            have d0 := hc 0 (.int .i64 r1) rfl
            have d1 := hc 1 (.int .i64 r2) rfl
            simp only [← Nat.add_assoc, Nat.add_zero] at d0 d1
            obtain ⟨s, hs⟩ : ∃ s, r1 + r2 = s := ⟨_, rfl⟩
            unfold rto at hok
            dsimp only at hok
            have e1 : IntKind.i64.wrap (r1 + r2) = s := by rw [hs]; exact IntWalk.i64_in _ (by omega)
            have HSS : Hid (rto (r1, r2) = s) := Lib.hid hs
            have e3 : IntKind.i64.wrap ((n : Int) - 1) = (n1 : Int) := by rw [show (n : Int) - 1 = (n1 : Int) by omega]; exact IntWalk.i64_in _ (by omega)
            have e4 : (n : Int) - 1 = (n1 : Int) := by omega
            have g1 : decide (0 < n) = true := by simp; omega
            have g2 : (n : Int) > 0 := by omega
            have g3 : n1 < n := by omega
            clear hc hr0 hok hs hn1 hn0
            by_cases hsd : dsn < s
            · have g4 : s > dsn := hsd
              have g5 : decide (dsn < s) = true := decide_eq_true hsd
              go_upto_region 4 with fail
              go_quiet (fail)
              go_wp2_with fail
              go_ret
              exact NO.out _ (F2.out.drewN _) (fun hh => by
                have h5 := HLB.out.2
                rw [HSS.out] at h5
                have h6 : In (s - 1) = true := by
                  have := HL.out (s - 1)
                  rw [h5] at this
                  exact (Bool.and_eq_true _ _ ▸ this.symm).1
                have := hh.2.2.2 _ h6
                omega)
            · have g4 : ¬ s > dsn := hsd
              have g5 : decide (dsn < s) = false := decide_eq_false hsd
              have HMX : Hid (∀ m, inB l m = true → m < dsn) := Lib.hid (fun m hm => by
                have := HLB.out.1 m hm
                rw [HSS.out] at this
                omega)
              go_upto_region 4 with fail
              go_quiet (fail)
              go_wp2_with fail
              go_ret
              exact YES.out _ HMX.out
end
end Go.Proofs.Ytnigfdldfmiaiaa
