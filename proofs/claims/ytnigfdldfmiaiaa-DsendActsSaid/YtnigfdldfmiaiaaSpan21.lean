/- The law SpanDrops. -/
import Derived.Test.YtnigfdldfmiaiaaSpan20
import Derived.Test.YtnigfdldfmiaiaaSpan19
import Derived.Test.YtnigfdldfmiaiaaOpen
import Derived.Test.YtnigfdldfmiaiaaSpan14
namespace Go.Proofs.Ytnigfdldfmiaiaa
open Go.ChangeShapes Go.WideShapes Go.ChangeAt Go.RowKit
set_option linter.unusedVariables false
set_option linter.unusedSimpArgs false
theorem drop_any (base g : Nat) (v : Value) (l : List Rn) (hT : Tidy l) (b : Int) (hb : -9223372036854775808 ≤ b ∧ b ≤ 9223372036854775807) (w : World) (hbw : base ≤ w.heap.size) (h : SetA base w g v l) :
    Calls Try.prog 22 #[.pointer (some ⟨g, 0, none⟩), .int .i64 b] w (DropOf base g v l b w) := drop_main base g v l hT b hb w hbw h
/-- What is told apart of a row that is read: its block is not the set's. -/
def Apart (A : Option Addr) (g : Nat) (v : Value) : Prop := ∀ b o, A = some ⟨b, o, none⟩ → b ≠ g ∧ v.ownBlock ≠ some b
theorem Apart.rs {w w' : World} {A : Option Addr} {c : Nat} {l : List Rn} {g : Nat} {v : Value} (h : RS layR w A c l) (ha : Apart A g v) (k : Kept (fun k => k = g ∨ v.ownBlock = some k) w w') : RS layR w' A c l :=
  h.kept k (fun b o e hs => hs.elim (ha b o e).1 (ha b o e).2)
theorem Apart.next {w : World} {A : Option Addr} {c : Nat} {l : List Rn} {g : Nat} {v v' : Value} (h : RS layR w A c l) (hp : 0 < l.length) (ha : Apart A g v) (hv : v'.ownBlock = v.ownBlock ∨ ∀ k, v'.ownBlock = some k → w.heap.size ≤ k) : Apart A g v' := by
  intro b o e
  refine ⟨(ha b o e).1, fun hk => ?_⟩
  rcases hv with h1 | h1
  · exact (ha b o e).2 (h1 ▸ hk)
  · have h2 := h1 b hk
    obtain ⟨b', o', e', hlt, _⟩ := h.2.2.2 hp
    rw [e] at e'
    injection e' with e'
    injection e' with e' _ _
    omega
set_option maxHeartbeats 4000000 in
set_option maxRecDepth 20000 in
theorem spanDrops_main (w : World) (A : Option Addr) (n cap : Nat) (hn60 : n ≤ 60) (acts : List Ac) (hn : acts.length = n) (hr : RS layA w A cap acts) (hbd : ∀ x ∈ acts, (-9223372036854775808 ≤ x.1 ∧ x.1 ≤ 9223372036854775807) ∧ (-9223372036854775808 ≤ x.2.1 ∧ x.2.1 ≤ 9223372036854775807) ∧ (-9223372036854775808 ≤ x.2.2 ∧ x.2.2 ≤ 9223372036854775807)) (b : Int) (hb : 0 ≤ b ∧ b ≤ 255) :
    Calls Try.prog 4 #[.slice A n cap, .int .u8 b] w fun r w' => r = .returned (.bool true) ∧ Fine w w' := by
  have HR := Lib.hid hr; have HB := Lib.hid hbd; have HN := Lib.hid hn
  have hz2 : ¬ (n : Int) > 60 := by omega
  have eb : IntKind.i64.wrap b = b := IntWalk.i64_in _ (by omega)
  clear hr hbd hn
  go_enter Try.func4, Try.ntmps4
  go_wp2_with fail
  refine (wakes_any w).mono ?_
  rintro r w1 ⟨rfl, f1⟩
  have F1 := Lib.hid f1
  clear f1
  go_wp2_with fail
  refine (new_nil w1).mono ?_
  rintro r w2 ⟨rfl, b2, f2⟩
  obtain ⟨g1, hg1⟩ : ∃ g, w1.heap.size = g := ⟨_, rfl⟩
  rw [hg1] at b2 ⊢
  have G1 := Lib.hid hg1; have B2 := Lib.hid b2; have F2 := Lib.hid (F1.out.trans f2)
  have hwg : w.heap.size ≤ g1 := by rw [← G1.out]; exact F1.out.size
  clear b2 f2 hg1
  go_wp2_with fail
  go_loopw [23] (fun s23 wr => ∃ (i : Nat), i ≤ n ∧ s23 = .int .i64 i ∧ Hid (∃ v l, Tidy l ∧ SetA w.heap.size wr g1 v l ∧ Fine w wr)) (fun s23 _ => n - (intOf s23).toNat)
  case atStart => exact ⟨0, Nat.zero_le _, rfl, Lib.hid ⟨_, [], Tidy.nil, SetA.nil B2.out, F2.out⟩⟩
  case round =>
    obtain ⟨i, hi, rfl, HI⟩ := hrel
    obtain ⟨v, l, i1, i3, i6⟩ := HI.out
    have I1 := Lib.hid i1; have I3 := Lib.hid i3; have I6 := Lib.hid i6
    clear i1 i3 i6 HI
    by_cases hlt : i < n
    · obtain ⟨r, hr0⟩ : ∃ r, acts[i]? = some r := ⟨_, List.getElem?_eq_getElem (by have := HN.out; omega)⟩
      obtain ⟨bb, o, rfl, hb, hc⟩ := (HR.out.fine I6.out).at_ hr0
      have HBD := Lib.hid (HB.out r (List.mem_of_getElem? hr0))
      obtain ⟨r0, r1, r2⟩ := r
      have d0 := hc 0 (.int .i64 r0) rfl
      have d1 := hc 1 (.int .i64 r1) rfl
      have d2 := hc 2 (.int .i64 r2) rfl
      simp only [← Nat.add_assoc, Nat.add_zero] at d0 d1 d2
      clear hc hr0
      go_wp2_with fail
      have f5 := (Fine.refl wr).alloc (.cells #[.int .i64 r0, .int .i64 r1, .int .i64 r2] 27)
      have S5 := I3.out.fine f5
      refine (add_any w.heap.size g1 v l I1.out r1 r2 HBD.out.2.1 HBD.out.2.2 _ (Nat.le_trans I6.out.size f5.size) S5).mono ?_
      rintro x w6 HA
      have F6 := Lib.hid (HA.fine (I6.out.trans f5) (Nat.le_refl _) hwg S5)
      obtain ⟨v', l', rfl, a1, a2, a3, a4, a5⟩ := HA
      have A1 := Lib.hid a1; have A3 := Lib.hid a3
      clear a1 a2 a3 a4 a5 S5 f5
      go_wp2_with fail
      exact ⟨⟨i + 1, hlt, by simp, Lib.hid ⟨v', l', A1.out, A3.out, F6.out⟩⟩, by simp only [intOf]; omega⟩
    · have hie : i = n := by omega
      subst hie
      have hll : l.length ≤ 8589934592 := by have := I1.out.length_le; omega
      clear eb
      go_wp2_with fail
      refine (runs_any g1 l hll wr I3.out.set).mono ?_
      rintro x w3 ⟨v3, rfl, o3, f3⟩
      obtain ⟨A3, c3, rfl, rs3, from3⟩ := o3.form
      obtain ⟨nl, hnl⟩ : ∃ nl, l.length = nl := ⟨_, rfl⟩
      have AP : Hid (Apart A3 g1 v) := Lib.hid (fun b o e => by
        have h1 := from3 b o e
        have h2 := I3.out.lt
        refine ⟨by omega, fun hk => ?_⟩
        have h3 := (I3.out.own b hk).2
        omega)
      have S3 := Lib.hid (I3.out.fine f3); have R3 := Lib.hid rs3; have F3 := Lib.hid (I6.out.trans f3); have HNL := Lib.hid hnl
      rw [hnl]
      have hnb : nl ≤ 8589934592 := by rw [← hnl]; exact hll
      clear o3 from3 rs3 f3 hnl hll
      have eb : IntKind.i64.wrap b = b := IntWalk.i64_in _ (by omega)
      go_wp2_with fail
      refine (drop_any w.heap.size g1 v l I1.out b (by omega) w3 F3.out.size S3.out).mono ?_
      rintro x w4 ⟨v4, rfl, s4, k4, h4⟩
      have DL := Lib.hid (drop_law I1.out b)
      have HRA := Lib.hid (redo_all I1.out b)
      obtain ⟨D, hD⟩ : ∃ D, dropL l b = D := ⟨_, rfl⟩
      obtain ⟨gone, hgone⟩ : ∃ z, total l - total D = z := ⟨_, rfl⟩
      have HDE := Lib.hid hD
      rw [hD] at s4 ⊢
      rw [hgone]
      have HG := Lib.hid hgone
      have F4 : Hid (Fine w w4) := Lib.hid (F3.out.kept k4 (fun x hx e => by
        rcases e with e | e
        · omega
        · have := (S3.out.own x e).1; omega))
      have R4 := Lib.hid (AP.out.rs R3.out k4)
      have AP4 : Hid (0 < nl → Apart A3 g1 v4) := Lib.hid (fun hp => AP.out.next R3.out (by rw [HNL.out]; exact hp) h4)
      have S4 := Lib.hid s4
      clear s4 k4 h4 hD hgone
      go_wp2_with fail
      go_loopw [10, 42] (fun s10 s42 wq => ∃ (k : Nat) (back : Int), k ≤ nl ∧ s42 = .int .i64 k ∧ s10 = .int .i64 back ∧ (0 ≤ back ∧ back ≤ 4294967296) ∧ Hid (∃ v lk, Tidy lk ∧ (∀ m, inB lk m = (inB D m || redo b (l.take k) m)) ∧ SetA w.heap.size wq g1 v lk ∧ back = total lk - total D ∧ Fine w wq ∧ RS layR wq A3 c3 l ∧ (0 < nl → Apart A3 g1 v))) (fun _ s42 _ => nl - (intOf s42).toNat)
      case atStart => exact ⟨0, 0, Nat.zero_le _, rfl, rfl, by omega, Lib.hid ⟨v4, D, by rw [← HDE.out]; exact DL.out.1, fun m => by simp [redo], S4.out, by omega, F4.out, R4.out, AP4.out⟩⟩
      case round =>
        obtain ⟨k, back, hk, rfl, rfl, hbk, HJ⟩ := hrel
        obtain ⟨v, lk, j1, j2, j3, j4, j5, j6, j7⟩ := HJ.out
        have J1 := Lib.hid j1; have J2 := Lib.hid j2; have J3 := Lib.hid j3; have J4 := Lib.hid j4; have J5 := Lib.hid j5; have J6 := Lib.hid j6; have J7 := Lib.hid j7
        clear j1 j2 j3 j4 j5 j6 j7 HJ
        by_cases hkt : k < nl
        · obtain ⟨r, hr0⟩ : ∃ r, l[k]? = some r := ⟨_, List.getElem?_eq_getElem (by have := HNL.out; omega)⟩
          have hrm := List.mem_of_getElem? hr0
          have hok := I1.out.ok r hrm
          have HRT := Lib.hid (fun m => redo_take (b := b) hr0 m)
          have HCUT := Lib.hid (fun h => heldR_cut (b := b) I1.out hrm h)
          obtain ⟨bb, o, hA3, hb3, hc⟩ := J6.out.at_ hr0
          subst hA3
          obtain ⟨r1, r2⟩ := r
          have d0 := hc 0 (.int .i64 r1) rfl
          have d1 := hc 1 (.int .i64 r2) rfl
          simp only [← Nat.add_assoc, Nat.add_zero] at d0 d1
          unfold rto at hok
          dsimp only at hok
          clear hc hr0 hrm
          have f5 := (Fine.refl wr).alloc (.cells #[.int .i64 r1, .int .i64 r2] 32)
          by_cases hrb : r1 < b
          · obtain ⟨q, hq⟩ : ∃ q, b - r1 = q := ⟨_, rfl⟩
            have e6 : IntKind.i64.wrap (b - r1) = q := by rw [hq]; exact IntWalk.i64_in _ (by omega)
            obtain ⟨mn, hmn⟩ : ∃ z, (if q < r2 then q else r2) = z := ⟨_, rfl⟩
            have HMN : Hid (min r2 (b - r1) = mn) := Lib.hid (by rw [← hmn, hq, Int.min_def]; split <;> split <;> omega)
            have hmb : -9223372036854775808 ≤ mn ∧ mn ≤ 9223372036854775807 := by rw [← hmn]; split <;> omega
            clear hq
            go_wp2_with fail
            have S5 := J3.out.fine f5
            refine (add_any w.heap.size g1 v lk J1.out r1 mn (by omega) hmb _ (Nat.le_trans J5.out.size f5.size) S5).mono ?_
            rintro x w6 HA
            have F6 := Lib.hid (HA.fine (J5.out.trans f5) (Nat.le_refl _) hwg S5)
            obtain ⟨v', l', rfl, a1, a2, a3, a4, a5⟩ := HA
            have A1 := Lib.hid a1; have A2 := Lib.hid a2; have A3' := Lib.hid a3
            have R6 := Lib.hid ((J7.out (by omega)).rs (J6.out.fine f5) a4)
            have AP6 := Lib.hid ((J7.out (by omega)).next (J6.out.fine f5) (by rw [HNL.out]; omega) a5)
            have hmono := total_mono J1.out a1 (fun m hm => by rw [a2 m, hm]; rfl)
            have hdm : total D ≤ total lk := by have := J4.out; omega
            have hd0 := total_nonneg (HDE.out ▸ DL.out.1 : Tidy D)
            have hle := total_le a1
            obtain ⟨more, hmore⟩ : ∃ z, total l' - total lk = z := ⟨_, rfl⟩
            rw [hmore]
            have e7 : IntKind.i64.wrap (back + more) = back + more := IntWalk.i64_in _ (by omega)
            have hbk2 : 0 ≤ back + more ∧ back + more ≤ 4294967296 := by have := J4.out; omega
            have HM : Hid (back + more = total l' - total D) := Lib.hid (by have := J4.out; omega)
            clear a1 a2 a3 a4 a5 S5 f5 hmono hdm hd0 hle hmore e6 hmn
            go_wp2_with fail
            refine ⟨⟨k + 1, back + more, hkt, by simp, rfl, hbk2, Lib.hid ⟨v', l', A1.out, fun m => ?_, A3'.out, HM.out, F6.out, R6.out, fun _ => AP6.out⟩⟩, by simp only [intOf]; omega⟩
            have hct := HCUT.out hrb
            rw [HMN.out] at hct
            rw [A2.out m, J2.out m, HRT.out m, hct]
            rw [HMN.out, decide_eq_true hrb, Bool.true_and, Bool.or_assoc]
          · have hrb2 : b ≤ r1 := by omega
            go_wp2_with fail
            refine ⟨⟨k + 1, back, hkt, by simp, rfl, hbk, Lib.hid ⟨v, lk, J1.out, fun m => ?_, J3.out.fine f5, J4.out, J5.out.trans f5, J6.out.fine f5, J7.out⟩⟩, by simp only [intOf]; omega⟩
            rw [J2.out m, HRT.out m]
            dsimp only
            rw [decide_eq_false hrb, Bool.false_and, Bool.or_false]
        · have hke : k = nl := by omega
          subst hke
          have hlk : lk = l := Tidy.uniq J1.out I1.out (fun m => by rw [J2.out m, ← HNL.out, List.take_length, ← HDE.out]; exact HRA.out m)
          subst hlk
          have hbg : back = gone := by rw [← HG.out]; exact J4.out
          subst hbg
          have hll : lk.length ≤ 8589934592 := by rw [HNL.out]; exact hnb
          go_wp2_with fail
          refine (runs_any g1 lk hll wr J3.out.set).mono ?_
          rintro x w7 ⟨v7, rfl, o7, f7⟩
          obtain ⟨A7, c7, rfl, rs7, _⟩ := o7.form
          rw [HNL.out]
          have F7 := Lib.hid (J5.out.trans f7)
          have R7 := Lib.hid rs7
          have R3' := Lib.hid (J6.out.fine f7)
          clear o7 rs7 f7 hll
          go_wp2_with fail
          go_loopw [80] (fun s80 wz => ∃ (z : Nat), z ≤ k ∧ s80 = .int .i64 z ∧ Hid (Fine w7 wz)) (fun s80 _ => k - (intOf s80).toNat)
          case atStart => exact ⟨0, Nat.zero_le _, rfl, Lib.hid (Fine.refl _)⟩
          case round =>
            obtain ⟨z, hz, rfl, HZ⟩ := hrel
            by_cases hzt : z < k
            · obtain ⟨r, hr0⟩ : ∃ r, lk[z]? = some r := ⟨_, List.getElem?_eq_getElem (by have := HNL.out; omega)⟩
              obtain ⟨b3, o3, rfl, _, hc3⟩ := (R3'.out.fine HZ.out).at_ hr0
              obtain ⟨b4, o4, rfl, _, hc4⟩ := (R7.out.fine HZ.out).at_ hr0
              obtain ⟨r1, r2⟩ := r
              have d0 := hc3 0 (.int .i64 r1) rfl
              have d1 := hc3 1 (.int .i64 r2) rfl
              have e0 := hc4 0 (.int .i64 r1) rfl
              have e1 := hc4 1 (.int .i64 r2) rfl
              simp only [← Nat.add_assoc, Nat.add_zero] at d0 d1 e0 e1
              clear hc3 hc4 hr0
              go_upto_region 26 with fail
              go_quiet (fail)
              go_wp2_with fail
              exact ⟨⟨z + 1, hzt, by simp, Lib.hid (HZ.out.drewN _)⟩, by simp only [intOf]; omega⟩
            · have hze : z = k := by omega
              subst hze
              go_wp2_with fail
              go_ret
              exact ⟨rfl, F7.out.trans HZ.out⟩
set_option maxHeartbeats 2000000 in
set_option maxRecDepth 20000 in
theorem lawSpanDrops (w : World) (A : Option Addr) (len cap : Nat) (zs : Nat → Nat → Int) (hz : RecsIn .i64 3 w A len cap zs) (m : Int) (wm : (Lit.int .u8 m).wf = true) :
    Calls Try.prog 4 #[.slice A len cap, .int .u8 m] w fun e w' => e = .returned (.bool true) ∧ Below w.heap.size w w' := by
  show Calls _ _ _ _ fun e w' => e = .returned (.bool true) ∧ Fine w w'
  obtain ⟨acts, hn, hr, hb⟩ := acts_rs hz
  by_cases h : len ≤ 60
  · exact spanDrops_main w A len cap h acts hn hr hb m (bounds_u8 wm)
  · clear hz hr hb hn wm
    have h4 : (len : Int) > 60 := by omega
    go_enter Try.func4, Try.ntmps4
    go_wp2_with fail
    refine (wakes_any w).mono ?_
    rintro r w1 ⟨rfl, f1⟩
    have F1 := Lib.hid f1
    clear f1
    go_wp2_with fail
    go_ret
    exact ⟨rfl, F1.out⟩
end Go.Proofs.Ytnigfdldfmiaiaa
