/- The law DsendEnd. -/
import Derived.Test.YtnigfdldfmiaiaaXSnd16
namespace Go.Proofs.Ytnigfdldfmiaiaa
set_option linter.unusedVariables false
set_option linter.unusedSimpArgs false
open Go.ChangeShapes Go.WideShapes Go.ChangeAt Go.RowKit Go.Maps
set_option linter.unusedVariables false
set_option linter.unusedSimpArgs false
def snNx (w : World) (s : Nat) : Int := match w.cell? ⟨s, 2, none⟩ with | some v => intOf v | none => 0
theorem SnI.nx_ {F : Nat → Prop} {w : World} {s : Nat} {T : Sn} {L : Int → Bool} (h : SnI F w s T L) : snNx w s = T.nx := by
  obtain ⟨A, c, gs, v, l, hX, hL⟩ := h
  have := hX.box.cell 2
  unfold snNx
  rw [show w.cell? ⟨s, 2, none⟩ = some (.int .i64 T.nx) from this]
  rfl
theorem take_one {xs : List Int} {i : Nat} (h : i < xs.length) : (xs.drop i).take 1 = [xs.getD i 0] := by
  rw [List.drop_eq_getElem_cons h, List.take_succ_cons, List.take_zero]
  simp [List.getD, h]
/-- Just the one number that was lost is taken. -/
theorem take_lone {T : Sn} {L L' : Int → Bool} {at_ dsn nx' : Int} {n : Nat} (hL : ∀ m, L m = decide (m = at_)) (hp : TakeP T L 8 dsn n nx' L') : dsn = at_ ∧ n = 1 ∧ nx' = T.nx ∧ ∀ m, L' m = false := by
  rcases hp with ⟨_, p2, p3, p4, p5, p6, p7, p8, p9, p10⟩ | ⟨q1, _⟩
  · have h1 := p7 dsn (Int.le_refl _) (by omega)
    rw [hL] at h1
    have h1 : dsn = at_ := of_decide_eq_true h1
    have h2 : n = 1 := by
      rcases Nat.lt_or_ge 1 n with h | h
      · have h3 := p7 (dsn + 1) (by omega) (by omega)
        rw [hL] at h3
        have h3 : dsn + 1 = at_ := of_decide_eq_true h3
        omega
      · omega
    refine ⟨h1, h2, p9, fun m => ?_⟩
    rw [p10, hL]
    subst h1 h2
    rw [Bool.eq_false_iff]
    simp
    omega
  · have := q1 at_
    rw [hL] at this
    simp at this
set_option maxHeartbeats 8000000 in
set_option maxRecDepth 20000 in
theorem dsendEnd_main (w : World) (A : Option Addr) (n cap : Nat) (xs : List Int) (hn0 : 0 < n ∧ n ≤ 32) (hxn : xs.length = n) (hxr : RS layB w A cap xs) (m : Int) (hm : 0 ≤ m ∧ m ≤ 255) :
    Calls Try.prog 15 #[.slice A n cap, .int .u8 m] w fun r w' => r = .returned (.bool true) ∧ Fine w w' := by
  have HXR := Lib.hid hxr; have HXN := Lib.hid hxn
  obtain ⟨f0, hf0⟩ : ∃ k : Nat, m.tmod (n : Int) = (k : Int) := ⟨(m.tmod (n : Int)).toNat, by have := Int.tmod_nonneg (n : Int) hm.1; omega⟩
  have hfb : f0 < n := by have := Int.tmod_lt_of_pos m (b := (n : Int)) (by omega); omega
  obtain ⟨av, hav⟩ : ∃ z : Int, 1 + (f0 : Int) = z := ⟨_, rfl⟩
  have em : IntKind.i64.wrap m = m := IntWalk.i64_in _ (by omega)
  have ek : IntKind.i64.wrap (f0 : Int) = (f0 : Int) := IntWalk.i64_in _ (by omega)
  have ea : IntKind.i64.wrap (1 + (f0 : Int)) = av := by rw [hav]; exact IntWalk.i64_in _ (by omega)
  have ea1 : IntKind.i64.wrap (av - 1) = (f0 : Int) := by rw [show av - 1 = (f0 : Int) by omega]; exact IntWalk.i64_in _ (by omega)
  have en0 : ((n : Int) == 0) = false := by simp; omega
  have hg1 : ¬ (n : Int) > 32 := by omega
  have hg1' : decide (32 < (n : Int)) = false := decide_eq_false hg1
  obtain ⟨n1, hn1⟩ : ∃ z : Int, (n : Int) + 1 = z := ⟨_, rfl⟩
  obtain ⟨n2, hn2⟩ : ∃ z : Int, (n : Int) + 2 = z := ⟨_, rfl⟩
  have e1 : IntKind.i64.wrap ((n : Int) + 1) = n1 := by rw [hn1]; exact IntWalk.i64_in _ (by omega)
  have e2 : IntKind.i64.wrap ((n : Int) + 2) = n2 := by rw [hn2]; exact IntWalk.i64_in _ (by omega)
  have HN1 := Lib.hid hn1; have HN2 := Lib.hid hn2; have HAV := Lib.hid hav
  have havb : 1 ≤ av ∧ av ≤ 32 ∧ av ≤ (n : Int) := by omega
  clear hxr hxn hn1 hn2 hav
  go_enter Try.func15, Try.ntmps15
  go_wp2_with fail
  refine (dsendWakes_any w).mono ?_
  rintro r w1 ⟨rfl, f1⟩
  have F1 := Lib.hid f1
  clear f1
  go_wp2_with fail
  refine (sn_new w1).mono ?_
  rintro r w2 ⟨s, rfl, h2, f2⟩
  have hs12 := F1.out.size
  have H2 : Hid (SnJ w w2 s _ _ _ 1) := Lib.hid ⟨h2, Sn.ok0, fun x hx => by have := hx.1; omega, F1.out.trans f2⟩
  clear h2 f2
  go_wp2_with fail
  refine (sn_write n cap A xs HXN.out (by omega) (by simp) w2 (HXR.out.fine H2.out.fine) H2.out.st).mono ?_
  rintro r w3 ⟨F3, rfl, x3, k3, hF3⟩
  have hw3 : (Sn.wrote ⟨1, 1, 33, [], false, false⟩ xs) = ⟨1, 1, 33, xs, false, false⟩ := by
    have h1 : wrN ⟨1, 1, 33, [], false, false⟩ xs = xs.length := by unfold wrN; have := HXN.out; simp; omega
    simp only [Sn.wrote, h1, List.take_length, List.nil_append]
  have ok3 := (H2.out.ok.wrote xs).more (show (1 : Int) + 100 ≤ 1000 by omega)
  rw [hw3] at x3 ok3
  have J3 := Lib.hid (H2.out.moved k3 x3 ok3 hF3)
  clear x3 k3 hF3 hw3 ok3
  go_wp2_with fail
  refine (sn_end w3 J3.out.st).mono ?_
  rintro r w4 ⟨rfl, x4, k4⟩
  have ok4 : (⟨1, 1, 33, xs, true, false⟩ : Sn).Ok (fun _ => false) 1000 := by obtain ⟨o1, o2, o3, o4, o5, o6, o7, o8⟩ := J3.out.ok; exact ⟨o1, o2, o3, o4, o5, o6, o7, o8⟩
  have J4 : Hid (SnJ w w4 s F3 ⟨1, 1, 33, xs, true, false⟩ (fun _ => false) 1000) := Lib.hid (J3.out.moved k4 x4 ok4 (fun y hy => .inl hy))
  rw [show (if (false : Bool) = true then (8 : Int) else 0) = 0 from rfl]
  clear x4 k4 ok4
  go_wp2_with fail
  go_loopw [] (fun wr => Hid (∃ F nx, SnJ w wr s F ⟨1, nx, 33, xs, true, false⟩ (fun _ => false) 1000 ∧ 1 ≤ nx ∧ nx ≤ (n : Int))) (fun wr => ((n : Int) + 1 - snNx wr s).toNat)
  case atStart => exact Lib.hid ⟨F3, 1, J4.out, by omega, by omega⟩
  case round =>
    obtain ⟨F, nx, j1, hnx1, hnx2⟩ := hrel.out
    have J1 := Lib.hid j1
    have hms := j1.st.nx_
    dsimp only at hms
    rw [hms]
    clear j1 hms
    go_wp2_with fail
    refine (sn_due (by omega) J1.out.ok wr J1.out.st).mono ?_
    rintro r w5 ⟨f5, hd⟩
    have hr : r = .returned (.tuple #[.int .i64 0, .bool false]) := by
      rcases hd with ⟨h1, _⟩ | ⟨_, h2⟩
      · have := h1.2.2.1
        have h3 := HXN.out
        dsimp only at this
        omega
      · exact h2
    subst hr
    have J5 := Lib.hid (J1.out.wfine f5)
    clear hd f5
    go_wp2_with fail
    refine (sn_take 8 (by omega) J5.out.ok w5 J5.out.st).mono ?_
    rintro r w6 ⟨dsn, k, A7, c7, F9, nx9, L9, rfl, o7, x7, k7, hF7, hp, hd7⟩
    obtain ⟨ok7, hk8, hpos, hnn, hlen⟩ := J5.out.ok.took hp
    have hq : (∀ m, L9 m = false) ∧ nx9 = nx + k ∧ 0 < k ∧ nx9 ≤ (n : Int) + 1 := by
      rcases hp with ⟨⟨q, hq⟩, _⟩ | ⟨_, q2, q3, q4, _⟩
      · cases hq
      · have h3 := HXN.out
        unfold tkM at q3
        dsimp only at q3 q4
        exact ⟨q2, q4, by omega, by omega⟩
    obtain ⟨hL9, hnx9, hk0, hnxn⟩ := hq
    have hL9' : L9 = fun _ => false := funext hL9
    subst hL9'
    have J6 : Hid (SnJ w w6 s F9 ⟨1, nx9, 33, xs, true, false⟩ (fun _ => false) 1000) := Lib.hid (J5.out.moved k7 x7 ok7 hF7)
    clear o7 x7 k7 hF7 hp ok7 hlen hpos hL9 hnn
    have q1 : ((k : Int) == 0) = false := by simp; omega
    have hmz : nx < nx9 := by omega
    clear hnx9
    go_wp2_with fail
    refine (sn_next rfl w6 J6.out.st).mono ?_
    rintro r w7 ⟨rfl, f7⟩
    have J7 := Lib.hid (J6.out.wfine f7)
    clear f7
    by_cases hend : nx9 = n1
    · have g1 : (nx9 == n1) = true := by simpa using hend
      have J7e : Hid (SnJ w w7 s F9 ⟨1, n1, 33, xs, true, false⟩ (fun _ => false) 1000) := Lib.hid (by have := J7.out; rw [hend] at this; exact this)
      have hn1b : 1 ≤ n1 ∧ n1 ≤ 33 := by have := HN1.out; omega
      clear hend hnx1 hnx2 hnxn hmz J1 J5 J6 J7
      go_wp2_with fail
      refine (sn_due (by omega) J7e.out.ok w7 J7e.out.st).mono ?_
      rintro r w8 ⟨f8, hd⟩
      have hr : r = .returned (.tuple #[.int .i64 n1, .bool true]) := by
        rcases hd with ⟨h1, h2⟩ | ⟨h1, _⟩
        · rw [h2]
          have h3 := HXN.out; have h4 := HN1.out
          dsimp only
          rw [h3, show (1 : Int) + (n : Int) = n1 by omega]
        · refine absurd ⟨rfl, rfl, ?_, fun _ => rfl⟩ h1
          have h3 := HXN.out; have h4 := HN1.out
          dsimp only
          omega
      subst hr
      have J8 := Lib.hid (J7e.out.wfine f8)
      have g2 : (n1 != n1) = false := by simp
      clear hd f8
      go_upto_region 20 with fail
      go_wp2_with fail
      refine (sn_lost av 1 (by omega) (by omega) (by omega) J8.out.ok w8 J8.out.st).mono ?_
      rintro r w9 ⟨F10, L10, rfl, hL10, x9, k9, hF9⟩
      have hL : ∀ m, L10 m = decide (m = av) := fun m => by
        rw [hL10]
        unfold lostB
        have h4 := HN1.out
        dsimp only
        rw [Bool.false_or, Bool.eq_iff_iff]
        simp
        omega
      have J9 := Lib.hid (J8.out.moved k9 x9 (J8.out.ok.lost_ hL10) hF9)
      have HL := Lib.hid hL
      clear hL hL10 x9 k9 hF9
      go_wp2_with fail
      refine (sn_due (by omega) J9.out.ok w9 J9.out.st).mono ?_
      rintro r w10 ⟨f10, hd⟩
      have hr : r = .returned (.tuple #[.int .i64 0, .bool false]) := by
        rcases hd with ⟨h1, _⟩ | ⟨_, h2⟩
        · have := h1.2.2.2 av
          rw [HL.out] at this
          simp at this
        · exact h2
      subst hr
      have J10 := Lib.hid (J9.out.wfine f10)
      clear hd f10
      go_wp2_with fail
      refine (sn_take 8 (by omega) J10.out.ok w10 J10.out.st).mono ?_
      rintro r w11 ⟨dsn, k, A7, c7, F11, nx11, L11, rfl, o11, x11, k11, hF11, hp, hd11⟩
      obtain ⟨ok11, _, _, _, hlen⟩ := J10.out.ok.took hp
      obtain ⟨hd1, hk1, hnx11, hL11⟩ := take_lone HL.out hp
      subst hk1 hd1
      dsimp only at hnx11
      have hnx11 := hnx11.symm
      subst hnx11
      have hL11' : L11 = fun _ => false := funext hL11
      subst hL11'
      have hbb : (List.take 1 (List.drop (dsn - 1).toNat xs)) = [xs.getD f0 0] := by
        have := HAV.out
        rw [show (dsn - 1).toNat = f0 by omega]
        exact take_one (by rw [HXN.out]; exact hfb)
      dsimp only at o11
      rw [hbb] at o11
      have J11 : Hid (SnJ w w11 s F11 ⟨1, n1, 33, xs, true, false⟩ (fun _ => false) 1000) := Lib.hid (J10.out.moved k11 x11 ok11 hF11)
      obtain ⟨y, hy⟩ : ∃ y, xs.getD f0 0 = y := ⟨_, rfl⟩
      rw [hy] at o11
      obtain ⟨b4, f4, rfl, hc4⟩ := cells_bytes (n := 1) (xs := [y]) rfl (by omega) o11.rs.1
      have d4 := hc4 0 (by omega)
      obtain ⟨b5, f5, rfl, _, hc5⟩ := (HXR.out.fine J11.out.fine).atI (i := f0) (by rw [HXN.out]; exact hfb)
      rw [hy] at hc5
      rw [show ([y] : List Int).getD 0 0 = y from rfl, Nat.add_zero] at d4
      have g3 : (dsn != dsn) = false := by simp
      have g4 : (y != y) = false := by simp
      clear o11 x11 k11 hF11 hp ok11 hlen hL11 hbb hy hc4 J10 J9 J8
      go_upto_region 25 with fail
      go_quiet (fail)
      have J12 := Lib.hid (J11.out.wfine ((Fine.refl w11).drewN nq))
      generalize w11.drewN nq = w12 at J12 ⊢
      clear d4 hc5
      go_wp2_with fail
      refine (sn_ack n2 0 (by omega) J12.out.ok w12 J12.out.st).mono ?_
      rintro r w13 ⟨F13, L13, x13, k13, hF13, hp⟩
      have hok : ackOk ⟨1, n1, 33, xs, true, false⟩ n2 0 := by
        have h1 := HN1.out; have h2 := HN2.out; have h3 := HXN.out
        refine ⟨by dsimp only; omega, ?_, by omega, by omega⟩
        dsimp only
        unfold mostV
        rw [if_pos (by simp; omega)]
        omega
      have hok13 := J12.out.ok.acked_ (hp.imp (fun h => ⟨h.1, h.2.2⟩) (fun h => ⟨h.1, h.2.2⟩))
      have hr : ∃ z, r = .returned (.tuple #[.int .i64 z, .bool true]) := hp.elim (fun h => ⟨_, h.2.1⟩) (fun h => absurd hok h.1)
      obtain ⟨z, rfl⟩ := hr
      rw [if_pos hok] at x13 hok13
      have ht : (Sn.acked ⟨1, n1, 33, xs, true, false⟩ n2 0).done = true ∧ (Sn.acked ⟨1, n1, 33, xs, true, false⟩ n2 0).told = true ∧ (Sn.acked ⟨1, n1, 33, xs, true, false⟩ n2 0).buf.length = 0 := by
        have h1 := HN1.out; have h2 := HN2.out; have h3 := HXN.out
        simp only [Sn.acked, List.length_drop]
        refine ⟨?_, (by first | rfl | trivial), by omega⟩
        rw [decide_eq_true (by omega)]
        rfl
      have J13 := Lib.hid (J12.out.moved k13 x13 hok13 hF13)
      generalize Sn.acked ⟨1, n1, 33, xs, true, false⟩ n2 0 = T9 at J13 ht
      have HT := Lib.hid ht
      clear x13 k13 hF13 hp hok13 hok ht
      go_wp2_with fail
      refine (sn_due (by omega) J13.out.ok w13 J13.out.st).mono ?_
      rintro r w14 ⟨f14, hd⟩
      have hr : r = .returned (.tuple #[.int .i64 0, .bool false]) := by
        rcases hd with ⟨h1, _⟩ | ⟨_, h2⟩
        · have := h1.2.1
          rw [HT.out.1] at this
          cases this
        · exact h2
      subst hr
      have J14 := Lib.hid (J13.out.wfine f14)
      clear hd f14
      have f15 : Fine w14 (w14.alloc (.cells #[.int .u8 1] 5)) := (Fine.refl w14).alloc _
      have e15 : wrN T9 [1] = 0 ∧ wrE T9 [1] = 11 := ⟨by unfold wrN; rw [if_pos HT.out.2.1], by unfold wrE; rw [if_pos HT.out.2.1]⟩
      have HE15 := Lib.hid e15
      have F15H := Lib.hid f15
      clear f15 e15
      go_wp2_with fail
      refine (sn_write 1 1 (some ⟨w14.heap.size, 0, none⟩) [1] rfl (by omega) J14.out.ok.b64 _ (RS.ofBlk (Blk.newAt rfl) rfl rfl (by unfold maxLen; omega)) (J14.out.st.fine F15H.out)).mono ?_
      rintro r w15 ⟨F15, rfl, x15, k15, hF15⟩
      rw [HE15.out.1, HE15.out.2]
      have J15 := Lib.hid ((J14.out.wfine F15H.out).moved k15 x15 (J14.out.ok.wrote [1]) hF15)
      have HT15 : Hid ((T9.wrote [1]).done = true ∧ (T9.wrote [1]).buf.length = 0) := Lib.hid ⟨HT.out.1, by rw [wrote_len, HE15.out.1, HT.out.2.2]⟩
      clear x15 k15 hF15
      go_wp2_with fail
      refine (sn_done HT15.out.1 w15 J15.out.st).mono ?_
      rintro r w16 ⟨rfl, f16⟩
      have J16 := Lib.hid (J15.out.wfine f16)
      clear f16
      go_wp2_with fail
      refine (sn_held HT15.out.2 w16 J16.out.st).mono ?_
      rintro r w17 ⟨rfl, f17⟩
      have J17 := Lib.hid (J16.out.wfine f17)
      clear f17
      go_wp2_with fail
      go_ret
      exact ⟨rfl, J17.out.fine⟩
    · have g1 : (nx9 == n1) = false := by simpa using hend
      have hlt : nx9 ≤ (n : Int) := by have := HN1.out; omega
      go_wp2_with fail
      refine ⟨Lib.hid ⟨F9, nx9, J7.out, by omega, hlt⟩, ?_⟩
      have := J7.out.st.nx_
      dsimp only at this
      rw [this]
      omega
set_option maxHeartbeats 2000000 in
set_option maxRecDepth 20000 in
theorem lawDsendEnd (w : World) (A : Option Addr) (len cap : Nat) (zs : List Int) (hz : IntsIn .u8 w A len cap zs) (m : Int) (wm : (Lit.int .u8 m).wf = true) :
    Calls Try.prog 15 #[.slice A len cap, .int .u8 m] w fun e w' => e = .returned (.bool true) ∧ Below w.heap.size w w' := by
  show Calls _ _ _ _ fun e w' => e = .returned (.bool true) ∧ Fine w w'
  obtain ⟨h1, h2, h3⟩ := ints_rs hz
  by_cases hl : 0 < len ∧ len ≤ 32
  · exact dsendEnd_main w A len cap zs hl h1 h2 m (bounds_u8 wm)
  · clear h1 h2 h3 hz wm
    have key : ∀ K : Prop, (decide (32 < (len : Int)) = true → K) → (decide (32 < (len : Int)) = false → ((len : Int) == 0) = true → K) → K := fun K a b => by
      by_cases h : 32 < len
      · exact a (by simp; omega)
      · exact b (by simp; omega) (by simp; omega)
    refine key _ (fun g1 => ?_) (fun g1 g2 => ?_)
    all_goals
      clear key hl
      go_enter Try.func15, Try.ntmps15
      go_wp2_with fail
      refine (dsendWakes_any w).mono ?_
      rintro r w1 ⟨rfl, f1⟩
      have F1 := Lib.hid f1
      clear f1
      go_wp2_with fail
      go_ret
      exact ⟨rfl, F1.out⟩
end Go.Proofs.Ytnigfdldfmiaiaa
