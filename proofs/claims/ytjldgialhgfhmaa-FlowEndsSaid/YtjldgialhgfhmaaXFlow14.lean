/- A flow: what pieces that went lead to. -/
import Derived.Test.YtjldgialhgfhmaaNf
import Derived.Deep.RegionHeld3
namespace Go.Proofs.Ytjldgialhgfhmaa
set_option linter.unusedVariables false
set_option linter.unusedSimpArgs false
open Go.ChangeShapes Go.WideShapes Go.ChangeAt Go.RowKit Go.Maps
set_option linter.unusedVariables false
set_option linter.unusedSimpArgs false
/-- What went leaves of the flow and of what was heard. -/
def WentOf (F : Nat → Prop) (f x : Nat) (S' : Fl) (fi re de fr : Bool) (v : Value) (w w' : World) : Prop :=
  ∃ q A c ros Q D o, FlX F w' f q A c ros Q D S' ∧ Blk w' x 97 (hv o fi re de fr v) ∧ Kept (fun b => F b ∨ b = x) w w'
section
variable {F : Nat → Prop} {w w' w0 : World} {f x : Nat} {S S' : Fl} {fi re de fr : Bool} {v : Value}
/-- The flow's own block has turned alone. -/
theorem WentOf.turn {w1 w2 : World} (hx : ¬ F x) (h : WentOf F f x S fi re de fr v w w1) (hw : ∀ q A c (ros : List Ro), Blk w1 f 111 (fc q S.r.has S.r.s S.r.v S.k S.st S.rcv S.tries S.at_ S.has S.since S.tw (.slice A ros.length c)) → Blk w2 f 111 (fc q S'.r.has S'.r.s S'.r.v S'.k S'.st S'.rcv S'.tries S'.at_ S'.has S'.since S'.tw (.slice A ros.length c))) (k : Kept (· = f) w1 w2) (e1 : S'.ps = S.ps) (e2 : S'.e = S.e) (e3 : S'.out = S.out) : WentOf F f x S' fi re de fr v w w2 := by
  obtain ⟨q, A, c, ros, Q, D, o, hX, hB, hK⟩ := h
  exact ⟨q, A, c, ros, Q, D, o, hX.turned (hw q A c ros hX.box) k e1 e2 e3, hB.kept k (fun e => hx (by have e : x = f := e; rw [e]; exact hX.ff)), hK.trans (k.mono (fun y _ e => .inl (by have e : y = f := e; rw [e]; exact hX.ff)))⟩
theorem WentOf.fine {w1 w2 : World} (h : WentOf F f x S fi re de fr v w w1) (k : Fine w1 w2) : WentOf F f x S fi re de fr v w w2 := by
  obtain ⟨q, A, c, ros, Q, D, o, hX, hB, hK⟩ := h
  exact ⟨q, A, c, ros, Q, D, o, hX.fine k, hB.fine k, hK.trans (Kept.of_fine k)⟩
theorem went_nil (tick : Int) (lA : Option Addr) (lc : Nat) (h : FlS F w f S) : Calls Try.prog 79 #[.pointer (some ⟨f, 0, none⟩), .slice lA 0 lc, .int .i64 tick, .pointer (some ⟨x, 0, none⟩)] w fun e w' => e = .returned (.tuple #[]) ∧ Fine w w' := by
  clear h
  go_enter Try.func79, Try.ntmps79
  go_wp2_with fail
  exact bodyPost_ret (results_none rfl _ _ _) rfl ⟨rfl, Fine.refl w⟩
/-- It has opened. -/
theorem WentOf.opened {w1 : World} (hx : ¬ F x) (h : WentOf F f x S fi re de fr v w w1) : WentOf F f x S fi re de fr v w (w1.setCell ⟨x, 0, none⟩ (.bool true)) := by
  obtain ⟨q, A, c, ros, Q, D, o, hX, hB, hK⟩ := h
  have k : Kept (· = x) w1 (w1.setCell ⟨x, 0, none⟩ (.bool true)) := (Kept.refl (· = x) w1).setIn (p := ⟨x, 0, none⟩) rfl _
  exact ⟨q, A, c, ros, Q, D, true, hX.kept k (fun b hb e => hx (by have e : b = x := e; rw [← e]; exact hb)), hB.set_ 0 (.bool true), hK.trans (k.mono (fun y _ e => .inr e))⟩
theorem WentOf.fits {w1 : World} {q : Nat} {A : Option Addr} {c : Nat} {ros : List Ro} {Q D : Nat → Prop} {o : Bool} {w2 : World} (hx : ¬ F x) (hX : FlX F w1 f q A c ros Q D S) (hB : Blk w1 x 97 (hv o fi re de fr v)) (hK : Kept (fun b => F b ∨ b = x) w w1) (b : Blk w2 f 111 (fc q S'.r.has S'.r.s S'.r.v S'.k S'.st S'.rcv S'.tries S'.at_ S'.has S'.since S'.tw (.slice A ros.length c))) (k : Kept (· = f) w1 w2) (e1 : S'.ps = S.ps) (e2 : S'.e = S.e) (e3 : S'.out = S.out) : WentOf F f x S' fi re de fr v w w2 :=
  ⟨q, A, c, ros, Q, D, o, hX.turned b k e1 e2 e3, hB.kept k (fun e => hx (by have e : x = f := e; rw [e]; exact hX.ff)), hK.trans (k.mono (fun y _ e => .inl (by have e : y = f := e; rw [e]; exact hX.ff)))⟩
section
variable {w1 : World}
theorem wfresh_any (hx : ¬ F x) (h : WentOf F f x S fi re de fr v w w1) : Calls Try.prog 22 #[.pointer (some ⟨f, 1, none⟩)] w1 fun e w' => e = .returned (.tuple #[]) ∧ WentOf F f x ({ S with k := 0 } : Fl) fi re de fr v w w' := by
  obtain ⟨q, A, c, ros, Q, D, o, hX, hB, hK⟩ := h
  refine (ffresh_any hX.box).mono ?_
  rintro r w' ⟨h1, h2, h3⟩
  exact ⟨h1, WentOf.fits (S' := { S with k := 0 }) hx hX hB hK h2 h3 rfl rfl rfl⟩
theorem wrest_any (hx : ¬ F x) (h : WentOf F f x S fi re de fr v w w1) : Calls Try.prog 81 #[.pointer (some ⟨f, 0, none⟩)] w1 fun e w' => e = .returned (.tuple #[]) ∧ WentOf F f x ({ S with at_ := 0, has := false } : Fl) fi re de fr v w w' := by
  obtain ⟨q, A, c, ros, Q, D, o, hX, hB, hK⟩ := h
  refine (frest_any hX.box).mono ?_
  rintro r w' ⟨h1, h2, h3⟩
  exact ⟨h1, WentOf.fits (S' := { S with at_ := 0, has := false }) hx hX hB hK h2 h3 rfl rfl rfl⟩
theorem warm_any (tick : Int) (ht : 0 ≤ tick ∧ tick ≤ 1099511627776) (hr : S.r.ok) (hk : S.k ≤ 16) (hx : ¬ F x) (h : WentOf F f x S fi re de fr v w w1) : Calls Try.prog 84 #[.pointer (some ⟨f, 0, none⟩), .int .i64 tick] w1 fun e w' => e = .returned (.tuple #[]) ∧ WentOf F f x (S.arm tick) fi re de fr v w w' := by
  obtain ⟨q, A, c, ros, Q, D, o, hX, hB, hK⟩ := h
  refine (farm_any tick S.r hr S.k hk ht hX.box).mono ?_
  rintro r w' ⟨h1, h2, h3⟩
  exact ⟨h1, WentOf.fits (S' := S.arm tick) hx hX hB hK h2 h3 rfl rfl rfl⟩
theorem wwaits_any (tick : Int) (ht : 0 ≤ tick ∧ tick ≤ 1099511627776) (hx : ¬ F x) (h : WentOf F f x S fi re de fr v w w1) : Calls Try.prog 85 #[.pointer (some ⟨f, 0, none⟩), .int .i64 tick] w1 fun e w' => e = .returned (.tuple #[]) ∧ WentOf F f x (S.waits tick) fi re de fr v w w' := by
  obtain ⟨q, A, c, ros, Q, D, o, hX, hB, hK⟩ := h
  refine (fwaits_any tick ht hX.box).mono ?_
  rintro r w' ⟨h1, h2, h3⟩
  exact ⟨h1, WentOf.fits (S' := S.waits tick) hx hX hB hK h2 h3 rfl rfl rfl⟩
theorem wst_any (st' : Int) (hx : ¬ F x) (h : WentOf F f x S fi re de fr v w w1) : WentOf F f x ({ S with st := st' } : Fl) fi re de fr v w (w1.setCell ⟨f, 5, none⟩ (.int .i64 st')) := by
  obtain ⟨q, A, c, ros, Q, D, o, hX, hB, hK⟩ := h
  exact WentOf.fits (S' := { S with st := st' }) hx hX hB hK (hX.box.set_ 5 (.int .i64 st')) ((Kept.refl (· = f) w1).setIn (p := ⟨f, 5, none⟩) rfl _) rfl rfl rfl
end
set_option maxHeartbeats 4000000 in
set_option maxRecDepth 20000 in
/-- The estimate, and the deadline. -/
theorem went_any (tick : Int) (ht : 0 ≤ tick ∧ tick ≤ 1099511627776) (hok : S.Ok) (hs : -1099511627776 ≤ S.since ∧ S.since ≤ 1099511627776) (lA : Option Addr) (lc n : Nat) (rs : List Raw) (l : List Pc) {vv : Nat → Prop} (hr : RS layP w lA lc rs) (hi : Iss w vv rs l) (hn : rs.length = n) (hn0 : 0 < n) (hn1 : n ≤ 1000)
    (hlF : ∀ b o, lA = some ⟨b, o, none⟩ → ¬ F b ∧ b ≠ x) (hx : ¬ F x) {o0 : Bool} (hb : Blk w x 97 (hv o0 fi re de fr v)) (h : FlS F w f S) :
    Calls Try.prog 79 #[.pointer (some ⟨f, 0, none⟩), .slice lA n lc, .int .i64 tick, .pointer (some ⟨x, 0, none⟩)] w fun e w' => e = .returned (.tuple #[]) ∧ WentOf F f x (S.went l tick) fi re de fr (.slice lA n lc) w w' := by
  have HW0 : Hid (WentOf F f x S fi re de fr v w w) := Lib.hid (by obtain ⟨q, A, c, ros, Q, D, hX⟩ := h; exact ⟨q, A, c, ros, Q, D, o0, hX, hb, Kept.refl _ _⟩)
  have HOK := Lib.hid hok; have HRS := Lib.hid hr; have HI := Lib.hid hi; have HN := Lib.hid hn; have HLF := Lib.hid hlF; have HXF := Lib.hid hx
  have hl : Hid (l ≠ []) := Lib.hid (by rintro rfl; have := hi.1; simp at this; rw [this] at hn; simp at hn; omega)
  have hlen : Hid (l.length = n) := Lib.hid (by rw [← hi.1]; exact hn)
  have g0 : ((n : Int) == 0) = false := by simp; omega
  clear hr hi hn hlF hx hb h hok
  obtain ⟨tw, htw⟩ : ∃ z, S.tw = z := ⟨_, rfl⟩
  have HTW := Lib.hid htw
  have c8 : w.cell? ⟨f, 11, none⟩ = some (.bool tw) := by
    obtain ⟨q, A, c, ros, Q, D, o, hX, hB, hK⟩ := HW0.out
    have := hX.box.cell 11; rw [htw] at this; exact this
  clear htw
  go_enter Try.func79, Try.ntmps79
  go_upto_region 1 with fail
  clear g0
  go_upto_if 17 with (fail)
  go_cut [] (fun wx => Hid (WentOf F f x (S.sampled tick) fi re de fr v w wx))
  case first =>
    cases tw with
    | true =>
      have e : Hid (S.sampled tick = S) := Lib.hid (by unfold Fl.sampled; rw [if_pos HTW.out])
      go_wp2_with fail
      go_meet
      rw [e.out]
      exact HW0
    | false =>
      have e : Hid (S.sampled tick = ({ S with r := S.r.next (tick - S.since) } : Fl)) := Lib.hid (by unfold Fl.sampled; rw [if_neg (by rw [HTW.out]; decide)])
      obtain ⟨since, hsi⟩ : ∃ z, S.since = z := ⟨_, rfl⟩
      have HSI := Lib.hid hsi
      rw [hsi] at hs
      have e2 : IntKind.i64.wrap (tick - since) = tick - since := IntWalk.i64_in _ (by omega)
      have c10 : w.cell? ⟨f, 10, none⟩ = some (.int .i64 since) := by
        obtain ⟨q, A, c, ros, Q, D, o, hX, hB, hK⟩ := HW0.out
        have := hX.box.cell 10; rw [hsi] at this; exact this
      have HSM : Hid (Calls Try.prog 18 #[.pointer (some ⟨f, 1, none⟩), .int .i64 (tick - since)] w.drew fun e w' => e = .returned (.tuple #[]) ∧ WentOf F f x (S.sampled tick) fi re de fr v w w') := Lib.hid (by
        obtain ⟨q, A, c, ros, Q, D, o, hX, hB, hK⟩ := (HW0.out.fine (Fine.refl w).drew : WentOf F f x S fi re de fr v w w.drew)
        refine (fsample_any S.r HOK.out.r (tick - since) hX.box).mono ?_
        rintro r w' ⟨h1, h2, h3⟩
        rw [e.out, hsi]
        have hsi' := hsi
        exact ⟨h1, q, A, c, ros, Q, D, o, (by have := hX.turned (S' := { S with r := S.r.next (tick - since) }) h2 h3 rfl rfl rfl; rw [← hsi'] at this ⊢; exact this), hB.kept h3 (fun e => HXF.out (by have e : x = f := e; rw [e]; exact hX.ff)), hK.trans (h3.mono (fun y _ e => .inl (by have e : y = f := e; rw [e]; exact hX.ff)))⟩)
      clear hsi hs
      go_upto_region 2 with fail
      go_region_law (first | (go_simp; go_at_call 18; refine HSM.out.mono ?_; rintro r w9 ⟨rfl, h9⟩))
      all_goals
        have H9 := Lib.hid h9
        clear h9
        go_wp2_with fail
        go_meet
        exact H9
  case rest =>
    obtain ⟨S1, hS1⟩ : ∃ z, S.sampled tick = z := ⟨_, rfl⟩
    rw [hS1] at hcut
    have H1 := hcut
    have HS1 := Lib.hid hS1
    have hk1 : Hid (S1.r.ok ∧ S1.ps = S.ps) := Lib.hid (by
      rw [← hS1]
      unfold Fl.sampled
      split
      · exact ⟨HOK.out.r, rfl⟩
      · exact ⟨Est.ok_next HOK.out.r _, rfl⟩)
    clear hS1 hcut c8 HW0
    obtain ⟨w2, hw2⟩ : ∃ z, z = wc := ⟨_, rfl⟩
    subst hw2
    obtain ⟨tr, htr⟩ : ∃ z, w2.cell? ⟨f, 7, none⟩ = some (.int .i64 z) := by obtain ⟨q, A, c, ros, Q, D, o, hX, hB, hK⟩ := H1.out; exact ⟨_, hX.box.cell 7⟩
    obtain ⟨tw2, htw2⟩ : ∃ z, w2.cell? ⟨f, 11, none⟩ = some (.bool z) := by obtain ⟨q, A, c, ros, Q, D, o, hX, hB, hK⟩ := H1.out; exact ⟨_, hX.box.cell 11⟩
    have z7 : w2.frozen? ⟨f, 7, none⟩ = false := by obtain ⟨q, A, c, ros, Q, D, o, hX, hB, hK⟩ := H1.out; exact hX.box.frozen 7
    have z11 : w2.frozen? ⟨f, 11, none⟩ = false := by obtain ⟨q, A, c, ros, Q, D, o, hX, hB, hK⟩ := H1.out; exact hX.box.frozen 11
    have H2 : Hid (WentOf F f x ({ S1 with tries := 0, tw := true } : Fl) fi re de fr v w ((w2.setCell ⟨f, 7, none⟩ (.int .i64 0)).setCell ⟨f, 11, none⟩ (.bool true))) := Lib.hid (by
      obtain ⟨q, A, c, ros, Q, D, o, hX, hB, hK⟩ := H1.out
      exact WentOf.fits (S' := { S1 with tries := 0, tw := true }) HXF.out hX hB hK ((hX.box.set_ 7 (.int .i64 0)).set_ 11 (.bool true)) (((Kept.refl (· = f) w2).setIn (p := ⟨f, 7, none⟩) rfl _).setIn (p := ⟨f, 11, none⟩) rfl _) rfl rfl rfl)
    go_upto_region 4 with fail
    clear htr htw2 z7 z11 H1
    generalize (w2.setCell ⟨f, 7, none⟩ (.int .i64 0)).setCell ⟨f, 11, none⟩ (.bool true) = w3 at H2 ⊢
    have HFR := Lib.hid (wfresh_any HXF.out H2.out)
    clear H2
    go_wp2_with fail
    refine HFR.out.mono ?_
    rintro e w4 ⟨rfl, h4⟩
    have HRE := Lib.hid (wrest_any HXF.out h4)
    clear h4 HFR
    go_wp2_with fail
    refine HRE.out.mono ?_
    rintro e w5 ⟨rfl, h5⟩
    have H5 := Lib.hid h5
    clear h5 HRE
    obtain ⟨q, hc0, hq⟩ : ∃ q, w5.cell? ⟨f, 0, none⟩ = some (.pointer (some ⟨q, 0, none⟩)) ∧ Calls Try.prog 34 #[.pointer (some ⟨q, 0, none⟩)] w5 (fun x w' => x = .returned (.int .i64 (S1.ps.length : Int)) ∧ Fine w5 w') := by
      obtain ⟨q, A, c, ros, Q, D, o, hX, hB, hK⟩ := H5.out
      exact ⟨q, hX.box.cell 0, qlen_any hX.que⟩
    obtain ⟨np, hnp⟩ : ∃ z, S1.ps.length = z := ⟨_, rfl⟩
    rw [hnp] at hq
    have HNP := Lib.hid hnp
    have HQ := Lib.hid hq
    clear hq hnp
    go_wp2_with fail
    refine HQ.out.mono ?_
    rintro e w6 ⟨rfl, f6⟩
    have H6 := Lib.hid (H5.out.fine f6)
    clear f6 HQ hc0 H5
    go_upto_if 45 with (fail)
    go_cut [] (fun wx => Hid (WentOf F f x (S1.renew tick) fi re de fr v w wx))
    case first =>
      by_cases h0 : np = 0
      · have g0 : decide (0 < (np : Int)) = false := decide_eq_false (by omega)
        have e : Hid (S1.renew tick = ({ S1 with tries := 0, tw := true, k := 0, at_ := 0, has := false } : Fl)) := Lib.hid (by unfold Fl.renew; rw [if_pos (List.eq_nil_of_length_eq_zero (by rw [HNP.out]; exact h0))])
        go_wp2_with fail
        go_meet
        rw [e.out]
        exact H6
      · have g0 : decide (0 < (np : Int)) = true := decide_eq_true (by omega)
        have HAR : Hid (Calls Try.prog 84 #[.pointer (some ⟨f, 0, none⟩), .int .i64 tick] w6 fun e w' => e = .returned (.tuple #[]) ∧ WentOf F f x (S1.renew tick) fi re de fr v w w') := Lib.hid (by
          have e : S1.renew tick = ({ S1 with tries := 0, tw := true, k := 0, at_ := 0, has := false } : Fl).arm tick := by unfold Fl.renew; rw [if_neg (fun e => h0 (by rw [← HNP.out, e]; rfl))]
          rw [e]
          exact warm_any tick ht hk1.out.1 (by show 0 ≤ 16; omega) HXF.out H6.out)
        go_wp2_with fail
        refine HAR.out.mono ?_
        rintro e w7 ⟨rfl, h7⟩
        have H7 := Lib.hid h7
        clear h7 HAR
        go_wp2_with fail
        go_meet
        exact H7
    case rest =>
      obtain ⟨S5, hS5⟩ : ∃ z, S1.renew tick = z := ⟨_, rfl⟩
      rw [hS5] at hcut
      have H5 := hcut
      have HS5 := Lib.hid hS5
      clear hS5 hcut H6 HNP
      obtain ⟨w7, hw7⟩ : ∃ z, z = wc := ⟨_, rfl⟩
      subst hw7
      go_wp2_with fail
      go_loopw [51] (fun s51 wr => ∃ i : Nat, i ≤ n ∧ s51 = .int .i64 i ∧ Hid (WentOf F f x ((l.take i).foldl (wentOne tick) S5) fi re de fr v w wr)) (fun s51 _ => n - (intOf s51).toNat)
      case atStart => exact ⟨0, Nat.zero_le _, rfl, Lib.hid H5.out⟩
      case round =>
        obtain ⟨i, hi, rfl, HR⟩ := hrel
        by_cases hlt : i < n
        · obtain ⟨r, hr0⟩ : ∃ r, rs[i]? = some r := ⟨_, List.getElem?_eq_getElem (by have := HN.out; omega)⟩
          obtain ⟨p, hp0⟩ : ∃ p, l[i]? = some p := ⟨_, List.getElem?_eq_getElem (by have := hlen.out; omega)⟩
          obtain ⟨Si, hSi⟩ : ∃ z, (l.take i).foldl (wentOne tick) S5 = z := ⟨_, rfl⟩
          have HNX : Hid ((l.take (i + 1)).foldl (wentOne tick) S5 = wentOne tick Si p) := Lib.hid (by rw [List.take_add_one, hp0, List.foldl_append, hSi]; rfl)
          rw [hSi] at HR
          have HIS := HI.out.2 i r p hr0 hp0
          have hRS : RS layP wr lA lc rs := by
            obtain ⟨q, A, c, ros, Q, D, o, hX, hB, hK⟩ := HR.out
            exact HRS.out.kept hK (fun b o e h => h.elim (fun h => (HLF.out b o e).1 h) (fun h => (HLF.out b o e).2 h))
          obtain ⟨bb, oo, rfl, hb, hc⟩ := hRS.at_ hr0
          obtain ⟨rseq, rsyn, rfin, rA, rlen, rcap, rdsn, rlast⟩ := r
          have HPS : Hid (p.syn = rsyn) := Lib.hid HIS.2.1.symm
          have HPF : Hid (p.fin = rfin) := Lib.hid HIS.2.2.1.symm
          have d0 := hc 0 (.int .u32 rseq) rfl
          have d1 := hc 1 (.bool rsyn) rfl
          have d2 := hc 2 (.bool rfin) rfl
          have d3 := hc 3 (.slice rA rlen rcap) rfl
          have d4 := hc 4 (.int .i64 rdsn) rfl
          have d5 := hc 5 (.bool rlast) rfl
          simp only [← Nat.add_assoc, Nat.add_zero] at d0 d1 d2 d3 d4 d5
          obtain ⟨x9, hx9⟩ : ∃ x, wr.heap.size = x := ⟨_, rfl⟩
          have b5 := Blk.newAt (w := wr) (t := 46) (cs := #[.int .u32 rseq, .bool rsyn, .bool rfin, .slice rA rlen rcap, .int .i64 rdsn, .bool rlast]) hx9.symm
          have f5 := (Fine.refl wr).alloc (.cells #[.int .u32 rseq, .bool rsyn, .bool rfin, .slice rA rlen rcap, .int .i64 rdsn, .bool rlast] 46)
          clear hc hr0 hp0 hb HIS hRS hSi
          go_upto_region 11 with fail
          generalize wr.alloc (.cells #[.int .u32 rseq, .bool rsyn, .bool rfin, .slice rA rlen rcap, .int .i64 rdsn, .bool rlast] 46) = w5 at b5 f5 ⊢
          have B5 := Lib.hid b5; have HW5 := Lib.hid (HR.out.fine f5)
          have p1 : w5.cell? ⟨x9, 1, none⟩ = some (.bool rsyn) := b5.cell 1
          have p2 : w5.cell? ⟨x9, 2, none⟩ = some (.bool rfin) := b5.cell 2
          obtain ⟨st, hst⟩ : ∃ z, Si.st = z := ⟨_, rfl⟩
          have HST := Lib.hid hst
          have c5 : w5.cell? ⟨f, 5, none⟩ = some (.int .i64 st) := by obtain ⟨q, A, c, ros, Q, D, o, hX, hB, hK⟩ := HW5.out; have := hX.box.cell 5; rw [hst] at this; exact this
          clear b5 f5 hx9 d0 d1 d2 d3 d4 d5 HR hst
          cases rsyn with
          | true =>
            by_cases h2 : st = 2
            · subst h2
              have z5 : w5.frozen? ⟨f, 5, none⟩ = false := by obtain ⟨q, A, c, ros, Q, D, o, hX, hB, hK⟩ := HW5.out; exact hX.box.frozen 5
              have zx0 : w5.frozen? ⟨x, 0, none⟩ = false := by obtain ⟨q, A, c, ros, Q, D, o, hX, hB, hK⟩ := HW5.out; exact hB.frozen 0
              obtain ⟨ov, hov⟩ : ∃ z, w5.cell? ⟨x, 0, none⟩ = some (.bool z) := by obtain ⟨q, A, c, ros, Q, D, o, hX, hB, hK⟩ := HW5.out; exact ⟨o, hB.cell 0⟩
              have HW9 : Hid (WentOf F f x (wentOne tick Si p) fi re de fr v w ((w5.setCell ⟨f, 5, none⟩ (.int .i64 3)).setCell ⟨x, 0, none⟩ (.bool true))) := Lib.hid (by rw [show wentOne tick Si p = ({ Si with st := 3 } : Fl) by unfold wentOne; rw [if_pos ⟨HPS.out, HST.out⟩]]; exact (wst_any 3 HXF.out HW5.out).opened HXF.out)
              have hfx : Hid (f ≠ x) := Lib.hid (fun e => HXF.out (by obtain ⟨q, A, c, ros, Q, D, o, hX, hB, hK⟩ := HW5.out; rw [← e]; exact hX.ff))
              have y0 : (w5.setCell ⟨f, 5, none⟩ (.int .i64 3)).cell? ⟨x, 0, none⟩ = some (.bool ov) := by obtain ⟨q, A, c, ros, Q, D, o', hX, hB', hK⟩ := HW5.out; exact ((hB'.kept ((Kept.refl (· = f) w5).setIn (p := ⟨f, 5, none⟩) rfl (.int .i64 3)) (fun e => hfx.out (Eq.symm e))).cell 0).trans ((hB'.cell 0).symm.trans hov)
              have y1 : (w5.setCell ⟨f, 5, none⟩ (.int .i64 3)).frozen? ⟨x, 0, none⟩ = false := by obtain ⟨q, A, c, ros, Q, D, o, hX, hB, hK⟩ := wst_any 3 HXF.out HW5.out; exact hB.frozen 0
              clear HW5 B5
              go_wp2_with fail
              exact ⟨⟨i + 1, hlt, by simp, Lib.hid (by rw [HNX.out]; exact HW9.out)⟩, by simp only [intOf]; omega⟩
            · have g2 : (st == 2) = false := by simpa using h2
              cases rfin with
              | false =>
                have g4 : True := trivial
                have g7 : True := trivial
                have g8 : True := trivial
                clear g4 g7 g8
                have HW9 : Hid (WentOf F f x (wentOne tick Si p) fi re de fr v w w5) := Lib.hid (by rw [show wentOne tick Si p = Si by unfold wentOne; rw [if_neg (fun h => h2 (HST.out.symm.trans h.2)), if_neg (by rw [HPF.out]; simp), if_neg (by rw [HPF.out]; simp), if_neg (by rw [HPF.out]; simp)]]; exact HW5.out)
                clear HW5 B5
                go_wp2_with fail
                exact ⟨⟨i + 1, hlt, by simp, Lib.hid (by rw [HNX.out]; exact HW9.out)⟩, by simp only [intOf]; omega⟩
              | true =>
                have hn2 : ¬ (p.syn = true ∧ Si.st = 2) := fun h => h2 (HST.out.symm.trans h.2)
                have HN2 := Lib.hid hn2
                clear hn2
                by_cases h4 : st = 4
                · subst h4
                  have z5 : w5.frozen? ⟨f, 5, none⟩ = false := by obtain ⟨q, A, c, ros, Q, D, o, hX, hB, hK⟩ := HW5.out; exact hX.box.frozen 5
                  have HW9 : Hid (WentOf F f x (wentOne tick Si p) fi re de fr v w (w5.setCell ⟨f, 5, none⟩ (.int .i64 5))) := Lib.hid (by rw [show wentOne tick Si p = ({ Si with st := 5 } : Fl) by unfold wentOne; rw [if_neg HN2.out, if_pos ⟨HPF.out, HST.out⟩]]; exact wst_any 5 HXF.out HW5.out)
                  clear HW5 B5
                  go_wp2_with fail
                  exact ⟨⟨i + 1, hlt, by simp, Lib.hid (by rw [HNX.out]; exact HW9.out)⟩, by simp only [intOf]; omega⟩
                · have g4 : (st == 4) = false := by simpa using h4
                  by_cases h7 : st = 7
                  · subst h7
                    have HWW : Hid (Calls Try.prog 85 #[.pointer (some ⟨f, 0, none⟩), .int .i64 tick] w5 fun e w' => e = .returned (.tuple #[]) ∧ WentOf F f x (wentOne tick Si p) fi re de fr v w w') := Lib.hid (by rw [show wentOne tick Si p = Si.waits tick by unfold wentOne; rw [if_neg HN2.out, if_neg (by rw [HST.out]; omega), if_pos ⟨HPF.out, HST.out⟩]]; exact wwaits_any tick ht HXF.out HW5.out)
                    clear HW5
                    go_wp2_with fail
                    refine HWW.out.mono ?_
                    rintro e w6 ⟨rfl, h6⟩
                    have HW9 := Lib.hid h6
                    clear h6 HWW B5
                    go_wp2_with fail
                    exact ⟨⟨i + 1, hlt, by simp, Lib.hid (by rw [HNX.out]; exact HW9.out)⟩, by simp only [intOf]; omega⟩
                  · have g7 : (st == 7) = false := by simpa using h7
                    by_cases h8 : st = 8
                    · subst h8
                      have z5 : w5.frozen? ⟨f, 5, none⟩ = false := by obtain ⟨q, A, c, ros, Q, D, o, hX, hB, hK⟩ := HW5.out; exact hX.box.frozen 5
                      have HW9 : Hid (WentOf F f x (wentOne tick Si p) fi re de fr v w (w5.setCell ⟨f, 5, none⟩ (.int .i64 10))) := Lib.hid (by rw [show wentOne tick Si p = ({ Si with st := 10 } : Fl) by unfold wentOne; rw [if_neg HN2.out, if_neg (by rw [HST.out]; omega), if_neg (by rw [HST.out]; omega), if_pos ⟨HPF.out, HST.out⟩]]; exact wst_any 10 HXF.out HW5.out)
                      clear HW5 B5
                      go_wp2_with fail
                      exact ⟨⟨i + 1, hlt, by simp, Lib.hid (by rw [HNX.out]; exact HW9.out)⟩, by simp only [intOf]; omega⟩
                    · have g8 : (st == 8) = false := by simpa using h8
                      have HW9 : Hid (WentOf F f x (wentOne tick Si p) fi re de fr v w w5) := Lib.hid (by rw [show wentOne tick Si p = Si by unfold wentOne; rw [if_neg HN2.out, if_neg (fun h => h4 (HST.out.symm.trans h.2)), if_neg (fun h => h7 (HST.out.symm.trans h.2)), if_neg (fun h => h8 (HST.out.symm.trans h.2))]]; exact HW5.out)
                      clear HW5 B5
                      go_wp2_with fail
                      exact ⟨⟨i + 1, hlt, by simp, Lib.hid (by rw [HNX.out]; exact HW9.out)⟩, by simp only [intOf]; omega⟩
          | false =>
            have hn2 : ¬ (p.syn = true ∧ Si.st = 2) := fun h => by have := HPS.out.symm.trans h.1; cases this
            have HN2 := Lib.hid hn2
            clear hn2
            cases rfin with
            | false =>
              have HW9 : Hid (WentOf F f x (wentOne tick Si p) fi re de fr v w w5) := Lib.hid (by rw [show wentOne tick Si p = Si by unfold wentOne; rw [if_neg HN2.out, if_neg (by rw [HPF.out]; simp), if_neg (by rw [HPF.out]; simp), if_neg (by rw [HPF.out]; simp)]]; exact HW5.out)
              clear HW5 B5
              go_wp2_with fail
              exact ⟨⟨i + 1, hlt, by simp, Lib.hid (by rw [HNX.out]; exact HW9.out)⟩, by simp only [intOf]; omega⟩
            | true =>
              by_cases h4 : st = 4
              · subst h4
                have z5 : w5.frozen? ⟨f, 5, none⟩ = false := by obtain ⟨q, A, c, ros, Q, D, o, hX, hB, hK⟩ := HW5.out; exact hX.box.frozen 5
                have HW9 : Hid (WentOf F f x (wentOne tick Si p) fi re de fr v w (w5.setCell ⟨f, 5, none⟩ (.int .i64 5))) := Lib.hid (by rw [show wentOne tick Si p = ({ Si with st := 5 } : Fl) by unfold wentOne; rw [if_neg HN2.out, if_pos ⟨HPF.out, HST.out⟩]]; exact wst_any 5 HXF.out HW5.out)
                clear HW5 B5
                go_wp2_with fail
                exact ⟨⟨i + 1, hlt, by simp, Lib.hid (by rw [HNX.out]; exact HW9.out)⟩, by simp only [intOf]; omega⟩
              · have g4 : (st == 4) = false := by simpa using h4
                by_cases h7 : st = 7
                · subst h7
                  have HWW : Hid (Calls Try.prog 85 #[.pointer (some ⟨f, 0, none⟩), .int .i64 tick] w5 fun e w' => e = .returned (.tuple #[]) ∧ WentOf F f x (wentOne tick Si p) fi re de fr v w w') := Lib.hid (by rw [show wentOne tick Si p = Si.waits tick by unfold wentOne; rw [if_neg HN2.out, if_neg (by rw [HST.out]; omega), if_pos ⟨HPF.out, HST.out⟩]]; exact wwaits_any tick ht HXF.out HW5.out)
                  clear HW5
                  go_wp2_with fail
                  refine HWW.out.mono ?_
                  rintro e w6 ⟨rfl, h6⟩
                  have HW9 := Lib.hid h6
                  clear h6 HWW B5
                  go_wp2_with fail
                  exact ⟨⟨i + 1, hlt, by simp, Lib.hid (by rw [HNX.out]; exact HW9.out)⟩, by simp only [intOf]; omega⟩
                · have g7 : (st == 7) = false := by simpa using h7
                  by_cases h8 : st = 8
                  · subst h8
                    have z5 : w5.frozen? ⟨f, 5, none⟩ = false := by obtain ⟨q, A, c, ros, Q, D, o, hX, hB, hK⟩ := HW5.out; exact hX.box.frozen 5
                    have HW9 : Hid (WentOf F f x (wentOne tick Si p) fi re de fr v w (w5.setCell ⟨f, 5, none⟩ (.int .i64 10))) := Lib.hid (by rw [show wentOne tick Si p = ({ Si with st := 10 } : Fl) by unfold wentOne; rw [if_neg HN2.out, if_neg (by rw [HST.out]; omega), if_neg (by rw [HST.out]; omega), if_pos ⟨HPF.out, HST.out⟩]]; exact wst_any 10 HXF.out HW5.out)
                    clear HW5 B5
                    go_wp2_with fail
                    exact ⟨⟨i + 1, hlt, by simp, Lib.hid (by rw [HNX.out]; exact HW9.out)⟩, by simp only [intOf]; omega⟩
                  · have g8 : (st == 8) = false := by simpa using h8
                    have HW9 : Hid (WentOf F f x (wentOne tick Si p) fi re de fr v w w5) := Lib.hid (by rw [show wentOne tick Si p = Si by unfold wentOne; rw [if_neg HN2.out, if_neg (fun h => h4 (HST.out.symm.trans h.2)), if_neg (fun h => h7 (HST.out.symm.trans h.2)), if_neg (fun h => h8 (HST.out.symm.trans h.2))]]; exact HW5.out)
                    clear HW5 B5
                    go_wp2_with fail
                    exact ⟨⟨i + 1, hlt, by simp, Lib.hid (by rw [HNX.out]; exact HW9.out)⟩, by simp only [intOf]; omega⟩
        · have hie : i = n := by omega
          subst hie
          have e : Hid (S.went l tick = (l.take i).foldl (wentOne tick) S5) := Lib.hid (by
            unfold Fl.went
            rw [if_neg hl.out, HS1.out, HS5.out, ← hlen.out, List.take_length])
          obtain ⟨xv, hxv⟩ : ∃ z, wr.cell? ⟨x, 5, none⟩ = some z := by obtain ⟨q, A, c, ros, Q, D, o, hX, hB, hK⟩ := HR.out; exact ⟨_, hB.cell 5⟩
          have zx : wr.frozen? ⟨x, 5, none⟩ = false := by obtain ⟨q, A, c, ros, Q, D, o, hX, hB, hK⟩ := HR.out; exact hB.frozen 5
          clear hlt
          go_wp2_with fail
          refine bodyPost_end (v := .tuple #[]) (by simp [results, Try.results79, go_sem]) rfl ⟨rfl, ?_⟩
          rw [e.out]
          obtain ⟨q, A, c, ros, Q, D, o, hX, hB, hK⟩ := HR.out
          have k : Kept (· = x) wr (wr.setCell ⟨x, 5, none⟩ (.slice lA i lc)) := (Kept.refl (· = x) wr).setIn (p := ⟨x, 5, none⟩) rfl _
          exact ⟨q, A, c, ros, Q, D, o, hX.kept k (fun b hb e => HXF.out (by have e : b = x := e; rw [← e]; exact hb)), hB.set_ 5 _, hK.trans (k.mono (fun y _ e => .inr e))⟩
end
end Go.Proofs.Ytjldgialhgfhmaa
