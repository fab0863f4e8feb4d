/- The law PathJoins walked. -/
import Derived.Test.YtbgdcpecpcmjdaaPath6
import Derived.Test.YtbgdcpecpcmjdaaPathPlain2
import Derived.Deep.LoopGhost
namespace Go.Proofs.Ytbgdcpecpcmjdaa
open Go.ChangeShapes Go.WideShapes Go.ChangeAt Go.RowKit
set_option linter.unusedVariables false

theorem IntsIn.at_ {k : IntKind} {w : World} {a : Option Addr} {len cap : Nat} {zs : List Int} (h : IntsIn k w a len cap zs) {i : Nat} (hi : i < len) :
    ∃ b off, a = some ⟨b, off, none⟩ ∧ b < w.heap.size ∧ w.cell? ⟨b, off + i, none⟩ = some (.int k (zs.getD i 0)) ∧ (Lit.int k (zs.getD i 0)).wf = true := by
  obtain ⟨h1, h2, h3, h4, h5, h6⟩ := h
  obtain ⟨b, off, e, hb, hc⟩ := h6 (by omega)
  exact ⟨b, off, e, hb, hc i hi, h5 _ (getD_mem zs i (by omega))⟩
theorem inv_fresh (m : Int) : Inv (freshL 0 0) (clampM m) :=
  ⟨by decide, fun a b ha hb => (show ∀ a, a < 4 → ∀ b, b < 4 → flowB (freshL 0 0) a b = true → ownB (freshL 0 0) a = true ∧ othB (freshL 0 0) b = true by decide +kernel) a ha b hb, by
    have : (pairsN (freshL 0 0) 4).length = 1 := by decide +kernel
    rw [this]; unfold clampM; omega⟩
/-- What Next told, in a block of the loop's. -/
def Told (r : Option (Int × Int)) (x y : Int) (is : Bool) : Prop := match r with | none => x = 0 ∧ y = 0 ∧ is = false | some (a, b) => x = a ∧ y = b ∧ is = true
theorem nextV_told (r : Option (Int × Int)) : ∃ x y is, nextV r = .tuple #[.agg #[.int .i64 x, .int .i64 y], .bool is] ∧ Told r x y is := by
  cases r with
  | none => exact ⟨0, 0, false, rfl, rfl, rfl, rfl⟩
  | some p => exact ⟨p.1, p.2, true, rfl, rfl, rfl, rfl⟩
theorem Told.yes {r : Option (Int × Int)} {x y : Int} (h : Told r x y true) : r = some (x, y) := by
  cases r with
  | none => have := h.2.2; cases this
  | some p => obtain ⟨a, b⟩ := p; obtain ⟨h1, h2, _⟩ := h; subst h1 h2; rfl
theorem Told.no {r : Option (Int × Int)} {x y : Int} (h : Told r x y false) : r = none := by
  cases r with
  | none => rfl
  | some p => have := h.2.2; cases this

set_option maxHeartbeats 2000000 in
theorem lawPathJoins (w : World) (A : Option Addr) (la ca : Nat) (xs : List Int) (hx : IntsIn .u8 w A la ca xs) (B : Option Addr) (lb cb : Nat) (ys : List Int) (hy : IntsIn .u8 w B lb cb ys) (m : Int) (wm : (Lit.int .u8 m).wf = true) :
    Calls Try.prog 3 #[.slice A la ca, .slice B lb cb, .int .u8 m] w fun e w' => e = .returned (.bool true) ∧ Below w.heap.size w w' := by
  show Calls _ _ _ _ fun e w' => e = .returned (.bool true) ∧ Fine w w'
  obtain ⟨m0, m1⟩ := Go.bounds_u8 wm
  clear wm
  have hla := hx.1
  have hlb := hy.1
  have hca := hx.2.1
  have hcb := hy.2.1
  unfold maxLen at hca hcb
  by_cases hl : la ≤ 20 ∧ lb ≤ 20
  · obtain ⟨hl1, hl2⟩ := hl
    have HI := Lib.hid (inv_fresh m)
    obtain ⟨M, hM⟩ : ∃ M, clampM m = M := ⟨_, rfl⟩
    have HM := Lib.hid hM
    rw [hM] at HI
    have hsplit : (m < 1 ∧ M = 1) ∨ (8 < m ∧ M = 8) ∨ (1 ≤ m ∧ m ≤ 8 ∧ M = m) := by unfold clampM at hM; omega
    have HS := Lib.hid hsplit
    clear hM hsplit
    go_enter Try.func3, Try.ntmps3
    go_wp2_with fail
    refine (wakes_any _).mono ?_; rintro e w1 ⟨rfl, f1⟩
    go_wp2_with fail
    refine (show Calls Try.prog 8 #[.int .i64 0, .int .i64 0, .int .i64 m] w1 _ from new_is 0 0 (by omega) (by omega) m w1).mono ?_; rintro e w2 ⟨g, rfl, hp0, hg, f2⟩
    rw [HM.out] at hp0
    have P0 := Lib.hid hp0; clear hp0
    have hgw : w.heap.size ≤ g := Nat.le_trans f1.size hg
    have fw2 : Fine w w2 := f1.trans f2
    clear f1 f2 hg
    go_wp2_with fail
    go_loopw [36] (fun i wr => ∃ k : Nat, k ≤ la ∧ i = .int .i64 k ∧ (∃ L, PMB wr g L M ∧ Inv L M) ∧ Fine w wr) (fun i _ => la - (intOf i).toNat)
    case atStart => exact ⟨0, Nat.zero_le _, rfl, ⟨_, P0.out, HI.out⟩, fw2⟩
    case round =>
      obtain ⟨k, hk, rfl, ⟨L, hpm, hinv⟩, hf⟩ := hrel
      have HP := Lib.hid hpm; clear hpm
      have HIV := Lib.hid hinv; clear hinv
      by_cases hlt : k < la
      · obtain ⟨b, off, rfl, hb, hc, hwf⟩ := hx.at_ hlt
        obtain ⟨z, hz⟩ : ∃ z, xs.getD k 0 = z := ⟨_, rfl⟩
        rw [hz] at hc hwf
        obtain ⟨z0, z1⟩ := Go.bounds_u8 hwf
        clear hz hwf
        have hc' := (hf.cell hb).trans hc
        go_wp2_with fail
        obtain ⟨q, hq⟩ : ∃ q, z % 4 = q := ⟨_, rfl⟩
        simp only [hq]
        clear hq
        refine (tell_any g L M q _ HP.out).mono ?_; rintro e w3 ⟨rfl, p3, k3⟩
        have P3 := Lib.hid p3; clear p3
        have f3 : Fine w w3 := hf.kept k3 (by intro z hz; omega)
        obtain ⟨cc, hcc⟩ : ∃ cc, tellC L q = cc := ⟨_, rfl⟩
        rw [hcc]; clear hcc
        go_wp2_with fail
        go_roundw
        case rel => exact ⟨k + 1, by omega, by go_num, ⟨_, P3.out, HIV.out.tell q⟩, f3⟩
        case measure => simp [intOf]; omega
      · have hf' := hf
        clear hf
        obtain ⟨wo, rfl⟩ : ∃ wo : World, wo = wr := ⟨_, rfl⟩
        go_wp2_with fail
        go_loopw [48] (fun i wr => ∃ k : Nat, k ≤ lb ∧ i = .int .i64 k ∧ (∃ L, PMB wr g L M ∧ Inv L M) ∧ Fine w wr) (fun i _ => lb - (intOf i).toNat)
        case atStart => exact ⟨0, Nat.zero_le _, rfl, ⟨_, HP.out, HIV.out⟩, hf'⟩
        case round =>
          clear HP HIV
          obtain ⟨k, hk, rfl, ⟨L, hpm, hinv⟩, hf⟩ := hrel
          have HP := Lib.hid hpm; clear hpm
          have HIV := Lib.hid hinv; clear hinv
          by_cases hlt : k < lb
          · obtain ⟨b, off, rfl, hb, hc, hwf⟩ := hy.at_ hlt
            obtain ⟨z, hz⟩ : ∃ z, ys.getD k 0 = z := ⟨_, rfl⟩
            rw [hz] at hc hwf
            obtain ⟨z0, z1⟩ := Go.bounds_u8 hwf
            clear hz hwf
            have hc' := (hf.cell hb).trans hc
            go_wp2_with fail
            obtain ⟨q, hq⟩ : ∃ q, z % 4 = q := ⟨_, rfl⟩
            simp only [hq]
            clear hq
            refine (told_any g L M q _ HP.out).mono ?_; rintro e w3 ⟨rfl, p3, k3⟩
            have P3 := Lib.hid p3; clear p3
            have f3 : Fine w w3 := hf.kept k3 (by intro z hz; omega)
            go_wp2_with fail
            go_roundw
            case rel => exact ⟨k + 1, by omega, by go_num, ⟨_, P3.out, HIV.out.hear q⟩, f3⟩
            case measure => simp [intOf]; omega
          · clear hl1 hl2 hla hlb hca hcb hx hy
            obtain ⟨wp, rfl⟩ : ∃ wp : World, wp = wr := ⟨_, rfl⟩
            go_wp2_with fail
            refine (next_any g L M _ HP.out).mono ?_; rintro e w3 ⟨rfl, f3⟩
            obtain ⟨x, y, is, hv, ht⟩ := nextV_told (nextOf L M)
            rw [hv]
            clear hv
            have HT := Lib.hid ht; clear ht
            have fw3 : Fine w w3 := hf.trans f3
            have P3 : Hid (PMB w3 g L M) := HP.out.fine f3
            have hg3 := P3.out.lt
            go_wp2_with fail
            go_loopg [13, 14] (16 - (pairsN L 4).length) (fun gk s13 s14 wr => ∃ L, PMB wr g L M ∧ Inv L M ∧ gk = 16 - (pairsN L 4).length ∧ ∃ b x y is, s13 = .pointer (some ⟨b, 0, none⟩) ∧ s14 = .bool is ∧ Told (nextOf L M) x y is ∧ Blk wr b 31 #[.int .i64 x, .int .i64 y] ∧ b ≠ g ∧ w.heap.size ≤ b ∧ Fine w wr)
            case atStart => exact ⟨L, P3.out.fine (by repeat (first | exact Fine.refl _ | assumption | refine Fine.alloc ?_ _ | refine Fine.drew ?_ | refine Fine.drewN ?_ _ | refine Fine.trans ?_ (by assumption) | (refine Fine.kept ?_ (by assumption) (by intro x hx; first | omega | (simp; omega))) | (refine Fine.setCell ?_ (by first | assumption | (simp; done) | (simp; omega)) _))), HIV.out, rfl, w3.heap.size, x, y, is, rfl, rfl, HT.out, Blk.new _ _ _, by omega, fw3.size, (by repeat (first | exact Fine.refl _ | assumption | refine Fine.alloc ?_ _ | refine Fine.drew ?_ | refine Fine.drewN ?_ _ | refine Fine.trans ?_ (by assumption) | (refine Fine.kept ?_ (by assumption) (by intro x hx; first | omega | (simp; omega))) | (refine Fine.setCell ?_ (by first | assumption | (simp; done) | (simp; omega)) _)))⟩
            case round =>
              clear HP HIV HT P3
              obtain ⟨L, hpm, hinv, hgk, b, x, y, is, rfl, rfl, ht, hB, hbg, hbw, hf⟩ := hrel
              have HP := Lib.hid hpm; have HIV := Lib.hid hinv; have HT := Lib.hid ht; have HB := Lib.hid hB; have HBG := Lib.hid hbg; have HGK := Lib.hid hgk
              clear hpm hinv ht hB hbg hgk
              cases is
              · have hn := HT.out.no
                have hd := HIV.out.done hn
                have HD := Lib.hid hd; clear hd hn
                obtain ⟨wq, rfl⟩ : ∃ wq : World, wq = wr := ⟨_, rfl⟩
                have hz1 := addrs_le (ownB L) 4
                have hz2 := addrs_le (othB L) 4
                have hz3 := pairs_len_16 L
                obtain ⟨hpr1, hpr2⟩ := prod_le hz1 hz2
                have hs := HS.out
                clear HS
                rcases hs with ⟨h1, rfl⟩ | ⟨h1, rfl⟩ | ⟨h1, h2, rfl⟩
                all_goals
                  go_wp2_with fail
                  refine (pairs_any g L _ _ HP.out).mono ?_; rintro e w4 ⟨A4, c4, rfl, o4, f4⟩
                  have O4 := Lib.hid o4; clear o4
                  go_wp2_with fail
                  refine (own_any g L _ _ (HP.out.fine f4)).mono ?_; rintro e w5 ⟨A5, c5, rfl, o5, f5⟩
                  have O5 := Lib.hid o5; clear o5
                  go_wp2_with fail
                  refine (other_any g L _ _ ((HP.out.fine f4).fine f5)).mono ?_; rintro e w6 ⟨A6, c6, rfl, o6, f6⟩
                  have O6 := Lib.hid o6; clear o6
                  go_wp2_with fail
                  all_goals
                    go_ret
                    exact ⟨ret_bool (by rw [beq_iff_eq]; have := HD.out; omega), (by repeat (first | exact Fine.refl _ | assumption | refine Fine.alloc ?_ _ | refine Fine.drew ?_ | refine Fine.drewN ?_ _ | refine Fine.trans ?_ (by assumption) | (refine Fine.kept ?_ (by assumption) (by intro x hx; first | omega | (simp; omega))) | (refine Fine.setCell ?_ (by first | assumption | (simp; done) | (simp; omega)) _)))⟩
              · obtain ⟨j1, j2, j3⟩ := HIV.out.join HT.out.yes
                have J1 := Lib.hid j1; have J2 := Lib.hid j2; have J3 := Lib.hid j3
                clear j1 j2 j3
                have b0 : wr.cell? ⟨b, 0, none⟩ = some (.int .i64 x) := HB.out.cell 0
                have b1 : wr.cell? ⟨b, 1, none⟩ = some (.int .i64 y) := HB.out.cell 1
                go_wp2_with fail
                refine (join_any g L M x y _ HP.out).mono ?_; rintro e w4 ⟨rfl, p4, k4⟩
                rw [J1.out]
                have P4 := Lib.hid p4; clear p4
                have f4 : Fine w w4 := hf.kept k4 (by intro z hz; omega)
                have hg4 := P4.out.lt
                have hB4 : Blk w4 b 31 #[.int .i64 x, .int .i64 y] := HB.out.kept k4 HBG.out
                have d0 : w4.cell? ⟨b, 0, none⟩ = some (.int .i64 x) := hB4.cell 0
                have d1 : w4.cell? ⟨b, 1, none⟩ = some (.int .i64 y) := hB4.cell 1
                clear hB4 b0 b1
                have hs4 := f4.size
                go_wp2_with fail
                refine (next_any g _ M _ (P4.out.fine ((Fine.refl _).alloc _))).mono ?_; rintro e w5 ⟨rfl, f5⟩
                obtain ⟨x2, y2, is2, hv, ht⟩ := nextV_told (nextOf (joinL L M x y) M)
                rw [hv]
                clear hv
                have HT2 := Lib.hid ht; clear ht
                have hB5 : Blk w5 w4.heap.size 31 #[.int .i64 x, .int .i64 y] := (Blk.new w4 31 #[.int .i64 x, .int .i64 y]).fine f5
                have e0 : w5.cell? ⟨w4.heap.size, 0, none⟩ = some (.int .i64 x) := hB5.cell 0
                have e1 : w5.cell? ⟨w4.heap.size, 1, none⟩ = some (.int .i64 y) := hB5.cell 1
                have r0 := hB5.frozen 0
                have r1 := hB5.frozen 1
                have HB5 := Lib.hid hB5; clear hB5
                have fw5 : Fine w w5 := (f4.alloc _).trans f5
                have P5 : Hid (PMB w5 g (joinL L M x y) M) := (P4.out.fine ((Fine.refl _).alloc _)).fine f5
                go_wp2_with fail
                have hlen := pairs_len_16 (joinL L M x y)
                have hst : Blk ((w5.setCell ⟨w4.heap.size, 0, none⟩ (.int .i64 x2)).setCell ⟨w4.heap.size, 1, none⟩ (.int .i64 y2)) w4.heap.size 31 #[.int .i64 x2, .int .i64 y2] := (HB5.out.set_ 0 _).set_ 1 _
                go_roundg (16 - (pairsN (joinL L M x y) 4).length)
                case measure => have := HGK.out; have := J3.out; omega
                case rel => exact ⟨_, ⟨P5.out.1, (P5.out.2.far (by simp; omega) _).far (by simp; omega) _⟩, J2.out, rfl, w4.heap.size, x2, y2, is2, rfl, rfl, HT2.out, hst, by omega, hs4, (by repeat (first | exact Fine.refl _ | assumption | refine Fine.alloc ?_ _ | refine Fine.drew ?_ | refine Fine.drewN ?_ _ | refine Fine.trans ?_ (by assumption) | (refine Fine.kept ?_ (by assumption) (by intro x hx; first | omega | (simp; omega))) | (refine Fine.setCell ?_ (by first | assumption | (simp; done) | (simp; omega)) _)))⟩
  · go_enter Try.func3, Try.ntmps3
    go_wp2_with fail
    refine (wakes_any _).mono ?_; rintro e w1 ⟨rfl, f1⟩
    by_cases h1 : la ≤ 20
    · have h2 : 20 < lb := by omega
      clear hl
      go_wp2_with fail
      go_ret
      exact ⟨rfl, (by repeat (first | exact Fine.refl _ | assumption | refine Fine.alloc ?_ _ | refine Fine.drew ?_ | refine Fine.drewN ?_ _ | refine Fine.trans ?_ (by assumption) | (refine Fine.kept ?_ (by assumption) (by intro x hx; first | omega | (simp; omega))) | (refine Fine.setCell ?_ (by first | assumption | (simp; done) | (simp; omega)) _)))⟩
    · go_wp2_with fail
      go_ret
      exact ⟨rfl, (by repeat (first | exact Fine.refl _ | assumption | refine Fine.alloc ?_ _ | refine Fine.drew ?_ | refine Fine.drewN ?_ _ | refine Fine.trans ?_ (by assumption) | (refine Fine.kept ?_ (by assumption) (by intro x hx; first | omega | (simp; omega))) | (refine Fine.setCell ?_ (by first | assumption | (simp; done) | (simp; omega)) _)))⟩
end Go.Proofs.Ytbgdcpecpcmjdaa
