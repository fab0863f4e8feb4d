/- The law CloseEnds. -/
import Derived.Test.YtbhledflfejdmaaDoorEndsPlain
import Derived.Test.YtbhledflfejdmaaDoorInts
namespace Go.Proofs.YtbhledflfejdmaaDoor
open Go.ChangeShapes Go.WideShapes Go.ChangeAt Go.RowKit
set_option linter.unusedVariables false

def rst : Nat → Int → Int
  | 0, s => s
  | n + 1, s => rst n (nxt s (4 - n))
def iter : Nat → Int → Int
  | 0, s => s
  | n + 1, s => iter n (rst 4 s)
structure Good (l : List Int) (s : Int) : Prop where
  ne : l ≠ []
  last : l.getD (l.length - 1) 0 = s
  path : pathTo l (l.length - 1) = true
  bd : 1 ≤ s ∧ s ≤ 8
theorem Good.one {s : Int} (h : 1 ≤ s ∧ s ≤ 8) : Good [s] s := ⟨by simp, rfl, rfl, h⟩
theorem Good.step {l : List Int} {s e : Int} (h : Good l s) (h0 : 0 ≤ e) (h5 : e ≤ 5) : Good (l ++ [nxt s e]) (nxt s e) :=
  ⟨by simp, by simp [List.getD], pathTo_snoc l s _ h.ne h.last h.path (nxt_led s e h0 h5), nxt_bd s e h.bd.1 h.bd.2⟩
theorem OwnI.one {z : Int} (h : -9223372036854775808 ≤ z ∧ z ≤ 9223372036854775807) (w : World) {base : Nat} (hb : base ≤ w.heap.size) : OwnI (w.alloc (.cells #[.int .i64 z] 3)) base (.slice (some ⟨w.heap.size, 0, none⟩) 1 1) [z] :=
  ⟨Nums.one h, rfl, .inr ⟨w.heap.size, 1, #[.int .i64 z], rfl, hb, Blk.new w 3 #[.int .i64 z], Nat.le_refl _, by unfold maxLen; omega, rfl, rfl⟩⟩
theorem IS.rs {w : World} {A : Option Addr} {c : Nat} {xs : List Int} (h : IS w A c xs) : RS w A xs := fun hp => by
  obtain ⟨b, off, e, hb, _⟩ := h.at_ (k := 0) hp
  refine ⟨b, off, e, hb, fun i hi => ?_⟩
  obtain ⟨b', off', e', _, hc⟩ := h.at_ hi
  rw [e] at e'
  injection e' with e'
  injection e' with e1 e2 _
  subst e1 e2
  exact hc

set_option maxHeartbeats 2000000 in
theorem lawCloseEnds (w : World) (hT : Tab w) (n : Int) (wn : (Lit.int .u8 n).wf = true) (a : Option Addr) (len cap : Nat) (zs : List Int) (hz : IntsIn .u8 w a len cap zs) :
    Calls Tryd.prog 6 #[.int .u8 n, .slice a len cap] w fun r w' => r = .returned (.bool true) ∧ Fine w w' := by
  have HT := Lib.hid hT
  have HZ := Lib.hid hz
  have hn := bounds_u8 wn
  clear hT hz wn
  by_cases h50 : 50 < len
  · have h50' : (50 : Int) < (len : Int) := by omega
    go_enter Tryd.func6, Tryd.ntmps6
    go_wp2_with fail
    refine (wakes_any _ HT.out).mono ?_; rintro r w1 ⟨rfl, f1⟩
    go_wp2
    go_ret
    exact ⟨rfl, f1⟩
  · have h50' : (len : Int) ≤ 50 := by omega
    have hle : len ≤ 50 := by omega
    obtain ⟨s0, hs0⟩ : ∃ s0, 1 + n % 8 = s0 := ⟨_, rfl⟩
    have hb0 : 1 ≤ s0 ∧ s0 ≤ 8 := by omega
    go_enter Tryd.func6, Tryd.ntmps6
    go_wp2_with fail
    refine (wakes_any _ HT.out).mono ?_; rintro r w1 ⟨rfl, f1⟩
    go_wp2
    go_loopw [26, 5, 6] (fun i v5 v6 wr => ∃ (k : Nat) (s : Int) (l : List Int), k ≤ len ∧ i = .int .i64 k ∧ v5 = .int .i64 s ∧ Hid (OwnI wr w1.heap.size v6 l) ∧ Hid (Good l s) ∧ l.length = k + 1 ∧ Fine w1 wr) (fun i _ _ _ => len - (intOf i).toNat)
    case atStart => exact ⟨0, s0, [s0], Nat.zero_le _, rfl, rfl, OwnI.one (by omega) w1 (Nat.le_refl _), Good.one hb0, rfl, (by repeat (first | exact Fine.refl _ | assumption | refine Fine.alloc ?_ _ | refine Fine.drew ?_ | refine Fine.drewN ?_ _ | refine Fine.trans ?_ (by assumption) | (refine Fine.kept ?_ (by assumption) (by intro x hx; first | omega | (simp; omega))) | (refine Fine.setCell ?_ (by first | assumption | (simp; omega)) _)))⟩
    case round =>
      obtain ⟨k, s, l, hk, rfl, rfl, HO, HG, hll, hf⟩ := hrel
      by_cases hlt : k < len
      · obtain ⟨b, off, rfl, hb, hc⟩ := HZ.out.2.2.2.2.2 (by omega)
        have hck := ((f1.trans hf).cell (p := ⟨b, off + k, none⟩) hb).trans (hc k hlt)
        have hl : zs.length = len := HZ.out.2.2.1
        have hxb := Go.bounds_u8 (HZ.out.2.2.2.2.1 _ (getD_mem zs k (by omega)))
        obtain ⟨x, hx⟩ : ∃ x, zs.getD k 0 = x := ⟨_, rfl⟩
        rw [hx] at hck hxb
        obtain ⟨e, he⟩ : ∃ e, 1 + x % 4 = e := ⟨_, rfl⟩
        have HG2 := Lib.hid (HG.out.step (e := e) (by omega) (by omega))
        obtain ⟨s2, hs2⟩ : ∃ s2, nxt s e = s2 := ⟨_, rfl⟩
        rw [hs2] at HG2
        have hs2' : (stepOf s e).1 = s2 := hs2
        have HS := Lib.hid hs2'
        have hb2 := HG2.out.bd
        have hsz := hf.size
        clear hc hx hl hb hs2 hs2' HG
        go_wp2_with fail
        refine (step_any s e _ (HT.out.fine (f1.trans hf))).mono ?_; rintro r w2 ⟨rfl, f2⟩
        rw [HS.out]
        have hsz2 := f2.size
        go_wp2_with (at_builtin; refine wpList_appI rfl (.tmp 39) (.tmp 41) rfl w1.heap.size _ _ rfl ((HO.out.fine f2).alloc _) (some ⟨w2.heap.size, 0, none⟩) _ _ [s2] rfl rfl (IS.one (by omega) _) (by first | omega | (simp; done) | (simp; omega)) (by first | omega | (simp; done) | (simp; omega)) ?_; intro v' w3 O3 k3 _ _)
        have F3 : Fine w1 w3 := Fine.kept ((hf.trans f2).alloc _) k3 (fun x hx => by omega)
        go_roundw
        case rel => exact ⟨k + 1, s2, l ++ [s2], by omega, by go_num, rfl, O3, HG2, by simp; omega, F3⟩
        case measure => simp [intOf]; omega
      · have hl51 : l.length ≤ 51 := by omega
        have HIT : Hid (iter 6 s = 8) := Lib.hid (six s HG.out.bd.1 HG.out.bd.2)
        obtain ⟨wB, rfl⟩ : ∃ wB : World, wB = wr := ⟨_, rfl⟩
        go_wp2
        go_loopw [44, 5, 6] (fun i v5 v6 wr => ∃ (r : Nat) (s : Int) (l : List Int), r ≤ 6 ∧ i = .int .i64 r ∧ v5 = .int .i64 s ∧ Hid (OwnI wr w1.heap.size v6 l) ∧ Hid (Good l s) ∧ l.length ≤ 51 + 4 * r ∧ Hid (iter (6 - r) s = 8) ∧ Fine w1 wr) (fun i _ _ _ => 6 - (intOf i).toNat)
        case atStart => exact ⟨0, s, l, by omega, rfl, rfl, HO, HG, by omega, HIT, hf⟩
        case round =>
          clear HO HG hll hl51 HIT hf hk hlt
          obtain ⟨r, s, l, hr, rfl, rfl, HO, HG, hll, HIT, hf⟩ := hrel
          by_cases hlt : r < 6
          · obtain ⟨wC, rfl⟩ : ∃ wC : World, wC = wr := ⟨_, rfl⟩
            have HIT2 : Hid (iter (5 - r) (rst 4 s) = 8) := by
              show _ = _
              have h := HIT.out
              rw [show 6 - r = (5 - r) + 1 by omega] at h
              exact h
            have hr6 : decide ((r : Int) < 6) = true := by simp; omega
            have hr6' : (r : Int) < 6 := by omega
            go_wp2
            go_loopw [9, 5, 6] (fun i v5 v6 wr => ∃ (q : Nat) (s : Int) (l : List Int), q ≤ 4 ∧ i = .int .i64 (q + 1 : Nat) ∧ v5 = .int .i64 s ∧ Hid (OwnI wr w1.heap.size v6 l) ∧ Hid (Good l s) ∧ l.length ≤ 51 + 4 * r + q ∧ Hid (iter (5 - r) (rst (4 - q) s) = 8) ∧ Fine w1 wr) (fun i _ _ _ => 5 - (intOf i).toNat)
            case atStart => exact ⟨0, s, l, by omega, rfl, rfl, HO, HG, by omega, HIT2, hf⟩
            case round =>
              clear HO HG hll HIT HIT2 hf
              obtain ⟨q, s, l, hq, rfl, rfl, HO, HG, hll, HIT, hf⟩ := hrel
              by_cases hlt2 : q < 4
              · have HG2 := Lib.hid (HG.out.step (e := (q : Int) + 1) (by omega) (by omega))
                have HIT2 : Hid (iter (5 - r) (rst (4 - (q + 1)) (nxt s ((q : Int) + 1))) = 8) := by
                  show _ = _
                  have h := HIT.out
                  rw [show 4 - q = (4 - (q + 1)) + 1 by omega] at h
                  unfold rst at h
                  rw [show (4 : Int) - ((4 - (q + 1) : Nat) : Int) = (q : Int) + 1 by omega] at h
                  exact h
                obtain ⟨s2, hs2⟩ : ∃ s2, nxt s ((q : Int) + 1) = s2 := ⟨_, rfl⟩
                rw [hs2] at HG2 HIT2
                have hs2' : (stepOf s ((q : Int) + 1)).1 = s2 := hs2
                have HS := Lib.hid hs2'
                have hb2 := HG2.out.bd
                have hsz := hf.size
                clear hs2 hs2' HG HIT
                go_wp2_with fail
                refine (step_any s ((q : Int) + 1) _ (HT.out.fine (f1.trans hf))).mono ?_; rintro r' w2 ⟨rfl, f2⟩
                rw [HS.out]
                have hsz2 := f2.size
                go_wp2_with (at_builtin; refine wpList_appI rfl (.tmp 56) (.tmp 58) rfl w1.heap.size _ _ rfl ((HO.out.fine f2).alloc _) (some ⟨w2.heap.size, 0, none⟩) _ _ [s2] rfl rfl (IS.one (by omega) _) (by first | omega | (simp; done) | (simp; omega)) (by first | omega | (simp; done) | (simp; omega)) ?_; intro v' w3 O3 k3 _ _)
                have F3 : Fine w1 w3 := Fine.kept ((hf.trans f2).alloc _) k3 (fun x hx => by omega)
                go_roundw
                case rel => exact ⟨q + 1, s2, l ++ [s2], by omega, by go_num, rfl, O3, HG2, by simp; omega, HIT2, F3⟩
                case measure => simp [intOf]; omega
              · have e4 : q = 4 := by omega
                subst e4
                have HIT2 : Hid (iter (6 - (r + 1)) s = 8) := by
                  show _ = _
                  rw [show 6 - (r + 1) = 5 - r by omega]
                  exact HIT.out
                clear HIT
                go_wp2
                go_roundw
                case rel => exact ⟨r + 1, s, l, by omega, by go_num, rfl, HO, HG, by omega, HIT2, hf⟩
                case measure => simp [intOf]; omega
          · have e6 : r = 6 := by omega
            subst e6
            have hs8 : s = 8 := HIT.out
            subst hs8
            clear HIT
            obtain ⟨A, c, rfl, K, _⟩ := HO.out.form
            have HK := Lib.hid K
            have HP := Lib.hid HG.out.path
            have HST := Lib.hid stays
            clear K HO HG
            have F0 : Fine w wr := f1.trans hf
            go_wp2_with fail
            refine (path_any A _ c l _ (HT.out.fine F0) HK.out.rs rfl (by omega)).mono ?_; rintro r' w2 ⟨rfl, f2⟩
            rw [HP.out]
            have F2 : Fine w w2 := F0.trans f2
            go_wp2
            go_loopw [10] (fun i w3 => ∃ j : Nat, j ≤ 9 ∧ i = .int .i64 ((j : Int) - 1) ∧ Fine w w3) (fun i _ => (9 - (intOf i)).toNat)
            case atStart => exact ⟨0, by omega, rfl, F2⟩
            case round =>
              obtain ⟨j, hj, rfl, hf3⟩ := hrel
              by_cases hj9 : j < 9
              · have hj' : (j : Int) - 1 < 8 := by omega
                go_wp2_with fail
                refine (step_any 8 ((j : Int) - 1) _ (HT.out.fine hf3)).mono ?_; rintro r' w4 ⟨rfl, f4⟩
                rw [HST.out]
                go_wp2
                go_roundw
                case rel => exact ⟨j + 1, by omega, (by congr 1; omega), hf3.trans f4⟩
                case measure => simp [intOf]; omega
              · have hj' : ¬ ((j : Int) - 1 < 8) := by omega
                go_wp2
                go_ret
                exact ⟨rfl, hf3⟩
end Go.Proofs.YtbhledflfejdmaaDoor
