/- The law ClosePaths. -/
import Derived.Test.YtbhledflfejdmaaDoorPaths
namespace Go.Proofs.YtbhledflfejdmaaDoor
open Go.ChangeShapes Go.WideShapes Go.ChangeAt Go.RowKit
set_option linter.unusedVariables false

set_option maxHeartbeats 1000000 in
theorem lawClosePaths (w : World) (hT : Tab w) (a : Option Addr) (len cap : Nat) (zs : List Int) (hz : IntsIn .i64 w a len cap zs) :
    Calls Tryd.prog 5 #[.slice a len cap] w fun r w' => r = .returned (.bool true) ∧ Fine w w' := by
  have HT := Lib.hid hT
  have hl : zs.length = len := hz.2.2.1
  subst hl
  have H : Hid (RS w a zs) := Lib.hid (hz.2.2.2.2.2)
  clear hT hz
  by_cases h100 : 100 < zs.length
  · have h100' : (100 : Int) < (zs.length : Int) := by omega
    go_enter Tryd.func5, Tryd.ntmps5
    go_wp2_with fail
    refine (wakes_any _ HT.out).mono ?_; rintro r w1 ⟨rfl, f1⟩
    go_wp2
    go_ret
    exact ⟨rfl, f1⟩
  · have h100' : (zs.length : Int) ≤ 100 := by omega
    go_enter Tryd.func5, Tryd.ntmps5
    go_wp2_with fail
    refine (wakes_any _ HT.out).mono ?_; rintro r w1 ⟨rfl, f1⟩
    go_wp2
    go_loopw [4, 3] (fun i want wr => ∃ (k : Nat) (p : Bool), (k = 0 ∨ k + 1 ≤ zs.length) ∧ i = .int .i64 (k + 1 : Nat) ∧ want = .bool p ∧ Hid (pathTo zs k = p) ∧ Fine w wr) (fun i _ _ => zs.length + 1 - (intOf i).toNat)
    case atStart => exact ⟨0, true, .inl rfl, rfl, rfl, rfl, f1⟩
    case round =>
      obtain ⟨k, p, hk, rfl, rfl, HL, hf⟩ := hrel
      by_cases hlt : k + 1 < zs.length
      · obtain ⟨b, off, rfl, hb, hc⟩ := H.out.fine hf (by omega)
        have c1 := hc k (by omega)
        have c2 := hc (k + 1) hlt
        have hp := path_succ zs k
        rw [HL.out] at hp
        obtain ⟨u, hu⟩ : ∃ u, zs.getD k 0 = u := ⟨_, rfl⟩
        obtain ⟨v, hv⟩ : ∃ v, zs.getD (k + 1) 0 = v := ⟨_, rfl⟩
        rw [hu] at c1
        rw [hv] at c2
        rw [hu, hv] at hp
        obtain ⟨l, hl2⟩ : ∃ l, refLed u v = l := ⟨_, rfl⟩
        have HLd := Lib.hid hl2
        rw [hl2] at hp
        clear hc hu hv HL hl2
        cases p with
        | false =>
          have HN : Hid (pathTo zs (k + 1) = false) := by show _ = _; rw [hp]; rfl
          clear hp
          go_wp2
          go_region
          all_goals
            go_wp2
            go_roundw
            case rel => exact ⟨k + 1, false, .inr (by omega), by go_num, rfl, HN, (by repeat (first | exact Fine.refl _ | assumption | refine Fine.alloc ?_ _ | refine Fine.drew ?_ | refine Fine.drewN ?_ _ | refine Fine.trans ?_ (by assumption) | (refine Fine.kept ?_ (by assumption) (by intro x hx; first | omega | (simp; omega))) | (refine Fine.setCell ?_ (by first | assumption | (simp; omega)) _)))⟩
            case measure => simp [intOf]; omega
        | true =>
          have HN : Hid (pathTo zs (k + 1) = l) := by show _ = _; rw [hp]; rfl
          clear hp
          have e1 : IntKind.i64.wrap ((k : Int) + 1 - 1) = (k : Int) := by rw [IntKind.wrap_i64]; omega
          have e2 : IntKind.i64.wrap ((k : Int)) = (k : Int) := by rw [IntKind.wrap_i64]; omega
          have g1 : (k : Int) < (zs.length : Int) := by omega
          have g2 : (k : Int) + 1 < (zs.length : Int) := by omega
          have g3 : ((k : Int) + 1).toNat = k + 1 := by omega
          have g4 : 0 ≤ (k : Int) := by omega
          have g5 : 0 ≤ (k : Int) + 1 := by omega
          go_wp2
          go_region_held3 (fun w' => w'.cell? ⟨b, off + k, none⟩ = some (.int .i64 u) ∧ w'.cell? ⟨b, off + (k + 1), none⟩ = some (.int .i64 v)) (first | exact ⟨c1, c2⟩ | exact ⟨(f2.cell (p := ⟨b, off + k, none⟩) hb).trans c1, (f2.cell (p := ⟨b, off + (k + 1), none⟩) hb).trans c2⟩)
            (first | (go_at_call 12; refine (refleads_any u v _).mono ?_; rintro r w2 ⟨rfl, f2⟩; rw [HLd.out]))
          all_goals
            go_wp2
            go_roundw
            case rel => exact ⟨k + 1, l, .inr (by omega), by go_num, rfl, HN, (by repeat (first | exact Fine.refl _ | assumption | refine Fine.alloc ?_ _ | refine Fine.drew ?_ | refine Fine.drewN ?_ _ | refine Fine.trans ?_ (by assumption) | (refine Fine.kept ?_ (by assumption) (by intro x hx; first | omega | (simp; omega))) | (refine Fine.setCell ?_ (by first | assumption | (simp; omega)) _)))⟩
            case measure => simp [intOf]; omega
      · have e : zs.length - 1 = k := by omega
        have HP : Hid (pathTo zs (zs.length - 1) = p) := by show _ = _; rw [e]; exact HL.out
        clear e HL
        go_wp2_with fail
        refine (path_any a _ cap zs _ (HT.out.fine hf) (H.out.fine hf) rfl (by omega)).mono ?_; rintro r w2 ⟨rfl, f2⟩
        rw [HP.out]
        go_wp2
        go_ret
        exact ⟨ret_bool (by simp), hf.trans f2⟩
end Go.Proofs.YtbhledflfejdmaaDoor
