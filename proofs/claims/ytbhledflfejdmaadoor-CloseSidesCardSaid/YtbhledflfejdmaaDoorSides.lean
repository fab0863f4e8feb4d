/- The law CloseSides. -/
import Derived.Test.YtbhledflfejdmaaDoorTo
namespace Go.Proofs.YtbhledflfejdmaaDoor
open Go.ChangeShapes Go.WideShapes Go.ChangeAt Go.RowKit
set_option linter.unusedVariables false

/-- What holds of a state that was reached. -/
def Inv (s : Int) (told ended : Bool) : Prop :=
  (s = 0 ∧ told = false ∧ ended = false) ∨ (s = 1 ∧ told = false ∧ ended = false) ∨ ((s = 2 ∨ s = 3) ∧ told = true ∧ ended = false) ∨ (s = 4 ∧ told = false ∧ ended = true) ∨
  ((s = 5 ∨ s = 6 ∨ s = 7) ∧ told = true ∧ ended = true) ∨ s = 8
instance (s : Int) (a b : Bool) : Decidable (Inv s a b) := by unfold Inv; infer_instance
/-- Each move that may come. -/
theorem moves_of {s e t : Int} {told ended : Bool} (h : Inv s told ended) (ht : stepOf s e = (t, true)) :
    (s = 0 ∧ e = 0 ∧ t = 1 ∧ told = false ∧ ended = false) ∨
    (s = 1 ∧ e = 1 ∧ t = 2 ∧ told = false ∧ ended = false) ∨
    (s = 1 ∧ e = 3 ∧ t = 4 ∧ told = false ∧ ended = false) ∨
    (s = 2 ∧ e = 2 ∧ t = 3 ∧ told = true ∧ ended = false) ∨
    (s = 2 ∧ e = 3 ∧ t = 5 ∧ told = true ∧ ended = false) ∨
    (s = 3 ∧ e = 3 ∧ t = 7 ∧ told = true ∧ ended = false) ∨
    (s = 4 ∧ e = 1 ∧ t = 6 ∧ told = false ∧ ended = true) ∨
    (s = 5 ∧ e = 2 ∧ t = 7 ∧ told = true ∧ ended = true) ∨
    (s = 6 ∧ e = 2 ∧ t = 7 ∧ told = true ∧ ended = true) ∨
    (s = 7 ∧ e = 4 ∧ t = 8 ∧ told = true ∧ ended = true) ∨
    (e = 5 ∧ t = 8) := by
  unfold stepOf tabZ at ht
  simp only [look] at ht
  repeat' split at ht
  all_goals simp only [Prod.mk.injEq, Bool.false_eq_true, and_false, and_true] at ht
  all_goals subst ht
  · rename_i hm
    simp [hm.1]
  all_goals
    rename_i hm
    obtain ⟨rfl, rfl⟩ := hm
    revert h
    cases told <;> cases ended <;> decide

set_option maxHeartbeats 2000000 in
theorem lawCloseSides (w : World) (hT : Tab w) (a : Option Addr) (len cap : Nat) (zs : List Int) (hz : IntsIn .u8 w a len cap zs) :
    Calls Tryd.prog 4 #[.slice a len cap] w fun r w' => r = .returned (.bool true) ∧ Fine w w' := by
  have HT := Lib.hid hT
  have HZ := Lib.hid hz
  clear hT hz
  go_enter Tryd.func4, Tryd.ntmps4
  go_wp2_with fail
  refine (wakes_any _ HT.out).mono ?_; rintro r w1 ⟨rfl, f1⟩
  go_wp2
  · go_ret
    exact ⟨rfl, f1⟩
  · go_loopw [17, 3, 4, 5] (fun i v3 v4 v5 wr => ∃ (k : Nat) (s : Int) (told ended : Bool), k ≤ len ∧ i = .int .i64 k ∧ v3 = .int .i64 s ∧ v4 = .bool told ∧ v5 = .bool ended ∧ Hid (Inv s told ended) ∧ Fine w wr) (fun i _ _ _ _ => len - (intOf i).toNat)
    case atStart => exact ⟨0, 0, false, false, Nat.zero_le _, rfl, rfl, rfl, rfl, .inl ⟨rfl, rfl, rfl⟩, f1⟩
    case round =>
      obtain ⟨k, s, told, ended, hk, rfl, rfl, rfl, rfl, HI, hf⟩ := hrel
      by_cases hlt : k < len
      · obtain ⟨b, off, rfl, hb, hc⟩ := HZ.out.2.2.2.2.2 (by omega)
        have hck := (hf.cell (p := ⟨b, off + k, none⟩) hb).trans (hc k hlt)
        have hl : zs.length = len := HZ.out.2.2.1
        have hxb := Go.bounds_u8 (HZ.out.2.2.2.2.1 _ (getD_mem zs k (by omega)))
        obtain ⟨x, hx⟩ : ∃ x, zs.getD k 0 = x := ⟨_, rfl⟩
        rw [hx] at hck hxb
        obtain ⟨e, he⟩ : ∃ e, x % 6 = e := ⟨_, rfl⟩
        obtain ⟨t, is, hst⟩ : ∃ t is, stepOf s e = (t, is) := ⟨_, _, rfl⟩
        have HS := Lib.hid hst
        clear hc hx hl hb
        cases is with
        | false =>
          clear hst
          go_wp2_with fail
          refine (step_any s e _ (HT.out.fine hf)).mono ?_; rintro r w2 ⟨rfl, f2⟩
          rw [HS.out]
          go_wp2
          go_roundw
          case rel => exact ⟨k + 1, s, told, ended, by omega, by go_num, rfl, rfl, rfl, HI, hf.trans f2⟩
          case measure => simp [intOf]; omega
        | true =>
          have hm := moves_of HI.out hst
          clear hst HI
          rcases hm with ⟨rfl, rfl, rfl, rfl, rfl⟩ | ⟨rfl, rfl, rfl, rfl, rfl⟩ | ⟨rfl, rfl, rfl, rfl, rfl⟩ | ⟨rfl, rfl, rfl, rfl, rfl⟩ | ⟨rfl, rfl, rfl, rfl, rfl⟩ | ⟨rfl, rfl, rfl, rfl, rfl⟩ | ⟨rfl, rfl, rfl, rfl, rfl⟩ | ⟨rfl, rfl, rfl, rfl, rfl⟩ | ⟨rfl, rfl, rfl, rfl, rfl⟩ | ⟨rfl, rfl, rfl, rfl, rfl⟩ | ⟨rfl, rfl⟩
          case' inr.inr.inr.inr.inr.inr.inr.inr.inr.inr => cases told <;> cases ended
          all_goals
            go_wp2_with fail
            refine (step_any _ _ _ (HT.out.fine hf)).mono ?_; rintro r w2 ⟨rfl, f2⟩
            rw [HS.out]
            go_wp2_with fail
            refine (writes_any _ _).mono ?_; rintro r w3 ⟨rfl, f3⟩
            go_wp2_with (refine (reads_any _ _).mono ?_; rintro r w4 ⟨rfl, f4⟩)
            go_roundw
            case rel => exact ⟨k + 1, _, _, _, by omega, by go_num, rfl, rfl, rfl, (by show Inv _ _ _; decide), (by first | exact ((hf.trans f2).trans f3).trans f4 | exact (hf.trans f2).trans f3)⟩
            case measure => simp [intOf]; omega
      · go_wp2
        go_ret
        exact ⟨rfl, hf⟩
end Go.Proofs.YtbhledflfejdmaaDoor
