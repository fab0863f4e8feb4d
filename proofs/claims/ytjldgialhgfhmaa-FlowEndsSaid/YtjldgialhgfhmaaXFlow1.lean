/- A flow's block: the estimate in it; what reads and sets its numbers alone. -/
import Derived.Test.YtjldgialhgfhmaaNb
import Derived.Test.YtjldgialhgfhmaaNa
import Derived.Test.YtjldgialhgfhmaaNd
namespace Go.Proofs.Ytjldgialhgfhmaa
set_option linter.unusedVariables false
set_option linter.unusedSimpArgs false
open Go.ChangeShapes Go.WideShapes Go.ChangeAt Go.RowKit Go.Maps
set_option linter.unusedVariables false
set_option linter.unusedSimpArgs false
/-- A flow's cells. -/
abbrev fc (q : Nat) (h : Bool) (s v k st rcv tries at_ : Int) (has : Bool) (since : Int) (tw : Bool) (o : Value) : Array Value := #[.pointer (some ⟨q, 0, none⟩), .bool h, .int .i64 s, .int .i64 v, .int .i64 k, .int .i64 st, .int .u32 rcv, .int .i64 tries, .int .i64 at_, .bool has, .int .i64 since, .bool tw, o]
section
variable {f q : Nat} {h has tw : Bool} {s v k st rcv tries at_ since : Int} {o : Value} {w : World}
theorem flater_any (t : Int) (hs : 0 ≤ s ∧ s ≤ 8000) (hv : 0 ≤ v ∧ v ≤ 4003) (ht : 0 ≤ t ∧ t ≤ 1000) (hb : Blk w f 111 (fc q true s v k st rcv tries at_ has since tw o)) :
    Calls Try.prog 62 #[.pointer (some ⟨f, 1, none⟩), .int .i64 t] w fun e w' => e = .returned (.tuple #[]) ∧ Blk w' f 111 (fc q true (s + (t - s / 8)) (v + (absI (t - s / 8) - v / 4)) k st rcv tries at_ has since tw o) ∧ Kept (· = f) w w' := by
  have c1 : w.cell? ⟨f, 2, none⟩ = some (.int .i64 s) := hb.cell 2
  have c2 : w.cell? ⟨f, 3, none⟩ = some (.int .i64 v) := hb.cell 3
  have f1 : w.frozen? ⟨f, 2, none⟩ = false := hb.frozen 2
  have f2 : w.frozen? ⟨f, 3, none⟩ = false := hb.frozen 3
  have HB := Lib.hid hb; clear hb
  go_enter Try.func62, Try.ntmps62
  go_wp2
  go_region
  go_end0
  refine ⟨rfl, ?_, (by repeat (first | exact Kept.refl _ _ | assumption | (refine Kept.setIn ?_ (by simp) _) | refine Kept.alloc ?_ _ | refine Kept.drew ?_ | refine Kept.trans ?_ (by assumption)))⟩
  rw [absI_if]
  exact ((HB.out.set_ 2 _).set_ 3 _).drew
theorem ffirst_any (t : Int) (ht : 0 ≤ t ∧ t ≤ 1000) (hb : Blk w f 111 (fc q h s v k st rcv tries at_ has since tw o)) :
    Calls Try.prog 63 #[.pointer (some ⟨f, 1, none⟩), .int .i64 t] w fun e w' => e = .returned (.tuple #[]) ∧ Blk w' f 111 (fc q true (8 * t) (2 * t) k st rcv tries at_ has since tw o) ∧ Kept (· = f) w w' := by
  have f0 : w.frozen? ⟨f, 1, none⟩ = false := hb.frozen 1
  have c0 : w.cell? ⟨f, 1, none⟩ = some (.bool h) := hb.cell 1
  have c1 : w.cell? ⟨f, 2, none⟩ = some (.int .i64 s) := hb.cell 2
  have c2 : w.cell? ⟨f, 3, none⟩ = some (.int .i64 v) := hb.cell 3
  have f1 : w.frozen? ⟨f, 2, none⟩ = false := hb.frozen 2
  have f2 : w.frozen? ⟨f, 3, none⟩ = false := hb.frozen 3
  have HB := Lib.hid hb; clear hb
  go_enter Try.func63, Try.ntmps63
  go_wp2
  go_end0
  exact ⟨rfl, ((HB.out.set_ 1 _).set_ 2 _).set_ 3 _, (by repeat (first | exact Kept.refl _ _ | assumption | (refine Kept.setIn ?_ (by simp) _)))⟩
theorem fsample_any (r : Est) (hr : r.ok) (t : Int) (hb : Blk w f 111 (fc q r.has r.s r.v k st rcv tries at_ has since tw o)) :
    Calls Try.prog 18 #[.pointer (some ⟨f, 1, none⟩), .int .i64 t] w fun e w' => e = .returned (.tuple #[]) ∧ Blk w' f 111 (fc q (r.next t).has (r.next t).s (r.next t).v k st rcv tries at_ has since tw o) ∧ Kept (· = f) w w' := by
  have c0 : w.cell? ⟨f, 1, none⟩ = some (.bool r.has) := hb.cell 1
  have hmf : ∀ (fn : Fn) (first cap : Array Value) (w : World), (Instr.makeFunc fn first cap).run Try.prog w = .ok (.func fn first cap) w := fun _ _ _ _ => rfl
  obtain ⟨c, hc⟩ : ∃ c, clampT t = c := ⟨_, rfl⟩
  have hcb := clampT_bd t
  rw [hc] at hcb
  have HB := Lib.hid hb; clear hb
  have HC := Lib.hid hc
  have hsplit : (t < 0 ∧ c = 0) ∨ (1000 < t ∧ c = 1000) ∨ (0 ≤ t ∧ t ≤ 1000 ∧ c = t) := by unfold clampT at hc; omega
  clear hc
  rw [next_has]
  cases hh : r.has
  · rw [hh] at c0
    have HN := Lib.hid (next_no hh t c HC.out)
    have HH := Lib.hid hh; clear hh
    rcases hsplit with ⟨h1, rfl⟩ | ⟨h1, rfl⟩ | ⟨h1, h2, rfl⟩
    all_goals
      go_enter Try.func18, Try.ntmps18
      go_wp2_with (go_at_call 63; refine (ffirst_any _ (by omega) HB.out).mono ?_; rintro e w' ⟨rfl, hb, hk⟩)
      go_end0
      exact ⟨rfl, by rw [HN.out]; exact hb, hk⟩
  · rw [hh] at c0
    have HN := Lib.hid (next_yes hh t c HC.out)
    have HH := Lib.hid hh; clear hh
    rcases hsplit with ⟨h1, rfl⟩ | ⟨h1, rfl⟩ | ⟨h1, h2, rfl⟩
    all_goals
      go_enter Try.func18, Try.ntmps18
      go_wp2_with (go_at_call 62; refine (flater_any _ ⟨hr.1, hr.2.1⟩ ⟨hr.2.2.1, hr.2.2.2.1⟩ (by omega) (by have := HB.out; rw [HH.out] at this; exact this)).mono ?_; rintro e w' ⟨rfl, hb, hk⟩)
      go_end0
      exact ⟨rfl, by rw [HN.out]; exact hb, hk⟩
theorem fwait_any (r : Est) (hr : r.ok) (k : Nat) (hk : k ≤ 16) (hb : Blk w f 111 (fc q r.has r.s r.v k st rcv tries at_ has since tw o)) :
    Calls Try.prog 20 #[.pointer (some ⟨f, 1, none⟩)] w fun e w' => e = .returned (.int .i64 (wait r.base k)) ∧ Fine w w' := by
  have c0 : w.cell? ⟨f, 1, none⟩ = some (.bool r.has) := hb.cell 1
  have c1 : w.cell? ⟨f, 2, none⟩ = some (.int .i64 r.s) := hb.cell 2
  have c2 : w.cell? ⟨f, 3, none⟩ = some (.int .i64 r.v) := hb.cell 3
  have c3 : w.cell? ⟨f, 4, none⟩ = some (.int .i64 k) := hb.cell 4
  have hp := pow_bd k hk
  have hpp := prod_bd r.base _ (Est.base_bd r) hp
  have HB := Lib.hid hb; clear hb
  have hr1 := hr.1
  have hr2 := hr.2.1
  have hr3 := hr.2.2.1
  have hr4 := hr.2.2.2.1
  cases hh : r.has
  · rw [hh] at c0
    have HE := Lib.hid (show r.base = 4 by unfold Est.base; simp [hh])
    clear hh hpp
    go_enter Try.func20, Try.ntmps20
    go_wp2
    all_goals
      go_ret
      exact ⟨ret_int (by unfold wait; rw [HE.out]; omega), Fine.refl _⟩
  · rw [hh] at c0
    have HE := Lib.hid (base_if r hh)
    clear hh
    go_enter Try.func20, Try.ntmps20
    go_wp2
    go_region
    rw [HE.out]
    go_wp2
    all_goals
      go_ret
      exact ⟨ret_int (by unfold wait; omega), (Fine.refl _).drew⟩
theorem fsmooth_any (r : Est) (hb : Blk w f 111 (fc q r.has r.s r.v k st rcv tries at_ has since tw o)) :
    Calls Try.prog 19 #[.pointer (some ⟨f, 1, none⟩)] w fun e w' => e = .returned (.int .i64 r.told) ∧ Fine w w' := by
  have c0 : w.cell? ⟨f, 1, none⟩ = some (.bool r.has) := hb.cell 1
  have c1 : w.cell? ⟨f, 2, none⟩ = some (.int .i64 r.s) := hb.cell 2
  clear hb
  cases hh : r.has
  all_goals
    rw [hh] at c0
    have HE := Lib.hid hh; clear hh
    go_enter Try.func19, Try.ntmps19
    go_wp2
    go_ret
    exact ⟨ret_int (by unfold Est.told; simp [HE.out]), Fine.refl _⟩
theorem fback_any (k : Nat) (hk : k ≤ 16) (hb : Blk w f 111 (fc q h s v k st rcv tries at_ has since tw o)) :
    Calls Try.prog 21 #[.pointer (some ⟨f, 1, none⟩)] w fun e w' => e = .returned (.tuple #[]) ∧ Blk w' f 111 (fc q h s v ((min (k + 1) 16 : Nat) : Int) st rcv tries at_ has since tw o) ∧ Kept (· = f) w w' := by
  have c3 : w.cell? ⟨f, 4, none⟩ = some (.int .i64 k) := hb.cell 4
  have f3 : w.frozen? ⟨f, 4, none⟩ = false := hb.frozen 4
  have HB := Lib.hid hb; clear hb
  have hsplit : (k = 16) ∨ k < 16 := by omega
  rcases hsplit with rfl | h
  all_goals
    go_enter Try.func21, Try.ntmps21
    go_wp2
    go_end0
    refine ⟨rfl, ?_, (by repeat (first | exact Kept.refl _ _ | assumption | (refine Kept.setIn ?_ (by simp) _)))⟩
  · exact HB.out.set_ 4 _
  · rw [show ((min (k + 1) 16 : Nat) : Int) = (k : Int) + 1 by omega]
    exact HB.out.set_ 4 _
theorem ffresh_any (hb : Blk w f 111 (fc q h s v k st rcv tries at_ has since tw o)) :
    Calls Try.prog 22 #[.pointer (some ⟨f, 1, none⟩)] w fun e w' => e = .returned (.tuple #[]) ∧ Blk w' f 111 (fc q h s v 0 st rcv tries at_ has since tw o) ∧ Kept (· = f) w w' := by
  have c3 : w.cell? ⟨f, 4, none⟩ = some (.int .i64 k) := hb.cell 4
  have f3 : w.frozen? ⟨f, 4, none⟩ = false := hb.frozen 4
  have HB := Lib.hid hb; clear hb
  go_enter Try.func22, Try.ntmps22
  go_wp2
  go_end0
  exact ⟨rfl, HB.out.set_ 4 _, (by repeat (first | exact Kept.refl _ _ | assumption | (refine Kept.setIn ?_ (by simp) _)))⟩
/-! Its numbers. -/
theorem ftold_any (hb : Blk w f 111 (fc q h s v k st rcv tries at_ has since tw o)) :
    Calls Try.prog 89 #[.pointer (some ⟨f, 0, none⟩)] w fun e w' => e = .returned (.int .u32 (if st = 1 then 0 else rcv)) ∧ Fine w w' := by
  have c5 : w.cell? ⟨f, 5, none⟩ = some (.int .i64 st) := hb.cell 5
  have c6 : w.cell? ⟨f, 6, none⟩ = some (.int .u32 rcv) := hb.cell 6
  clear hb
  by_cases h1 : st = 1
  · subst h1
    rw [if_pos rfl]
    go_enter Try.func89, Try.ntmps89
    go_wp2_with fail
    go_ret
    exact ⟨rfl, Fine.refl w⟩
  · rw [if_neg h1]
    have g : (st == 1) = false := by simpa using h1
    go_enter Try.func89, Try.ntmps89
    go_wp2_with fail
    go_ret
    exact ⟨rfl, Fine.refl w⟩
theorem fover_any (hb : Blk w f 111 (fc q h s v k st rcv tries at_ has since tw o)) :
    Calls Try.prog 73 #[.pointer (some ⟨f, 0, none⟩)] w fun e w' => e = .returned (.bool (decide (10 ≤ st))) ∧ Fine w w' := by
  have c5 : w.cell? ⟨f, 5, none⟩ = some (.int .i64 st) := hb.cell 5
  clear hb
  go_enter Try.func73, Try.ntmps73
  go_wp2_with fail
  go_ret
  exact ⟨rfl, Fine.refl w⟩
theorem fstate_any (hb : Blk w f 111 (fc q h s v k st rcv tries at_ has since tw o)) :
    Calls Try.prog 47 #[.pointer (some ⟨f, 0, none⟩)] w fun e w' => e = .returned (.int .i64 st) ∧ Fine w w' := by
  have c5 : w.cell? ⟨f, 5, none⟩ = some (.int .i64 st) := hb.cell 5
  clear hb
  go_enter Try.func47, Try.ntmps47
  go_wp2_with fail
  go_ret
  exact ⟨rfl, Fine.refl w⟩
theorem fat_any (hb : Blk w f 111 (fc q h s v k st rcv tries at_ has since tw o)) :
    Calls Try.prog 49 #[.pointer (some ⟨f, 0, none⟩)] w fun e w' => e = .returned (.tuple #[.int .i64 at_, .bool has]) ∧ Fine w w' := by
  have c8 : w.cell? ⟨f, 8, none⟩ = some (.int .i64 at_) := hb.cell 8
  have c9 : w.cell? ⟨f, 9, none⟩ = some (.bool has) := hb.cell 9
  clear hb
  go_enter Try.func49, Try.ntmps49
  go_upto_region 3 with fail
  go_quiet (fail)
  go_wp2_with fail
  exact bodyPost_ret (v := .tuple #[.int .i64 at_, .bool has]) (by simp [results, Try.results49, go_sem]) rfl ⟨rfl, (Fine.refl w).drewN _⟩
theorem frest_any (hb : Blk w f 111 (fc q h s v k st rcv tries at_ has since tw o)) :
    Calls Try.prog 81 #[.pointer (some ⟨f, 0, none⟩)] w fun e w' => e = .returned (.tuple #[]) ∧ Blk w' f 111 (fc q h s v k st rcv tries 0 false since tw o) ∧ Kept (· = f) w w' := by
  have c8 : w.cell? ⟨f, 8, none⟩ = some (.int .i64 at_) := hb.cell 8
  have c9 : w.cell? ⟨f, 9, none⟩ = some (.bool has) := hb.cell 9
  have z8 : w.frozen? ⟨f, 8, none⟩ = false := hb.frozen 8
  have z9 : w.frozen? ⟨f, 9, none⟩ = false := hb.frozen 9
  have HB := Lib.hid hb; clear hb
  go_enter Try.func81, Try.ntmps81
  go_wp2_with fail
  go_end0
  exact ⟨rfl, (HB.out.set_ 8 (.int .i64 0)).set_ 9 (.bool false), ((Kept.refl (· = f) w).setIn (p := ⟨f, 8, none⟩) rfl _).setIn (p := ⟨f, 9, none⟩) rfl _⟩
theorem fdead_any (hb : Blk w f 111 (fc q h s v k st rcv tries at_ has since tw o)) :
    Calls Try.prog 74 #[.pointer (some ⟨f, 0, none⟩)] w fun e w' => e = .returned (.tuple #[]) ∧ Blk w' f 111 (fc q h s v k 11 rcv tries 0 false since tw o) ∧ Kept (· = f) w w' := by
  have c5 : w.cell? ⟨f, 5, none⟩ = some (.int .i64 st) := hb.cell 5
  have z5 : w.frozen? ⟨f, 5, none⟩ = false := hb.frozen 5
  have B1 := Lib.hid (hb.set_ 5 (.int .i64 11) : Blk (w.setCell ⟨f, 5, none⟩ (.int .i64 11)) f 111 (fc q h s v k 11 rcv tries at_ has since tw o))
  have K1 := Lib.hid ((Kept.refl (· = f) w).setIn (p := ⟨f, 5, none⟩) rfl (.int .i64 11))
  clear hb
  go_enter Try.func74, Try.ntmps74
  go_wp2_with fail
  refine (frest_any B1.out).mono ?_
  rintro e w1 ⟨rfl, b2, k2⟩
  have B2 := Lib.hid b2; have K2 := Lib.hid (K1.out.trans k2)
  clear b2 k2
  go_wp2_with fail
  go_end0
  exact ⟨rfl, B2.out, K2.out⟩
theorem farm_any (tick : Int) (r : Est) (hr : r.ok) (k : Nat) (hk : k ≤ 16) (ht : 0 ≤ tick ∧ tick ≤ 1099511627776) (hb : Blk w f 111 (fc q r.has r.s r.v k st rcv tries at_ has since tw o)) :
    Calls Try.prog 84 #[.pointer (some ⟨f, 0, none⟩), .int .i64 tick] w fun e w' => e = .returned (.tuple #[]) ∧ Blk w' f 111 (fc q r.has r.s r.v k st rcv tries (tick + wait r.base k) true since tw o) ∧ Kept (· = f) w w' := by
  have hwb := wait_bd r.base k (Est.base_bd r).1
  have HW := Lib.hid (fwait_any r hr k hk hb)
  obtain ⟨wt, hwt⟩ : ∃ z, wait r.base k = z := ⟨_, rfl⟩
  rw [hwt] at HW hwb ⊢
  have HB := Lib.hid hb
  have e1 : IntKind.i64.wrap (tick + wt) = tick + wt := IntWalk.i64_in _ (by omega)
  clear hb hwt
  go_enter Try.func84, Try.ntmps84
  go_wp2_with fail
  refine HW.out.mono ?_
  rintro e w1 ⟨rfl, f1⟩
  have B1 := Lib.hid (HB.out.fine f1); have F1 := Lib.hid f1
  have c8 : w1.cell? ⟨f, 8, none⟩ = some (.int .i64 at_) := B1.out.cell 8
  have c9 : w1.cell? ⟨f, 9, none⟩ = some (.bool has) := B1.out.cell 9
  have z8 : w1.frozen? ⟨f, 8, none⟩ = false := B1.out.frozen 8
  have z9 : w1.frozen? ⟨f, 9, none⟩ = false := B1.out.frozen 9
  clear f1
  go_wp2_with fail
  go_end0
  exact ⟨rfl, (B1.out.set_ 8 (.int .i64 (tick + wt))).set_ 9 (.bool true), ((Kept.of_fine F1.out : Kept (· = f) w w1).setIn (p := ⟨f, 8, none⟩) rfl _).setIn (p := ⟨f, 9, none⟩) rfl _⟩
theorem fwaits_any (tick : Int) (ht : 0 ≤ tick ∧ tick ≤ 1099511627776) (hb : Blk w f 111 (fc q h s v k st rcv tries at_ has since tw o)) :
    Calls Try.prog 85 #[.pointer (some ⟨f, 0, none⟩), .int .i64 tick] w fun e w' => e = .returned (.tuple #[]) ∧ Blk w' f 111 (fc q h s v k 9 rcv tries (tick + 8) true since tw o) ∧ Kept (· = f) w w' := by
  have e1 : IntKind.i64.wrap (tick + 8) = tick + 8 := IntWalk.i64_in _ (by omega)
  have c5 : w.cell? ⟨f, 5, none⟩ = some (.int .i64 st) := hb.cell 5
  have c8 : w.cell? ⟨f, 8, none⟩ = some (.int .i64 at_) := hb.cell 8
  have c9 : w.cell? ⟨f, 9, none⟩ = some (.bool has) := hb.cell 9
  have z5 : w.frozen? ⟨f, 5, none⟩ = false := hb.frozen 5
  have z8 : w.frozen? ⟨f, 8, none⟩ = false := hb.frozen 8
  have z9 : w.frozen? ⟨f, 9, none⟩ = false := hb.frozen 9
  have HB := Lib.hid hb; clear hb
  go_enter Try.func85, Try.ntmps85
  go_wp2_with fail
  go_end0
  exact ⟨rfl, ((HB.out.set_ 5 (.int .i64 9)).set_ 8 (.int .i64 (tick + 8))).set_ 9 (.bool true), (((Kept.refl (· = f) w).setIn (p := ⟨f, 5, none⟩) rfl _).setIn (p := ⟨f, 8, none⟩) rfl _).setIn (p := ⟨f, 9, none⟩) rfl _⟩
theorem ended_any (st : Int) (w : World) : Calls Try.prog 87 #[.int .i64 st] w fun e w' => e = .returned (.int .i64 (if st = 3 then 6 else if st = 4 then 7 else 9)) ∧ Fine w w' := by
  by_cases h1 : st = 3
  · subst h1
    go_enter Try.func87, Try.ntmps87
    go_wp2_with fail
    go_ret
    exact ⟨rfl, Fine.refl w⟩
  · have g1 : (st == 3) = false := by simpa using h1
    rw [if_neg h1]
    by_cases h2 : st = 4
    · subst h2
      go_enter Try.func87, Try.ntmps87
      go_wp2_with fail
      go_ret
      exact ⟨rfl, Fine.refl w⟩
    · have g2 : (st == 4) = false := by simpa using h2
      rw [if_neg h2]
      go_enter Try.func87, Try.ntmps87
      go_wp2_with fail
      go_ret
      exact ⟨rfl, Fine.refl w⟩
end
end Go.Proofs.Ytjldgialhgfhmaa
