/- Plain law of the estimate of layer 12: what the program's and the reference's steps compute. Contracts of package rtt's functions. -/
import Derived.Test.YtjldgialhgfhmaaRows
import Derived.Test.YtjldgialhgfhmaaMem
import Derived.WalkKit
import Derived.ProofKit
import Derived.OpenShut
import Derived.RegionTactic
import Derived.BigRegion
import Derived.BigQuiet
import Derived.Deep.QuietTactic
import Derived.WalkLawsBesides
namespace Go.Proofs.Ytjldgialhgfhmaa
set_option linter.unusedVariables false
set_option linter.unusedSimpArgs false

set_option linter.unusedVariables false
/-- An estimate: has, smoothed time (eighths), variance (quarters). -/
structure Est where
  has : Bool
  s : Int
  v : Int

def clampT (t : Int) : Int := min (max t 0) 1000
def absI (e : Int) : Int := max e (-e)
def Est.next (r : Est) (t : Int) : Est :=
  if r.has then ⟨true, r.s + (clampT t - r.s / 8), r.v + (absI (clampT t - r.s / 8) - r.v / 4)⟩ else ⟨true, 8 * clampT t, 2 * clampT t⟩
def Est.ok (r : Est) : Prop := 0 ≤ r.s ∧ r.s ≤ 8000 ∧ 0 ≤ r.v ∧ r.v ≤ 4003 ∧ (r.has = false → r.s = 0 ∧ r.v = 0)
theorem clampT_bd (t : Int) : 0 ≤ clampT t ∧ clampT t ≤ 1000 := by unfold clampT; omega
theorem Est.ok_next {r : Est} (h : r.ok) (t : Int) : (r.next t).ok := by
  have hc := clampT_bd t
  obtain ⟨a, b, c, d, e⟩ := h
  unfold Est.next absI
  split
  · refine ⟨?_, ?_, ?_, ?_, by simp⟩ <;> simp only <;> omega
  · refine ⟨?_, ?_, ?_, ?_, by simp⟩ <;> simp only <;> omega

/-- The wait before it is doubled. -/
def Est.base (r : Est) : Int := if r.has then min (max (r.s / 8 + max r.v 1) 2) 16 else 4
theorem Est.base_bd (r : Est) : 2 ≤ r.base ∧ r.base ≤ 16 := by unfold Est.base; split <;> omega
def wait (b : Int) (k : Nat) : Int := min (b * 2 ^ k) 16
def Est.told (r : Est) : Int := if r.has then r.s else 32
theorem two_pow_pos (k : Nat) : (1 : Int) ≤ 2 ^ k := by
  induction k with
  | zero => simp
  | succ k ih => rw [Int.pow_succ]; omega
theorem wait_succ (b : Int) (k : Nat) (hb : 2 ≤ b) : wait b (k + 1) = min (2 * wait b k) 16 := by
  unfold wait
  have h := two_pow_pos k
  have e : b * 2 ^ (k + 1) = 2 * (b * 2 ^ k) := by rw [Int.pow_succ]; rw [← Int.mul_assoc, Int.mul_comm]
  rw [e]
  omega
theorem wait_bd (b : Int) (k : Nat) (hb : 2 ≤ b) : 2 ≤ wait b k ∧ wait b k ≤ 16 := by
  induction k with
  | zero => unfold wait; simp; omega
  | succ k ih => rw [wait_succ b k hb]; omega
theorem wait_zero (b : Int) (h : b ≤ 16) : wait b 0 = b := by unfold wait; simp; omega
theorem wait_mono (b : Int) (k : Nat) (hb : 2 ≤ b) : wait b k ≤ wait b (k + 1) := by have := wait_bd b k hb; rw [wait_succ b k hb]; omega
theorem wait_big (b : Int) (k j : Nat) (hb : 2 ≤ b) (h : wait b k = 16) : wait b (k + j) = 16 := by
  induction j with
  | zero => exact h
  | succ j ih => rw [← Nat.add_assoc, wait_succ b _ hb, ih]; rfl
theorem wait_3 (b : Int) (hb : 2 ≤ b) : wait b 3 = 16 := by unfold wait; omega
/-- Beyond sixteen doublings nothing turns. -/
theorem wait_cap (b : Int) (k : Nat) (hb : 2 ≤ b) : wait b (min k 16) = wait b k := by
  rcases Nat.le_total k 16 with h | h
  · rw [Nat.min_eq_left h]
  · rw [Nat.min_eq_right h]
    have e1 := wait_big b 3 13 hb (wait_3 b hb)
    have e2 := wait_big b 3 (k - 3) hb (wait_3 b hb)
    rw [show 3 + 13 = 16 from rfl] at e1
    rw [show 3 + (k - 3) = k by omega] at e2
    rw [e1, e2]
/-- The same samples, each no less: the smoothed time is no less. -/
theorem next_mono {x y : Est} (hx : x.ok) (hy : y.ok) (hh : x.has = y.has) (hs : x.s ≤ y.s) (t u : Int) (htu : t ≤ u) :
    (x.next t).has = (y.next u).has ∧ (x.next t).s ≤ (y.next u).s := by
  obtain ⟨_, _, _, _, _⟩ := hx
  obtain ⟨_, _, _, _, _⟩ := hy
  have : clampT t ≤ clampT u := by unfold clampT; omega
  unfold Est.next
  rw [hh]
  cases y.has <;> simp <;> omega
theorem next_same (r : Est) (t : Int) (h0 : 0 ≤ t) (h1 : t < 1000) (hs : r.has = true → r.s = 8 * t) : (r.next t).has = true ∧ (r.next t).s = 8 * t := by
  have : clampT t = t := by unfold clampT; omega
  unfold Est.next
  rw [this]
  cases hh : r.has
  · simp
  · have := hs hh
    simp; omega
end Go.Proofs.Ytjldgialhgfhmaa
namespace Go.Proofs.Ytjldgialhgfhmaa
set_option linter.unusedVariables false
set_option linter.unusedSimpArgs false
open Go.ChangeShapes Go.WideShapes Go.ChangeAt Go.RowKit
set_option linter.unusedVariables false

theorem absI_if (e : Int) : (if e < -e then -e else e) = absI e := by unfold absI; omega

theorem later_any (g : Nat) (s v k t : Int) (hs : 0 ≤ s ∧ s ≤ 8000) (hv : 0 ≤ v ∧ v ≤ 4003) (ht : 0 ≤ t ∧ t ≤ 1000) (w : World) (hb : Blk w g 25 #[.bool true, .int .i64 s, .int .i64 v, .int .i64 k]) :
    Calls Try.prog 62 #[.pointer (some ⟨g, 0, none⟩), .int .i64 t] w fun e w' => e = .returned (.tuple #[]) ∧ Blk w' g 25 #[.bool true, .int .i64 (s + (t - s / 8)), .int .i64 (v + (absI (t - s / 8) - v / 4)), .int .i64 k] ∧ Kept (· = g) w w' := by
  have c1 : w.cell? ⟨g, 1, none⟩ = some (.int .i64 s) := hb.cell 1
  have c2 : w.cell? ⟨g, 2, none⟩ = some (.int .i64 v) := hb.cell 2
  have f1 : w.frozen? ⟨g, 1, none⟩ = false := hb.frozen 1
  have f2 : w.frozen? ⟨g, 2, none⟩ = false := hb.frozen 2
  have HB := Lib.hid hb; clear hb
  go_enter Try.func62, Try.ntmps62
  go_wp2
  go_region
  go_end0
  refine ⟨rfl, ?_, (by repeat (first | exact Kept.refl _ _ | assumption | (refine Kept.setIn ?_ (by simp) _) | refine Kept.alloc ?_ _ | refine Kept.drew ?_ | refine Kept.trans ?_ (by assumption)))⟩
  rw [absI_if]
  exact ((HB.out.set_ 1 _).set_ 2 _).drew

theorem first_any (g : Nat) (b : Bool) (s v k t : Int) (ht : 0 ≤ t ∧ t ≤ 1000) (w : World) (hb : Blk w g 25 #[.bool b, .int .i64 s, .int .i64 v, .int .i64 k]) :
    Calls Try.prog 63 #[.pointer (some ⟨g, 0, none⟩), .int .i64 t] w fun e w' => e = .returned (.tuple #[]) ∧ Blk w' g 25 #[.bool true, .int .i64 (8 * t), .int .i64 (2 * t), .int .i64 k] ∧ Kept (· = g) w w' := by
  have f0 : w.frozen? ⟨g, 0, none⟩ = false := hb.frozen 0
  have c0 : w.cell? ⟨g, 0, none⟩ = some (.bool b) := hb.cell 0
  have c1 : w.cell? ⟨g, 1, none⟩ = some (.int .i64 s) := hb.cell 1
  have c2 : w.cell? ⟨g, 2, none⟩ = some (.int .i64 v) := hb.cell 2
  have f1 : w.frozen? ⟨g, 1, none⟩ = false := hb.frozen 1
  have f2 : w.frozen? ⟨g, 2, none⟩ = false := hb.frozen 2
  have HB := Lib.hid hb; clear hb
  go_enter Try.func63, Try.ntmps63
  go_wp2
  go_end0
  exact ⟨rfl, ((HB.out.set_ 0 _).set_ 1 _).set_ 2 _, (by repeat (first | exact Kept.refl _ _ | assumption | (refine Kept.setIn ?_ (by simp) _) | refine Kept.alloc ?_ _ | refine Kept.drew ?_ | refine Kept.trans ?_ (by assumption)))⟩

theorem next_no {r : Est} (hh : r.has = false) (t c : Int) (hc : clampT t = c) : r.next t = ⟨true, 8 * c, 2 * c⟩ := by unfold Est.next; simp [hh, hc]
theorem next_yes {r : Est} (hh : r.has = true) (t c : Int) (hc : clampT t = c) : r.next t = ⟨true, r.s + (c - r.s / 8), r.v + (absI (c - r.s / 8) - r.v / 4)⟩ := by unfold Est.next; simp [hh, hc]
theorem next_has (r : Est) (t : Int) : (r.next t).has = true := by unfold Est.next; split <;> rfl

theorem sample_any (g : Nat) (r : Est) (hr : r.ok) (k t : Int) (w : World) (hb : Blk w g 25 #[.bool r.has, .int .i64 r.s, .int .i64 r.v, .int .i64 k]) :
    Calls Try.prog 18 #[.pointer (some ⟨g, 0, none⟩), .int .i64 t] w fun e w' => e = .returned (.tuple #[]) ∧ Blk w' g 25 #[.bool true, .int .i64 (r.next t).s, .int .i64 (r.next t).v, .int .i64 k] ∧ Kept (· = g) w w' := by
  have c0 : w.cell? ⟨g, 0, none⟩ = some (.bool r.has) := hb.cell 0
  have hmf : ∀ (fn : Fn) (first cap : Array Value) (w : World), (Instr.makeFunc fn first cap).run Try.prog w = .ok (.func fn first cap) w := fun _ _ _ _ => rfl
  obtain ⟨c, hc⟩ : ∃ c, clampT t = c := ⟨_, rfl⟩
  have hcb := clampT_bd t
  rw [hc] at hcb
  have HB := Lib.hid hb; clear hb
  have HC := Lib.hid hc
  have hsplit : (t < 0 ∧ c = 0) ∨ (1000 < t ∧ c = 1000) ∨ (0 ≤ t ∧ t ≤ 1000 ∧ c = t) := by unfold clampT at hc; omega
  clear hc
  cases hh : r.has
  · rw [hh] at c0
    have HN := Lib.hid (next_no hh t c HC.out)
    have HH := Lib.hid hh; clear hh
    rcases hsplit with ⟨h1, rfl⟩ | ⟨h1, rfl⟩ | ⟨h1, h2, rfl⟩
    all_goals
      go_enter Try.func18, Try.ntmps18
      go_wp2_with (go_at_call 63; refine (first_any _ _ _ _ _ _ (by omega) _ HB.out).mono ?_; rintro e w' ⟨rfl, hb, hk⟩)
      go_end0
      exact ⟨rfl, by rw [HN.out]; exact hb, hk⟩
  · rw [hh] at c0
    have HN := Lib.hid (next_yes hh t c HC.out)
    have HH := Lib.hid hh; clear hh
    rcases hsplit with ⟨h1, rfl⟩ | ⟨h1, rfl⟩ | ⟨h1, h2, rfl⟩
    all_goals
      go_enter Try.func18, Try.ntmps18
      go_wp2_with (go_at_call 62; refine (later_any _ _ _ _ _ ⟨hr.1, hr.2.1⟩ ⟨hr.2.2.1, hr.2.2.2.1⟩ (by omega) _ (by rw [← HH.out]; exact HB.out)).mono ?_; rintro e w' ⟨rfl, hb, hk⟩)
      go_end0
      exact ⟨rfl, by rw [HN.out]; exact hb, hk⟩
theorem sample_nil (t : Int) (w : World) : Calls Try.prog 18 #[.pointer none, .int .i64 t] w fun e w' => e = .returned (.tuple #[]) ∧ w = w' := by
  go_enter Try.func18, Try.ntmps18
  go_wp2
  exact bodyPost_ret (results_none rfl _ _ _) rfl ⟨rfl, rfl⟩

theorem pow_bd (k : Nat) (hk : k ≤ 16) : 1 ≤ (2 : Int) ^ k ∧ (2 : Int) ^ k ≤ 65536 := (show ∀ k : Nat, k ≤ 16 → 1 ≤ (2 : Int) ^ k ∧ (2 : Int) ^ k ≤ 65536 by decide) k hk
theorem base_if (r : Est) (hh : r.has = true) : (if 16 < if (r.s / 8 + if r.v < 1 then 1 else r.v) < 2 then 2 else r.s / 8 + if r.v < 1 then 1 else r.v then
              16
            else if (r.s / 8 + if r.v < 1 then 1 else r.v) < 2 then 2 else r.s / 8 + if r.v < 1 then 1 else r.v) = r.base := by
  unfold Est.base
  simp only [hh, if_true]
  omega
theorem prod_bd (b p : Int) (hb : 2 ≤ b ∧ b ≤ 16) (hp : 1 ≤ p ∧ p ≤ 65536) : 0 ≤ b * p ∧ b * p ≤ 1048576 :=
  ⟨Int.mul_nonneg (by omega) (by omega), Int.le_trans (Int.mul_le_mul hb.2 hp.2 (by omega) (by omega)) (by omega)⟩

theorem wait_any (g : Nat) (r : Est) (hr : r.ok) (k : Nat) (hk : k ≤ 16) (w : World) (hb : Blk w g 25 #[.bool r.has, .int .i64 r.s, .int .i64 r.v, .int .i64 k]) :
    Calls Try.prog 20 #[.pointer (some ⟨g, 0, none⟩)] w fun e w' => e = .returned (.int .i64 (wait r.base k)) ∧ Fine w w' := by
  have c0 : w.cell? ⟨g, 0, none⟩ = some (.bool r.has) := hb.cell 0
  have c1 : w.cell? ⟨g, 1, none⟩ = some (.int .i64 r.s) := hb.cell 1
  have c2 : w.cell? ⟨g, 2, none⟩ = some (.int .i64 r.v) := hb.cell 2
  have c3 : w.cell? ⟨g, 3, none⟩ = some (.int .i64 k) := hb.cell 3
  have hp := pow_bd k hk
  have hpp := prod_bd r.base _ (Est.base_bd r) hp
  have HB := Lib.hid hb; clear hb
  have hr1 := hr.1
  have hr2 := hr.2.1
  have hr3 := hr.2.2.1
  have hr4 := hr.2.2.2.1
  cases hh : r.has
  · rw [hh] at c0
    have HE := Lib.hid (show r.base = 4 by unfold Est.base; simp [hh])
    clear hh hpp
    go_enter Try.func20, Try.ntmps20
    go_wp2
    all_goals
      go_ret
      exact ⟨ret_int (by unfold wait; rw [HE.out]; omega), Fine.refl _⟩
  · rw [hh] at c0
    have HE := Lib.hid (base_if r hh)
    clear hh
    go_enter Try.func20, Try.ntmps20
    go_wp2
    go_region
    rw [HE.out]
    go_wp2
    all_goals
      go_ret
      exact ⟨ret_int (by unfold wait; omega), (Fine.refl _).drew⟩
theorem wait_nil (w : World) : Calls Try.prog 20 #[.pointer none] w fun e w' => e = .returned (.int .i64 4) ∧ Fine w w' := by
  go_enter Try.func20, Try.ntmps20
  go_wp2
  go_ret
  exact ⟨rfl, Fine.refl _⟩

theorem smooth_any (g : Nat) (r : Est) (k : Int) (w : World) (hb : Blk w g 25 #[.bool r.has, .int .i64 r.s, .int .i64 r.v, .int .i64 k]) :
    Calls Try.prog 19 #[.pointer (some ⟨g, 0, none⟩)] w fun e w' => e = .returned (.int .i64 r.told) ∧ Fine w w' := by
  have c0 : w.cell? ⟨g, 0, none⟩ = some (.bool r.has) := hb.cell 0
  have c1 : w.cell? ⟨g, 1, none⟩ = some (.int .i64 r.s) := hb.cell 1
  clear hb
  cases hh : r.has
  all_goals
    rw [hh] at c0
    have HE := Lib.hid hh; clear hh
    go_enter Try.func19, Try.ntmps19
    go_wp2
    go_ret
    exact ⟨ret_int (by unfold Est.told; simp [HE.out]), Fine.refl _⟩
theorem smooth_nil (w : World) : Calls Try.prog 19 #[.pointer none] w fun e w' => e = .returned (.int .i64 32) ∧ Fine w w' := by
  go_enter Try.func19, Try.ntmps19
  go_wp2
  go_ret
  exact ⟨rfl, Fine.refl _⟩

theorem back_any (g : Nat) (b : Bool) (s v : Int) (k : Nat) (hk : k ≤ 16) (w : World) (hb : Blk w g 25 #[.bool b, .int .i64 s, .int .i64 v, .int .i64 k]) :
    Calls Try.prog 21 #[.pointer (some ⟨g, 0, none⟩)] w fun e w' => e = .returned (.tuple #[]) ∧ Blk w' g 25 #[.bool b, .int .i64 s, .int .i64 v, .int .i64 ((min (k + 1) 16 : Nat) : Int)] ∧ Kept (· = g) w w' := by
  have c3 : w.cell? ⟨g, 3, none⟩ = some (.int .i64 k) := hb.cell 3
  have f3 : w.frozen? ⟨g, 3, none⟩ = false := hb.frozen 3
  have HB := Lib.hid hb; clear hb
  have hsplit : (k = 16) ∨ k < 16 := by omega
  rcases hsplit with rfl | h
  all_goals
    go_enter Try.func21, Try.ntmps21
    go_wp2
    go_end0
    refine ⟨rfl, ?_, (by repeat (first | exact Kept.refl _ _ | assumption | (refine Kept.setIn ?_ (by simp) _) | refine Kept.alloc ?_ _ | refine Kept.drew ?_ | refine Kept.trans ?_ (by assumption)))⟩
  · exact HB.out.set_ 3 _
  · rw [show ((min (k + 1) 16 : Nat) : Int) = (k : Int) + 1 by omega]
    exact HB.out.set_ 3 _
theorem back_nil (w : World) : Calls Try.prog 21 #[.pointer none] w fun e w' => e = .returned (.tuple #[]) ∧ Fine w w' := by
  go_enter Try.func21, Try.ntmps21
  go_wp2
  go_end0
  exact ⟨rfl, Fine.refl _⟩
theorem fresh_any (g : Nat) (b : Bool) (s v k : Int) (w : World) (hb : Blk w g 25 #[.bool b, .int .i64 s, .int .i64 v, .int .i64 k]) :
    Calls Try.prog 22 #[.pointer (some ⟨g, 0, none⟩)] w fun e w' => e = .returned (.tuple #[]) ∧ Blk w' g 25 #[.bool b, .int .i64 s, .int .i64 v, .int .i64 ((0 : Nat) : Int)] ∧ Kept (· = g) w w' := by
  have c3 : w.cell? ⟨g, 3, none⟩ = some (.int .i64 k) := hb.cell 3
  have f3 : w.frozen? ⟨g, 3, none⟩ = false := hb.frozen 3
  have HB := Lib.hid hb; clear hb
  go_enter Try.func22, Try.ntmps22
  go_wp2
  go_end0
  exact ⟨rfl, HB.out.set_ 3 _, (by repeat (first | exact Kept.refl _ _ | assumption | (refine Kept.setIn ?_ (by simp) _) | refine Kept.alloc ?_ _ | refine Kept.drew ?_ | refine Kept.trans ?_ (by assumption)))⟩
theorem fresh_nil (w : World) : Calls Try.prog 22 #[.pointer none] w fun e w' => e = .returned (.tuple #[]) ∧ Fine w w' := by
  go_enter Try.func22, Try.ntmps22
  go_wp2
  go_end0
  exact ⟨rfl, Fine.refl _⟩


/-- The program's estimate lies in block g: r, doubled k times. -/
def IsEst (w : World) (g : Nat) (r : Est) (k : Nat) : Prop := r.ok ∧ k ≤ 16 ∧ Blk w g 25 #[.bool r.has, .int .i64 r.s, .int .i64 r.v, .int .i64 k]
def est0 : Est := ⟨false, 0, 0⟩
theorem est0_ok : est0.ok := by unfold Est.ok est0; simp
theorem IsEst.new (w : World) : IsEst (w.alloc (.cells #[.bool false, .int .i64 0, .int .i64 0, .int .i64 0] 25)) w.heap.size est0 0 := ⟨est0_ok, by omega, Blk.new _ _ _⟩
theorem IsEst.fine {w w' : World} {g : Nat} {r : Est} {k : Nat} (h : IsEst w g r k) (hf : Fine w w') : IsEst w' g r k := ⟨h.1, h.2.1, h.2.2.fine hf⟩
theorem IsEst.kept {w w' : World} {g : Nat} {r : Est} {k : Nat} {S : Nat → Prop} (h : IsEst w g r k) (hf : Kept S w w') (hn : ¬ S g) : IsEst w' g r k := ⟨h.1, h.2.1, h.2.2.kept hf hn⟩
theorem IsEst.alloc {w : World} {g : Nat} {r : Est} {k : Nat} (h : IsEst w g r k) (o : Obj) : IsEst (w.alloc o) g r k := ⟨h.1, h.2.1, h.2.2.alloc o⟩
theorem IsEst.lt {w : World} {g : Nat} {r : Est} {k : Nat} (h : IsEst w g r k) : g < w.heap.size := h.2.2.lt

theorem sample_est (g : Nat) (r : Est) (k : Nat) (t : Int) (w : World) (h : IsEst w g r k) :
    Calls Try.prog 18 #[.pointer (some ⟨g, 0, none⟩), .int .i64 t] w fun e w' => e = .returned (.tuple #[]) ∧ IsEst w' g (r.next t) k ∧ Kept (· = g) w w' :=
  (sample_any g r h.1 k t w h.2.2).mono fun e w' ⟨he, hb, hk⟩ => ⟨he, ⟨Est.ok_next h.1 t, h.2.1, by rw [next_has]; exact hb⟩, hk⟩
theorem wait_est (g : Nat) (r : Est) (k : Nat) (w : World) (h : IsEst w g r k) :
    Calls Try.prog 20 #[.pointer (some ⟨g, 0, none⟩)] w fun e w' => e = .returned (.int .i64 (wait r.base k)) ∧ Fine w w' := wait_any g r h.1 k h.2.1 w h.2.2
theorem smooth_est (g : Nat) (r : Est) (k : Nat) (w : World) (h : IsEst w g r k) :
    Calls Try.prog 19 #[.pointer (some ⟨g, 0, none⟩)] w fun e w' => e = .returned (.int .i64 r.told) ∧ Fine w w' := smooth_any g r k w h.2.2
theorem back_est (g : Nat) (r : Est) (k : Nat) (w : World) (h : IsEst w g r k) :
    Calls Try.prog 21 #[.pointer (some ⟨g, 0, none⟩)] w fun e w' => e = .returned (.tuple #[]) ∧ IsEst w' g r (min (k + 1) 16) ∧ Kept (· = g) w w' :=
  (back_any g r.has r.s r.v k h.2.1 w h.2.2).mono fun e w' ⟨he, hb, hk⟩ => ⟨he, ⟨h.1, by omega, hb⟩, hk⟩
theorem fresh_est (g : Nat) (r : Est) (k : Nat) (w : World) (h : IsEst w g r k) :
    Calls Try.prog 22 #[.pointer (some ⟨g, 0, none⟩)] w fun e w' => e = .returned (.tuple #[]) ∧ IsEst w' g r 0 ∧ Kept (· = g) w w' :=
  (fresh_any g r.has r.s r.v k w h.2.2).mono fun e w' ⟨he, hb, hk⟩ => ⟨he, ⟨h.1, by omega, hb⟩, hk⟩

theorem rttWakes (w : World) : Calls Try.prog 17 #[] w fun e w' => e = .returned (.bool true) ∧ Fine w w' := by
  have e6 : wait (est0.next 2).base 0 = 6 := by decide
  go_enter Try.func17, Try.ntmps17
  go_wp2_with (first
    | (go_at_call 18; refine (sample_est _ _ _ _ _ (IsEst.new _)).mono ?_; rintro e w1 ⟨rfl, h1, k1⟩)
    | (go_at_call 20; refine (wait_est _ _ _ _ h1).mono ?_; rintro e w2 ⟨rfl, f2⟩))
  go_ret
  exact ⟨rfl, (by repeat (first | exact Fine.refl _ | assumption | refine Fine.alloc ?_ _ | refine Fine.drew ?_ | refine Fine.trans ?_ (by assumption) | (refine Fine.kept ?_ (by assumption) (by intro x hx; first | omega | (simp; omega)))))⟩

theorem lawRttNil (w : World) (n : Int) (wn : (Lit.int .i64 n).wf = true) : Calls Try.prog 7 #[.int .i64 n] w fun e w' => e = .returned (.bool true) ∧ Below w.heap.size w w' := by
  show Calls _ _ _ _ fun e w' => e = .returned (.bool true) ∧ Fine w w'
  clear wn
  go_enter Try.func7, Try.ntmps7
  go_wp2_with (first
    | (go_at_call 17; refine (rttWakes _).mono ?_; rintro e w1 ⟨rfl, h1⟩)
    | (go_at_call 18; refine (sample_nil _ _).mono ?_; rintro e w1 ⟨rfl, rfl⟩)
    | (go_at_call 21; refine (back_nil _).mono ?_; rintro e w1 ⟨rfl, h1⟩)
    | (go_at_call 22; refine (fresh_nil _).mono ?_; rintro e w1 ⟨rfl, h1⟩)
    | (go_at_call 20; refine (wait_nil _).mono ?_; rintro e w1 ⟨rfl, h1⟩)
    | (go_at_call 19; refine (smooth_nil _).mono ?_; rintro e w1 ⟨rfl, h1⟩))
  go_ret
  exact ⟨rfl, (by repeat (first | exact Fine.refl _ | assumption | refine Fine.alloc ?_ _ | refine Fine.drew ?_ | refine Fine.trans ?_ (by assumption)))⟩
end Go.Proofs.Ytjldgialhgfhmaa
