/- Contracts of segment's small functions: in, long, flag, set. -/
import Derived.Test.YthnennleblgjeaaDoorXSegPlain
import Derived.Test.YthnennleblgjeaaDoorMa
namespace Go.Proofs.YthnennleblgjeaaDoor
set_option linter.unusedVariables false
set_option linter.unusedSimpArgs false
open Go.ChangeShapes Go.WideShapes Go.ChangeAt Go.RowKit
set_option linter.unusedVariables false
set_option maxHeartbeats 1000000 in
theorem in_any (n m : Int) (w : World) : Calls Tryd.prog 46 #[.int .i64 n, .int .i64 m] w fun r w' => r = .returned (.bool (inB n m)) ∧ Fine w w' := by
  by_cases h0 : 0 ≤ n
  · have e : inB n m = decide (n ≤ m) := by simp [inB, h0]
    rw [e]
    go_enter Tryd.func46, Tryd.ntmps46
    go_wp2_with fail
    all_goals go_ret
    all_goals exact ⟨by simp_all, Fine.refl w⟩
  · have e : inB n m = false := by simp [inB, h0]
    rw [e]
    go_enter Tryd.func46, Tryd.ntmps46
    go_wp2_with fail
    all_goals go_ret
    all_goals exact ⟨by simp_all, Fine.refl w⟩
set_option maxHeartbeats 1000000 in
theorem flag_any (t : Bool) (n : Int) (w : World) : Calls Tryd.prog 68 #[.bool t, .int .u8 n] w fun r w' => r = .returned (.int .u8 (if t then n else 0)) ∧ Fine w w' := by
  cases t
  · go_enter Tryd.func68, Tryd.ntmps68
    go_wp2_with fail
    go_ret
    exact ⟨rfl, Fine.refl w⟩
  · go_enter Tryd.func68, Tryd.ntmps68
    go_wp2_with fail
    go_ret
    exact ⟨rfl, Fine.refl w⟩
set_option maxHeartbeats 1000000 in
theorem long_any (N : Nat → Int) (A B : Option Addr) (n c m d : Nat) (w : World) : Calls Tryd.prog 13 #[.agg (segL N (.slice A n c) (.slice B m d)).toArray] w fun r w' => r = .returned (.bool (decide (50 < n) || decide (200 < m))) ∧ Fine w w' := by
  by_cases h0 : 50 < n
  · have h1 : (n : Int) > 50 := by omega
    go_enter Tryd.func13, Tryd.ntmps13
    go_wp2_with fail
    all_goals go_ret
    all_goals exact ⟨by simp [h0], (by repeat (first | exact Fine.refl _ | assumption | refine Fine.alloc ?_ _ | refine Fine.drew ?_ | refine Fine.drewN ?_ _ | refine Fine.trans ?_ (by assumption) | (refine Fine.kept ?_ (by assumption) (by intro x hx; first | omega | (simp; omega))) | (refine Fine.setCell ?_ (by first | assumption | (simp; done) | (simp; omega)) _)))⟩
  · have h1 : ¬ (n : Int) > 50 := by omega
    go_enter Tryd.func13, Tryd.ntmps13
    go_wp2_with fail
    all_goals go_ret
    all_goals exact ⟨by simp; omega, (by repeat (first | exact Fine.refl _ | assumption | refine Fine.alloc ?_ _ | refine Fine.drew ?_ | refine Fine.drewN ?_ _ | refine Fine.trans ?_ (by assumption) | (refine Fine.kept ?_ (by assumption) (by intro x hx; first | omega | (simp; omega))) | (refine Fine.setCell ?_ (by first | assumption | (simp; done) | (simp; omega)) _)))⟩
/-- How truths lie. -/
def layT : Lay Bool 1 := { cs := fun b => [.bool b], len := fun _ => rfl, one := fun b u hu => by simp at hu; subst hu; rfl, pos := by decide }
theorem or_pow {n : Int} {i : Nat} (h0 : 0 ≤ n) (h1 : n < 2 ^ i) (hi : i ≤ 4) : bits .or .u64 n (2 ^ i) = n + 2 ^ i := by
  match i, hi with
  | 0, _ => obtain rfl : n = 0 := (by simp at h1; omega); decide
  | 1, _ => simp at h1; obtain rfl | rfl : n = 0 ∨ n = 1 := (by omega) <;> decide
  | 2, _ => simp at h1; obtain rfl | rfl | rfl | rfl : n = 0 ∨ n = 1 ∨ n = 2 ∨ n = 3 := (by omega) <;> decide
  | 3, _ => simp at h1; obtain rfl | rfl | rfl | rfl | rfl | rfl | rfl | rfl : n = 0 ∨ n = 1 ∨ n = 2 ∨ n = 3 ∨ n = 4 ∨ n = 5 ∨ n = 6 ∨ n = 7 := (by omega) <;> decide
  | 4, _ => simp at h1; obtain rfl | rfl | rfl | rfl | rfl | rfl | rfl | rfl | rfl | rfl | rfl | rfl | rfl | rfl | rfl | rfl : n = 0 ∨ n = 1 ∨ n = 2 ∨ n = 3 ∨ n = 4 ∨ n = 5 ∨ n = 6 ∨ n = 7 ∨ n = 8 ∨ n = 9 ∨ n = 10 ∨ n = 11 ∨ n = 12 ∨ n = 13 ∨ n = 14 ∨ n = 15 := (by omega) <;> decide
theorem wrap_pow {i : Nat} (hi : i ≤ 4) : IntKind.u64.wrap (2 ^ i) = 2 ^ i := by
  match i, hi with
  | 0, _ => decide
  | 1, _ => decide
  | 2, _ => decide
  | 3, _ => decide
  | 4, _ => decide
set_option maxHeartbeats 1000000 in
theorem segset_any (A : Option Addr) (c : Nat) (l : List Bool) (hl : l.length ≤ 4) (w : World) (h : RS layT w A c l) :
    Calls Tryd.prog 33 #[.slice A l.length c] w fun r w' => r = .returned (.int .u64 (setN l)) ∧ Fine w w' := by
  have H := Lib.hid h; clear h
  go_enter Tryd.func33, Tryd.ntmps33
  go_wp2_with fail
  go_loopw [3, 8] (fun s3 s8 wr => ∃ i : Nat, i ≤ l.length ∧ s3 = .int .u64 (setN (l.take i)) ∧ s8 = .int .i64 i ∧ Hid (Fine w wr)) (fun _ s8 _ => l.length - (intOf s8).toNat)
  case atStart => exact ⟨0, Nat.zero_le _, rfl, rfl, Lib.hid (Fine.refl w)⟩
  case round =>
    obtain ⟨i, hi, rfl, rfl, hR⟩ := hrel
    by_cases hlt : i < l.length
    · obtain ⟨V, hV0⟩ : ∃ V, l[i]? = some V := ⟨l[i], List.getElem?_eq_getElem hlt⟩
      obtain ⟨b, o, rfl, hb, hc⟩ := (H.out.fine hR.out).at_ hV0
      have c0 := hc 0 (.bool V) rfl
      have hs := setN_bd (l.take i)
      have hn := setN_snoc (l.take i) V
      have e1 : l.take i ++ [V] = l.take (i + 1) := by rw [List.take_add_one, hV0]; rfl
      rw [List.length_take, Nat.min_eq_left hi] at hs hn
      rw [e1] at hn
      have ho := or_pow hs.1 hs.2 (by omega)
      have HN := Lib.hid hn; have HO := Lib.hid ho
      simp only [Nat.add_zero, Nat.mul_one] at c0
      clear hc hV0 hn ho hs e1
      cases V
      · go_wp2_with fail
        exact ⟨⟨i + 1, hlt, by rw [HN.out]; simp, by simp, hR⟩, by simp only [intOf]; omega⟩
      · go_wp2_with fail
        exact ⟨⟨i + 1, hlt, by rw [wrap_pow (by omega), HO.out, HN.out]; simp, by simp, hR⟩, by simp only [intOf]; omega⟩
    · have hie : i = l.length := by omega
      subst hie
      go_wp2_with fail
      go_ret
      exact ⟨by simp, hR.out⟩
end Go.Proofs.YthnennleblgjeaaDoor
