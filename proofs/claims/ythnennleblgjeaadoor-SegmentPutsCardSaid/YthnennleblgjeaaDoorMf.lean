/- The document's Right of a segment that is not: the ports, the sides. The document's Right of a segment that is not: the window, the lengths. The document's Right. -/
import Derived.Test.YthnennleblgjeaaDoorXSeg1
import Derived.Test.YthnennleblgjeaaDoorXOptRef5
namespace Go.Proofs.YthnennleblgjeaaDoor
set_option linter.unusedVariables false
set_option linter.unusedSimpArgs false
open Go.ChangeShapes Go.WideShapes Go.ChangeAt Go.RowKit
set_option linter.unusedVariables false
set_option linter.unusedSimpArgs false
set_option maxHeartbeats 4000000 in
set_option maxRecDepth 100000 in
theorem rright_bad0 (N : Nat → Int) (A B : Option Addr) (n m c d : Nat) (w : World)  (e0 : N 0 < 0) : Calls Tryd.prog 15 #[.agg (segL N (.slice A n c) (.slice B m d)).toArray] w fun r w' => r = .returned (.bool false) ∧ Fine w w' := by
  go_enter Tryd.func15, Tryd.ntmps15
  go_wp2_with fail
  go_ret
  exact ⟨rfl, (by repeat (first | exact Fine.refl _ | assumption | refine Fine.alloc ?_ _ | refine Fine.drew ?_ | refine Fine.drewN ?_ _ | refine Fine.trans ?_ (by assumption) | (refine Fine.kept ?_ (by assumption) (by intro x hx; first | omega | (simp; omega))) | (refine Fine.setCell ?_ (by first | assumption | (simp; done) | (simp; omega)) _)))⟩
set_option maxHeartbeats 4000000 in
set_option maxRecDepth 100000 in
theorem rright_bad1 (N : Nat → Int) (A B : Option Addr) (n m c d : Nat) (w : World) (e0 : ¬ N 0 < 0) (e1 : N 0 > 3) : Calls Tryd.prog 15 #[.agg (segL N (.slice A n c) (.slice B m d)).toArray] w fun r w' => r = .returned (.bool false) ∧ Fine w w' := by
  go_enter Tryd.func15, Tryd.ntmps15
  go_wp2_with fail
  go_ret
  exact ⟨rfl, (by repeat (first | exact Fine.refl _ | assumption | refine Fine.alloc ?_ _ | refine Fine.drew ?_ | refine Fine.drewN ?_ _ | refine Fine.trans ?_ (by assumption) | (refine Fine.kept ?_ (by assumption) (by intro x hx; first | omega | (simp; omega))) | (refine Fine.setCell ?_ (by first | assumption | (simp; done) | (simp; omega)) _)))⟩
set_option maxHeartbeats 4000000 in
set_option maxRecDepth 100000 in
theorem rright_bad2 (N : Nat → Int) (A B : Option Addr) (n m c d : Nat) (w : World) (e0 : ¬ N 0 < 0) (e1 : ¬ N 0 > 3) (e2 : N 1 < 0) : Calls Tryd.prog 15 #[.agg (segL N (.slice A n c) (.slice B m d)).toArray] w fun r w' => r = .returned (.bool false) ∧ Fine w w' := by
  go_enter Tryd.func15, Tryd.ntmps15
  go_wp2_with fail
  go_ret
  exact ⟨rfl, (by repeat (first | exact Fine.refl _ | assumption | refine Fine.alloc ?_ _ | refine Fine.drew ?_ | refine Fine.drewN ?_ _ | refine Fine.trans ?_ (by assumption) | (refine Fine.kept ?_ (by assumption) (by intro x hx; first | omega | (simp; omega))) | (refine Fine.setCell ?_ (by first | assumption | (simp; done) | (simp; omega)) _)))⟩
set_option maxHeartbeats 4000000 in
set_option maxRecDepth 100000 in
theorem rright_bad3 (N : Nat → Int) (A B : Option Addr) (n m c d : Nat) (w : World) (e0 : ¬ N 0 < 0) (e1 : ¬ N 0 > 3) (e2 : ¬ N 1 < 0) (e3 : N 1 > 3) : Calls Tryd.prog 15 #[.agg (segL N (.slice A n c) (.slice B m d)).toArray] w fun r w' => r = .returned (.bool false) ∧ Fine w w' := by
  go_enter Tryd.func15, Tryd.ntmps15
  go_wp2_with fail
  go_ret
  exact ⟨rfl, (by repeat (first | exact Fine.refl _ | assumption | refine Fine.alloc ?_ _ | refine Fine.drew ?_ | refine Fine.drewN ?_ _ | refine Fine.trans ?_ (by assumption) | (refine Fine.kept ?_ (by assumption) (by intro x hx; first | omega | (simp; omega))) | (refine Fine.setCell ?_ (by first | assumption | (simp; done) | (simp; omega)) _)))⟩
set_option maxHeartbeats 4000000 in
set_option maxRecDepth 100000 in
theorem rright_bad4 (N : Nat → Int) (A B : Option Addr) (n m c d : Nat) (w : World) (e0 : ¬ N 0 < 0) (e1 : ¬ N 0 > 3) (e2 : ¬ N 1 < 0) (e3 : ¬ N 1 > 3) (e4 : N 2 < 0) : Calls Tryd.prog 15 #[.agg (segL N (.slice A n c) (.slice B m d)).toArray] w fun r w' => r = .returned (.bool false) ∧ Fine w w' := by
  go_enter Tryd.func15, Tryd.ntmps15
  go_wp2_with fail
  go_ret
  exact ⟨rfl, (by repeat (first | exact Fine.refl _ | assumption | refine Fine.alloc ?_ _ | refine Fine.drew ?_ | refine Fine.drewN ?_ _ | refine Fine.trans ?_ (by assumption) | (refine Fine.kept ?_ (by assumption) (by intro x hx; first | omega | (simp; omega))) | (refine Fine.setCell ?_ (by first | assumption | (simp; done) | (simp; omega)) _)))⟩
set_option maxHeartbeats 4000000 in
set_option maxRecDepth 100000 in
theorem rright_bad5 (N : Nat → Int) (A B : Option Addr) (n m c d : Nat) (w : World) (e0 : ¬ N 0 < 0) (e1 : ¬ N 0 > 3) (e2 : ¬ N 1 < 0) (e3 : ¬ N 1 > 3) (e4 : ¬ N 2 < 0) (e5 : N 2 > 65535) : Calls Tryd.prog 15 #[.agg (segL N (.slice A n c) (.slice B m d)).toArray] w fun r w' => r = .returned (.bool false) ∧ Fine w w' := by
  go_enter Tryd.func15, Tryd.ntmps15
  go_wp2_with fail
  go_ret
  exact ⟨rfl, (by repeat (first | exact Fine.refl _ | assumption | refine Fine.alloc ?_ _ | refine Fine.drew ?_ | refine Fine.drewN ?_ _ | refine Fine.trans ?_ (by assumption) | (refine Fine.kept ?_ (by assumption) (by intro x hx; first | omega | (simp; omega))) | (refine Fine.setCell ?_ (by first | assumption | (simp; done) | (simp; omega)) _)))⟩
set_option maxHeartbeats 4000000 in
set_option maxRecDepth 100000 in
theorem rright_bad6 (N : Nat → Int) (A B : Option Addr) (n m c d : Nat) (w : World) (e0 : ¬ N 0 < 0) (e1 : ¬ N 0 > 3) (e2 : ¬ N 1 < 0) (e3 : ¬ N 1 > 3) (e4 : ¬ N 2 < 0) (e5 : ¬ N 2 > 65535) (e6 : N 3 < 0) : Calls Tryd.prog 15 #[.agg (segL N (.slice A n c) (.slice B m d)).toArray] w fun r w' => r = .returned (.bool false) ∧ Fine w w' := by
  go_enter Tryd.func15, Tryd.ntmps15
  go_wp2_with fail
  go_ret
  exact ⟨rfl, (by repeat (first | exact Fine.refl _ | assumption | refine Fine.alloc ?_ _ | refine Fine.drew ?_ | refine Fine.drewN ?_ _ | refine Fine.trans ?_ (by assumption) | (refine Fine.kept ?_ (by assumption) (by intro x hx; first | omega | (simp; omega))) | (refine Fine.setCell ?_ (by first | assumption | (simp; done) | (simp; omega)) _)))⟩
set_option maxHeartbeats 4000000 in
set_option maxRecDepth 100000 in
theorem rright_bad7 (N : Nat → Int) (A B : Option Addr) (n m c d : Nat) (w : World) (e0 : ¬ N 0 < 0) (e1 : ¬ N 0 > 3) (e2 : ¬ N 1 < 0) (e3 : ¬ N 1 > 3) (e4 : ¬ N 2 < 0) (e5 : ¬ N 2 > 65535) (e6 : ¬ N 3 < 0) (e7 : N 3 > 65535) : Calls Tryd.prog 15 #[.agg (segL N (.slice A n c) (.slice B m d)).toArray] w fun r w' => r = .returned (.bool false) ∧ Fine w w' := by
  go_enter Tryd.func15, Tryd.ntmps15
  go_wp2_with fail
  go_ret
  exact ⟨rfl, (by repeat (first | exact Fine.refl _ | assumption | refine Fine.alloc ?_ _ | refine Fine.drew ?_ | refine Fine.drewN ?_ _ | refine Fine.trans ?_ (by assumption) | (refine Fine.kept ?_ (by assumption) (by intro x hx; first | omega | (simp; omega))) | (refine Fine.setCell ?_ (by first | assumption | (simp; done) | (simp; omega)) _)))⟩
end Go.Proofs.YthnennleblgjeaaDoor
namespace Go.Proofs.YthnennleblgjeaaDoor
set_option linter.unusedVariables false
set_option linter.unusedSimpArgs false
open Go.ChangeShapes Go.WideShapes Go.ChangeAt Go.RowKit
set_option linter.unusedVariables false
set_option linter.unusedSimpArgs false
set_option maxHeartbeats 4000000 in
set_option maxRecDepth 100000 in
theorem rright_bad8 (N : Nat → Int) (A B : Option Addr) (n m c d : Nat) (w : World) (e0 : ¬ N 0 < 0) (e1 : ¬ N 0 > 3) (e2 : ¬ N 1 < 0) (e3 : ¬ N 1 > 3) (e4 : ¬ N 2 < 0) (e5 : ¬ N 2 > 65535) (e6 : ¬ N 3 < 0) (e7 : ¬ N 3 > 65535) (e8 : N 10 < 0) : Calls Tryd.prog 15 #[.agg (segL N (.slice A n c) (.slice B m d)).toArray] w fun r w' => r = .returned (.bool false) ∧ Fine w w' := by
  go_enter Tryd.func15, Tryd.ntmps15
  go_wp2_with fail
  go_ret
  exact ⟨rfl, (by repeat (first | exact Fine.refl _ | assumption | refine Fine.alloc ?_ _ | refine Fine.drew ?_ | refine Fine.drewN ?_ _ | refine Fine.trans ?_ (by assumption) | (refine Fine.kept ?_ (by assumption) (by intro x hx; first | omega | (simp; omega))) | (refine Fine.setCell ?_ (by first | assumption | (simp; done) | (simp; omega)) _)))⟩
set_option maxHeartbeats 4000000 in
set_option maxRecDepth 100000 in
theorem rright_bad9 (N : Nat → Int) (A B : Option Addr) (n m c d : Nat) (w : World) (e0 : ¬ N 0 < 0) (e1 : ¬ N 0 > 3) (e2 : ¬ N 1 < 0) (e3 : ¬ N 1 > 3) (e4 : ¬ N 2 < 0) (e5 : ¬ N 2 > 65535) (e6 : ¬ N 3 < 0) (e7 : ¬ N 3 > 65535) (e8 : ¬ N 10 < 0) (e9 : N 10 > 65535) : Calls Tryd.prog 15 #[.agg (segL N (.slice A n c) (.slice B m d)).toArray] w fun r w' => r = .returned (.bool false) ∧ Fine w w' := by
  go_enter Tryd.func15, Tryd.ntmps15
  go_wp2_with fail
  go_ret
  exact ⟨rfl, (by repeat (first | exact Fine.refl _ | assumption | refine Fine.alloc ?_ _ | refine Fine.drew ?_ | refine Fine.drewN ?_ _ | refine Fine.trans ?_ (by assumption) | (refine Fine.kept ?_ (by assumption) (by intro x hx; first | omega | (simp; omega))) | (refine Fine.setCell ?_ (by first | assumption | (simp; done) | (simp; omega)) _)))⟩
set_option maxHeartbeats 4000000 in
set_option maxRecDepth 100000 in
theorem rright_bad10 (N : Nat → Int) (A B : Option Addr) (n m c d : Nat) (w : World) (e0 : ¬ N 0 < 0) (e1 : ¬ N 0 > 3) (e2 : ¬ N 1 < 0) (e3 : ¬ N 1 > 3) (e4 : ¬ N 2 < 0) (e5 : ¬ N 2 > 65535) (e6 : ¬ N 3 < 0) (e7 : ¬ N 3 > 65535) (e8 : ¬ N 10 < 0) (e9 : ¬ N 10 > 65535) (e10 : (n : Int) > 4) : Calls Tryd.prog 15 #[.agg (segL N (.slice A n c) (.slice B m d)).toArray] w fun r w' => r = .returned (.bool false) ∧ Fine w w' := by
  go_enter Tryd.func15, Tryd.ntmps15
  go_wp2_with fail
  go_ret
  exact ⟨rfl, (by repeat (first | exact Fine.refl _ | assumption | refine Fine.alloc ?_ _ | refine Fine.drew ?_ | refine Fine.drewN ?_ _ | refine Fine.trans ?_ (by assumption) | (refine Fine.kept ?_ (by assumption) (by intro x hx; first | omega | (simp; omega))) | (refine Fine.setCell ?_ (by first | assumption | (simp; done) | (simp; omega)) _)))⟩
set_option maxHeartbeats 4000000 in
set_option maxRecDepth 100000 in
theorem rright_bad11 (N : Nat → Int) (A B : Option Addr) (n m c d : Nat) (w : World) (e0 : ¬ N 0 < 0) (e1 : ¬ N 0 > 3) (e2 : ¬ N 1 < 0) (e3 : ¬ N 1 > 3) (e4 : ¬ N 2 < 0) (e5 : ¬ N 2 > 65535) (e6 : ¬ N 3 < 0) (e7 : ¬ N 3 > 65535) (e8 : ¬ N 10 < 0) (e9 : ¬ N 10 > 65535) (e10 : ¬ (n : Int) > 4) (e11 : (m : Int) > 8) : Calls Tryd.prog 15 #[.agg (segL N (.slice A n c) (.slice B m d)).toArray] w fun r w' => r = .returned (.bool false) ∧ Fine w w' := by
  go_enter Tryd.func15, Tryd.ntmps15
  go_wp2_with fail
  go_ret
  exact ⟨rfl, (by repeat (first | exact Fine.refl _ | assumption | refine Fine.alloc ?_ _ | refine Fine.drew ?_ | refine Fine.drewN ?_ _ | refine Fine.trans ?_ (by assumption) | (refine Fine.kept ?_ (by assumption) (by intro x hx; first | omega | (simp; omega))) | (refine Fine.setCell ?_ (by first | assumption | (simp; done) | (simp; omega)) _)))⟩
end Go.Proofs.YthnennleblgjeaaDoor
namespace Go.Proofs.YthnennleblgjeaaDoor
set_option linter.unusedVariables false
set_option linter.unusedSimpArgs false
open Go.ChangeShapes Go.WideShapes Go.ChangeAt Go.RowKit
set_option linter.unusedVariables false
set_option linter.unusedSimpArgs false
set_option maxHeartbeats 4000000 in
set_option maxRecDepth 100000 in
theorem rright_good (N : Nat → Int) (A B : Option Addr) (n m c d : Nat) (w : World) (l : List (Nat → Int)) (hn : n = l.length) (hV : ∀ V ∈ l, OkV V) (h1 : RS layO w A c l) (e0 : ¬ N 0 < 0) (e1 : ¬ N 0 > 3) (e2 : ¬ N 1 < 0) (e3 : ¬ N 1 > 3) (e4 : ¬ N 2 < 0) (e5 : ¬ N 2 > 65535) (e6 : ¬ N 3 < 0) (e7 : ¬ N 3 > 65535) (e8 : ¬ N 10 < 0) (e9 : ¬ N 10 > 65535) (e10 : ¬ (n : Int) > 4) (e11 : ¬ (m : Int) > 8) :
    Calls Tryd.prog 15 #[.agg (segL N (.slice A n c) (.slice B m d)).toArray] w fun r w' => r = .returned (.bool (l.all rightF)) ∧ Fine w w' := by
  have hnb : (n : Int) ≤ 4 := by omega
  have HN := Lib.hid hn; clear hn
  have H1 := Lib.hid h1; clear h1
  obtain ⟨q, hq⟩ : ∃ q, l.all rightF = q := ⟨_, rfl⟩
  rw [hq]
  have HQ := Lib.hid hq; clear hq
  go_enter Tryd.func15, Tryd.ntmps15
  go_wp2_with fail
  have b1 : Blk (w.alloc (.cells (segL N (.slice A n c) (.slice B m d)).toArray 26)) w.heap.size 26 (segL N (.slice A n c) (.slice B m d)).toArray := Blk.new w 26 _
  have f1 : Fine w (w.alloc (.cells (segL N (.slice A n c) (.slice B m d)).toArray 26)) := (Fine.refl w).alloc _
  generalize (w.alloc (.cells (segL N (.slice A n c) (.slice B m d)).toArray 26)) = w1 at b1 f1 ⊢
  generalize w.heap.size = x1 at b1 ⊢
  have B1 := Lib.hid b1; clear b1
  clear e0 e1 e2 e3 e4 e5 e6 e7 e8 e9 e10 e11
  go_loopw [3] (fun s wr => ∃ i : Nat, i ≤ n ∧ s = .int .i64 i ∧ Hid (Fine w1 wr ∧ ∀ U ∈ l.take i, rightF U = true)) (fun s _ => n - (intOf s).toNat)
  case atStart => exact ⟨0, Nat.zero_le _, rfl, Lib.hid ⟨Fine.refl w1, fun U hU => by simp at hU⟩⟩
  case round =>
    obtain ⟨i, hi, rfl, hR⟩ := hrel
    have s1 : wr.cell? ⟨x1, 11, none⟩ = some (.slice A n c) := (B1.out.fine hR.out.1).cell 11
    by_cases hlt : i < n
    · obtain ⟨V, hV0⟩ : ∃ V, l[i]? = some V := ⟨_, List.getElem?_eq_getElem (by have := HN.out; omega)⟩
      have hVm := List.mem_of_getElem? hV0
      obtain ⟨b, o, rfl, hb, hc⟩ := (H1.out.fine (f1.trans hR.out.1)).at_ hV0
      have c0 := hc 0 (.int .i64 (V 0)) rfl
      have c1 := hc 1 (.int .u64 (V 1)) rfl
      have c2 := hc 2 (.int .u64 (V 2)) rfl
      have c3 := hc 3 (.int .u32 (V 3)) rfl
      have c4 := hc 4 (.int .u32 (V 4)) rfl
      have c5 := hc 5 (.int .i64 (V 5)) rfl
      have c6 := hc 6 (.int .i64 (V 6)) rfl
      have c7 := hc 7 (.bool (decide (V 7 = 1))) rfl
      have c8 := hc 8 (.bool (decide (V 8 = 1))) rfl
      have c9 := hc 9 (.int .i64 (V 9)) rfl
      have c10 := hc 10 (.bool (decide (V 10 = 1))) rfl
      have c11 := hc 11 (.int .i64 (V 11)) rfl
      have c12 := hc 12 (.int .i64 (V 12)) rfl
      have c13 := hc 13 (.bool (decide (V 13 = 1))) rfl
      have HV0 := Lib.hid hV0
      clear hc hV0
      simp only [← Nat.add_assoc, Nat.add_zero] at c0 c1 c2 c3 c4 c5 c6 c7 c8 c9 c10 c11 c12 c13
      go_wp2_with fail
      refine (refRight_any V (hV V hVm) wr).mono ?_
      rintro y w3 ⟨rfl, f3⟩
      clear c0 c1 c2 c3 c4 c5 c6 c7 c8 c9 c10 c11 c12 c13
      have hrr := right_ref (hV V hVm)
      rw [← hrr]
      clear hrr
      obtain ⟨p, hp⟩ : ∃ p, rightF V = p := ⟨_, rfl⟩
      rw [hp]
      cases p
      · have HE : Hid (q = false) := Lib.hid (by
          rw [← HQ.out, Bool.eq_false_iff]
          intro h
          rw [List.all_eq_true] at h
          rw [h V hVm] at hp; cases hp)
        have fw := (f1.trans hR.out.1).trans f3
        clear hp hR
        go_wp2_with fail
        go_ret
        exact ⟨by rw [HE.out]; rfl, fw⟩
      · have HN2 : Hid (Fine w1 w3 ∧ ∀ U ∈ l.take (i + 1), rightF U = true) := Lib.hid ⟨hR.out.1.trans f3, fun U hU => by
          rw [List.take_add_one, HV0.out] at hU
          rcases List.mem_append.1 hU with hU | hU
          · exact hR.out.2 U hU
          · simp at hU; subst hU; exact hp⟩
        clear hp
        go_wp2_with fail
        exact ⟨⟨i + 1, hlt, by simp, HN2⟩, by simp only [intOf]; omega⟩
    · have hie : i = n := by omega
      subst hie
      have HE : Hid (q = true) := Lib.hid (by
        rw [← HQ.out]
        exact List.all_eq_true.mpr (fun U hU => hR.out.2 U (by rw [List.take_of_length_le (by have := HN.out; omega)]; exact hU)))
      have fw := f1.trans hR.out.1
      clear hR
      go_wp2_with fail
      go_ret
      exact ⟨by rw [HE.out]; rfl, fw⟩
theorem rright_any (N : Nat → Int) (A B : Option Addr) (n m c d : Nat) (w : World) (l : List (Nat → Int)) (xs : List Int) (hn : n = l.length) (hm : m = xs.length) (hV : ∀ V ∈ l, OkV V) (h1 : RS layO w A c l) :
    Calls Tryd.prog 15 #[.agg (segL N (.slice A n c) (.slice B m d)).toArray] w fun r w' => r = .returned (.bool (segRightB N l xs)) ∧ Fine w w' := by
  have no : segRightB N l xs = false → Calls Tryd.prog 15 #[.agg (segL N (.slice A n c) (.slice B m d)).toArray] w (fun r w' => r = .returned (.bool false) ∧ Fine w w') → Calls Tryd.prog 15 #[.agg (segL N (.slice A n c) (.slice B m d)).toArray] w fun r w' => r = .returned (.bool (segRightB N l xs)) ∧ Fine w w' := fun h g => by rw [h]; exact g
  by_cases e0 : N 0 < 0
  · refine no ?_ (rright_bad0 N A B n m c d w e0)
    rw [Bool.eq_false_iff]
    intro h
    have hh := segRight_iff.mp h
    have := hh.src; have := hh.dst; have := hh.sport; have := hh.dport; have := hh.win; have := hh.opts; have := hh.data
    omega
  by_cases e1 : N 0 > 3
  · refine no ?_ (rright_bad1 N A B n m c d w e0 e1)
    rw [Bool.eq_false_iff]
    intro h
    have hh := segRight_iff.mp h
    have := hh.src; have := hh.dst; have := hh.sport; have := hh.dport; have := hh.win; have := hh.opts; have := hh.data
    omega
  by_cases e2 : N 1 < 0
  · refine no ?_ (rright_bad2 N A B n m c d w e0 e1 e2)
    rw [Bool.eq_false_iff]
    intro h
    have hh := segRight_iff.mp h
    have := hh.src; have := hh.dst; have := hh.sport; have := hh.dport; have := hh.win; have := hh.opts; have := hh.data
    omega
  by_cases e3 : N 1 > 3
  · refine no ?_ (rright_bad3 N A B n m c d w e0 e1 e2 e3)
    rw [Bool.eq_false_iff]
    intro h
    have hh := segRight_iff.mp h
    have := hh.src; have := hh.dst; have := hh.sport; have := hh.dport; have := hh.win; have := hh.opts; have := hh.data
    omega
  by_cases e4 : N 2 < 0
  · refine no ?_ (rright_bad4 N A B n m c d w e0 e1 e2 e3 e4)
    rw [Bool.eq_false_iff]
    intro h
    have hh := segRight_iff.mp h
    have := hh.src; have := hh.dst; have := hh.sport; have := hh.dport; have := hh.win; have := hh.opts; have := hh.data
    omega
  by_cases e5 : N 2 > 65535
  · refine no ?_ (rright_bad5 N A B n m c d w e0 e1 e2 e3 e4 e5)
    rw [Bool.eq_false_iff]
    intro h
    have hh := segRight_iff.mp h
    have := hh.src; have := hh.dst; have := hh.sport; have := hh.dport; have := hh.win; have := hh.opts; have := hh.data
    omega
  by_cases e6 : N 3 < 0
  · refine no ?_ (rright_bad6 N A B n m c d w e0 e1 e2 e3 e4 e5 e6)
    rw [Bool.eq_false_iff]
    intro h
    have hh := segRight_iff.mp h
    have := hh.src; have := hh.dst; have := hh.sport; have := hh.dport; have := hh.win; have := hh.opts; have := hh.data
    omega
  by_cases e7 : N 3 > 65535
  · refine no ?_ (rright_bad7 N A B n m c d w e0 e1 e2 e3 e4 e5 e6 e7)
    rw [Bool.eq_false_iff]
    intro h
    have hh := segRight_iff.mp h
    have := hh.src; have := hh.dst; have := hh.sport; have := hh.dport; have := hh.win; have := hh.opts; have := hh.data
    omega
  by_cases e8 : N 10 < 0
  · refine no ?_ (rright_bad8 N A B n m c d w e0 e1 e2 e3 e4 e5 e6 e7 e8)
    rw [Bool.eq_false_iff]
    intro h
    have hh := segRight_iff.mp h
    have := hh.src; have := hh.dst; have := hh.sport; have := hh.dport; have := hh.win; have := hh.opts; have := hh.data
    omega
  by_cases e9 : N 10 > 65535
  · refine no ?_ (rright_bad9 N A B n m c d w e0 e1 e2 e3 e4 e5 e6 e7 e8 e9)
    rw [Bool.eq_false_iff]
    intro h
    have hh := segRight_iff.mp h
    have := hh.src; have := hh.dst; have := hh.sport; have := hh.dport; have := hh.win; have := hh.opts; have := hh.data
    omega
  by_cases e10 : (n : Int) > 4
  · refine no ?_ (rright_bad10 N A B n m c d w e0 e1 e2 e3 e4 e5 e6 e7 e8 e9 e10)
    rw [Bool.eq_false_iff]
    intro h
    have hh := segRight_iff.mp h
    have := hh.src; have := hh.dst; have := hh.sport; have := hh.dport; have := hh.win; have := hh.opts; have := hh.data
    omega
  by_cases e11 : (m : Int) > 8
  · refine no ?_ (rright_bad11 N A B n m c d w e0 e1 e2 e3 e4 e5 e6 e7 e8 e9 e10 e11)
    rw [Bool.eq_false_iff]
    intro h
    have hh := segRight_iff.mp h
    have := hh.src; have := hh.dst; have := hh.sport; have := hh.dport; have := hh.win; have := hh.opts; have := hh.data
    omega
  have g := rright_good N A B n m c d w l hn hV h1 e0 e1 e2 e3 e4 e5 e6 e7 e8 e9 e10 e11
  have e : segRightB N l xs = l.all rightF := by
    unfold segRightB
    rw [inB_iff.mpr (show 0 ≤ N 0 ∧ N 0 ≤ 3 by omega), inB_iff.mpr (show 0 ≤ N 1 ∧ N 1 ≤ 3 by omega), inB_iff.mpr (show 0 ≤ N 2 ∧ N 2 ≤ 65535 by omega), inB_iff.mpr (show 0 ≤ N 3 ∧ N 3 ≤ 65535 by omega), inB_iff.mpr (show 0 ≤ N 10 ∧ N 10 ≤ 65535 by omega), decide_eq_true (show l.length ≤ 4 by omega), decide_eq_true (show xs.length ≤ 8 by omega)]
    simp
  rw [e]
  exact g
end Go.Proofs.YthnennleblgjeaaDoor
