/- Contracts: Right$1, IndexFunc, ContainsFunc, segment.Right. -/
import Derived.Test.YthnennleblgjeaaDoorXSeg1
namespace Go.Proofs.YthnennleblgjeaaDoor
set_option linter.unusedVariables false
set_option linter.unusedSimpArgs false
open Go.ChangeShapes Go.WideShapes Go.ChangeAt Go.RowKit
set_option linter.unusedVariables false
set_option maxHeartbeats 2000000 in
set_option maxRecDepth 50000 in
theorem notright_any (V : Nat → Int) (hV : OkV V) (w : World) : Calls Tryd.prog 48 #[.agg (optL V).toArray] w fun r w' => r = .returned (.bool (!rightF V)) ∧ Fine w w' := by
  obtain ⟨q, hq⟩ : ∃ q, rightF V = q := ⟨_, rfl⟩
  have HC := Lib.hid (fun w => hq ▸ right_any V hV w)
  rw [hq]
  clear hq
  go_enter Tryd.func48, Tryd.ntmps48
  go_wp2_with fail
  refine (HC.out _).mono ?_
  rintro x w2 ⟨rfl, f2⟩
  have f02 : Fine w w2 := (by repeat (first | exact Fine.refl _ | assumption | refine Fine.alloc ?_ _ | refine Fine.drew ?_ | refine Fine.drewN ?_ _ | refine Fine.trans ?_ (by assumption) | (refine Fine.kept ?_ (by assumption) (by intro x hx; first | omega | (simp; omega))) | (refine Fine.setCell ?_ (by first | assumption | (simp; done) | (simp; omega)) _)))
  cases q
  · go_wp2_with fail
    go_ret
    exact ⟨rfl, f02⟩
  · go_wp2_with fail
    go_ret
    exact ⟨rfl, f02⟩
set_option maxHeartbeats 2000000 in
set_option maxRecDepth 50000 in
theorem index_any (A : Option Addr) (c : Nat) (l : List (Nat → Int)) (hl : l.length ≤ 1000) (hV : ∀ V ∈ l, OkV V) (w : World) (h : RS layO w A c l) :
    Calls Tryd.prog 64 #[.slice A l.length c, .func (.func 48) #[] #[]] w fun r w' => ∃ k : Int, r = .returned (.int .i64 k) ∧ decide (0 ≤ k) = !(l.all rightF) ∧ Fine w w' := by
  have H := Lib.hid h; clear h
  go_enter Tryd.func64, Tryd.ntmps64
  go_wp2_with fail
  go_loopw [8] (fun s8 wr => ∃ i : Nat, i ≤ l.length ∧ s8 = .int .i64 i ∧ Hid (Fine w wr ∧ ∀ U ∈ l.take i, rightF U = true)) (fun s8 _ => l.length - (intOf s8).toNat)
  case atStart => exact ⟨0, Nat.zero_le _, rfl, Lib.hid ⟨Fine.refl w, fun U hU => by simp at hU⟩⟩
  case round =>
    obtain ⟨i, hi, rfl, hR⟩ := hrel
    by_cases hlt : i < l.length
    · obtain ⟨V, hV0⟩ : ∃ V, l[i]? = some V := ⟨l[i], List.getElem?_eq_getElem hlt⟩
      have HV := Lib.hid (hV V (List.mem_of_getElem? hV0))
      obtain ⟨b, o, rfl, hb, hc⟩ := (H.out.fine hR.out.1).at_ hV0
      have c0 := hc 0 (.int .i64 (V 0)) rfl
      have c1 := hc 1 (.int .u64 (V 1)) rfl
      have c2 := hc 2 (.int .u64 (V 2)) rfl
      have c3 := hc 3 (.int .u32 (V 3)) rfl
      have c4 := hc 4 (.int .u32 (V 4)) rfl
      have c5 := hc 5 (.int .i64 (V 5)) rfl
      have c6 := hc 6 (.int .i64 (V 6)) rfl
      have c7 := hc 7 (.bool (decide (V 7 = 1))) rfl
      have c8 := hc 8 (.bool (decide (V 8 = 1))) rfl
      have c9 := hc 9 (.int .i64 (V 9)) rfl
      have c10 := hc 10 (.bool (decide (V 10 = 1))) rfl
      have c11 := hc 11 (.int .i64 (V 11)) rfl
      have c12 := hc 12 (.int .i64 (V 12)) rfl
      have c13 := hc 13 (.bool (decide (V 13 = 1))) rfl
      have HV0 := Lib.hid hV0
      have hVm := List.mem_of_getElem? hV0
      clear hc hV0
      simp only [← Nat.add_assoc, Nat.add_zero] at c0 c1 c2 c3 c4 c5 c6 c7 c8 c9 c10 c11 c12 c13
      go_wp2_with fail
      have HR := Lib.hid hR.out; clear hR
      refine (notright_any V HV.out wr).mono ?_
      rintro x w2 ⟨rfl, f2⟩
      clear c0 c1 c2 c3 c4 c5 c6 c7 c8 c9 c10 c11 c12 c13
      have fw := HR.out.1.trans f2
      obtain ⟨q, hq⟩ : ∃ q, rightF V = q := ⟨_, rfl⟩
      rw [hq]
      cases q
      · have HE : Hid (decide ((0 : Int) ≤ (i : Int)) = !(l.all rightF)) := Lib.hid (by
          have e1 : l.all rightF = false := by
            rw [Bool.eq_false_iff]
            intro h
            rw [List.all_eq_true] at h
            rw [h V hVm] at hq; cases hq
          rw [e1]; simp)
        clear hq
        go_wp2_with fail
        go_ret
        exact ⟨_, rfl, HE.out, fw⟩
      · have HN : Hid (Fine w w2 ∧ ∀ U ∈ l.take (i + 1), rightF U = true) := Lib.hid ⟨HR.out.1.trans f2, fun U hU => by
          rw [List.take_add_one, HV0.out] at hU
          rcases List.mem_append.1 hU with hU | hU
          · exact HR.out.2 U hU
          · simp at hU; subst hU; exact hq⟩
        clear hq
        go_wp2_with fail
        exact ⟨⟨i + 1, hlt, by simp, HN⟩, by simp only [intOf]; omega⟩
    · have hie : i = l.length := by omega
      subst hie
      have HE : Hid (decide ((0 : Int) ≤ (-1 : Int)) = !(l.all rightF)) := Lib.hid (by
        have e1 : l.all rightF = true := List.all_eq_true.mpr (fun U hU => hR.out.2 U (by rw [List.take_length]; exact hU))
        rw [e1]; rfl)
      have fw := hR.out.1
      clear hR
      go_wp2_with fail
      go_ret
      exact ⟨_, rfl, HE.out, fw⟩
set_option maxHeartbeats 2000000 in
set_option maxRecDepth 50000 in
theorem contains_any (A : Option Addr) (n c : Nat) (l : List (Nat → Int)) (hn : n = l.length) (hl : l.length ≤ 1000) (hV : ∀ V ∈ l, OkV V) (w : World) (h : RS layO w A c l) :
    Calls Tryd.prog 47 #[.slice A n c, .func (.func 48) #[] #[]] w fun r w' => r = .returned (.bool (!(l.all rightF))) ∧ Fine w w' := by
  subst hn
  have HC := Lib.hid (index_any A c l hl hV w h)
  clear h
  obtain ⟨q, hq⟩ : ∃ q, l.all rightF = q := ⟨_, rfl⟩
  rw [hq] at HC ⊢
  clear hq
  go_enter Tryd.func47, Tryd.ntmps47
  go_wp2_with fail
  refine HC.out.mono ?_
  rintro x w2 ⟨k, rfl, hk, f2⟩
  cases q
  · have hk' : (0 : Int) ≤ k := by simpa using hk
    clear hk
    go_wp2_with fail
    go_ret
    exact ⟨by simp, f2⟩
  · have hk' : ¬ (0 : Int) ≤ k := by simpa using hk
    clear hk
    go_wp2_with fail
    go_ret
    exact ⟨by simp [hk'], f2⟩
set_option maxHeartbeats 4000000 in
set_option maxRecDepth 100000 in
theorem segRight_any (N : Nat → Int) (A B : Option Addr) (n c m d : Nat) (l : List (Nat → Int)) (xs : List Int) (hn : n = l.length) (hm : m = xs.length) (hV : ∀ V ∈ l, OkV V) (w : World) (h1 : RS layO w A c l) :
    Calls Tryd.prog 21 #[.agg (segL N (.slice A n c) (.slice B m d)).toArray] w fun r w' => r = .returned (.bool (segRightB N l xs)) ∧ Fine w w' := by
  have H1 := Lib.hid h1; clear h1
  have HN := Lib.hid hn; clear hn
  have HM := Lib.hid hm; clear hm
  obtain ⟨q, hq⟩ : ∃ q, segRightB N l xs = q := ⟨_, rfl⟩
  rw [hq]
  have HQ := Lib.hid hq; clear hq
  go_enter Tryd.func21, Tryd.ntmps21
  go_wp2_with fail
  have b1 : Blk (w.alloc (.cells (segL N (.slice A n c) (.slice B m d)).toArray 26)) w.heap.size 26 (segL N (.slice A n c) (.slice B m d)).toArray := Blk.new w 26 _
  have f1 : Fine w (w.alloc (.cells (segL N (.slice A n c) (.slice B m d)).toArray 26)) := (Fine.refl w).alloc _
  obtain ⟨x1, hx1⟩ : ∃ x1, w.heap.size = x1 := ⟨_, rfl⟩
  generalize (w.alloc (.cells (segL N (.slice A n c) (.slice B m d)).toArray 26)) = w1 at b1 f1 ⊢
  rw [hx1] at b1 ⊢
  clear hx1
  refine (in_any (N 0) 3 w1).mono ?_
  rintro x w2 ⟨rfl, f⟩
  have b2 := b1.fine f
  have f2 := f1.trans f
  clear b1 f1 f
  obtain ⟨p, hp0⟩ : ∃ p, inB (N 0) 3 = p := ⟨_, rfl⟩
  rw [hp0]
  have HP0 := Lib.hid hp0; clear hp0
  cases p
  · go_wp2_with fail
    go_ret
    exact ⟨by rw [← HQ.out]; simp [segRightB, HP0.out], f2⟩
  have cx : w2.cell? ⟨x1, 1, none⟩ = some (.int .i64 (N 1)) := b2.cell 1
  go_wp2_with fail
  clear cx
  refine (in_any (N 1) 3 w2).mono ?_
  rintro x w3 ⟨rfl, f⟩
  have b3 := b2.fine f
  have f3 := f2.trans f
  clear b2 f2 f
  obtain ⟨p, hp1⟩ : ∃ p, inB (N 1) 3 = p := ⟨_, rfl⟩
  rw [hp1]
  have HP1 := Lib.hid hp1; clear hp1
  cases p
  · go_wp2_with fail
    go_ret
    exact ⟨by rw [← HQ.out]; simp [segRightB, HP1.out], f3⟩
  have cx : w3.cell? ⟨x1, 2, none⟩ = some (.int .i64 (N 2)) := b3.cell 2
  go_wp2_with fail
  clear cx
  refine (in_any (N 2) 65535 w3).mono ?_
  rintro x w4 ⟨rfl, f⟩
  have b4 := b3.fine f
  have f4 := f3.trans f
  clear b3 f3 f
  obtain ⟨p, hp2⟩ : ∃ p, inB (N 2) 65535 = p := ⟨_, rfl⟩
  rw [hp2]
  have HP2 := Lib.hid hp2; clear hp2
  cases p
  · go_wp2_with fail
    go_ret
    exact ⟨by rw [← HQ.out]; simp [segRightB, HP2.out], f4⟩
  have cx : w4.cell? ⟨x1, 3, none⟩ = some (.int .i64 (N 3)) := b4.cell 3
  go_wp2_with fail
  clear cx
  refine (in_any (N 3) 65535 w4).mono ?_
  rintro x w5 ⟨rfl, f⟩
  have b5 := b4.fine f
  have f5 := f4.trans f
  clear b4 f4 f
  obtain ⟨p, hp3⟩ : ∃ p, inB (N 3) 65535 = p := ⟨_, rfl⟩
  rw [hp3]
  have HP3 := Lib.hid hp3; clear hp3
  cases p
  · go_wp2_with fail
    go_ret
    exact ⟨by rw [← HQ.out]; simp [segRightB, HP3.out], f5⟩
  have cx : w5.cell? ⟨x1, 10, none⟩ = some (.int .i64 (N 10)) := b5.cell 10
  go_wp2_with fail
  clear cx
  refine (in_any (N 10) 65535 w5).mono ?_
  rintro x w6 ⟨rfl, f⟩
  have b6 := b5.fine f
  have f6 := f5.trans f
  clear b5 f5 f
  obtain ⟨p, hp4⟩ : ∃ p, inB (N 10) 65535 = p := ⟨_, rfl⟩
  rw [hp4]
  have HP4 := Lib.hid hp4; clear hp4
  cases p
  · go_wp2_with fail
    go_ret
    exact ⟨by rw [← HQ.out]; simp [segRightB, HP4.out], f6⟩
  have c11 : w6.cell? ⟨x1, 11, none⟩ = some (.slice A n c) := b6.cell 11
  have c12 : w6.cell? ⟨x1, 12, none⟩ = some (.slice B m d) := b6.cell 12
  clear b6
  by_cases g1 : (n : Int) ≤ 4
  · by_cases g2 : (m : Int) ≤ 8
    · go_wp2_with fail
      have G1 := Lib.hid g1; clear g1
      have G2 := Lib.hid g2; clear g2
      refine (contains_any A n c l HN.out (by have := HN.out; have := G1.out; omega) hV w6 (H1.out.fine f6)).mono ?_
      rintro x w7 ⟨rfl, f7⟩
      have f67 := f6.trans f7
      obtain ⟨p, hp⟩ : ∃ p, l.all rightF = p := ⟨_, rfl⟩
      rw [hp]
      have HP := Lib.hid hp; clear hp
      have e1 : l.length ≤ 4 := by have := HN.out; have := G1.out; omega
      have e2 : xs.length ≤ 8 := by have := HM.out; have := G2.out; omega
      have HE : Hid (segRightB N l xs = p) := Lib.hid (by simp [segRightB, HP0.out, HP1.out, HP2.out, HP3.out, HP4.out, HP.out, e1, e2])
      clear e1 e2
      cases p
      · go_wp2_with fail
        go_ret
        exact ⟨by rw [← HQ.out, HE.out]; rfl, f67⟩
      · go_wp2_with fail
        go_ret
        exact ⟨by rw [← HQ.out, HE.out]; rfl, f67⟩
    · have HE : Hid (segRightB N l xs = false) := Lib.hid (by
        have e2 : ¬ xs.length ≤ 8 := by have := HM.out; omega
        simp [segRightB, e2])
      go_wp2_with fail
      go_ret
      exact ⟨by rw [← HQ.out, HE.out]; rfl, f6⟩
  · have HE : Hid (segRightB N l xs = false) := Lib.hid (by
      have e2 : ¬ l.length ≤ 4 := by have := HN.out; omega
      simp [segRightB, e2])
    go_wp2_with fail
    go_ret
    exact ⟨by rw [← HQ.out, HE.out]; rfl, f6⟩
end Go.Proofs.YthnennleblgjeaaDoor
