/- Contract of the law's 'pairs'. -/
import Derived.Test.YtbgdcpecpcmjdaaPath14
namespace Go.Proofs.Ytbgdcpecpcmjdaa
open Go.ChangeShapes Go.WideShapes Go.ChangeAt Go.RowKit
set_option linter.unusedVariables false

theorem mem_take_succ {ys : List (Int × Int)} {j : Nat} (h : j < ys.length) {x y a b : Int} (hp : ys.getD j (0, 0) = (a, b)) : decide ((x, y) ∈ ys.take (j + 1)) = (decide ((x, y) ∈ ys.take j) || (decide (x = a) && decide (y = b))) := by
  have e : ys.take (j + 1) = ys.take j ++ [(a, b)] := by rw [List.take_succ_eq_append_getElem h, ← hp]; simp [List.getD, h]
  rw [e, Bool.eq_iff_iff, decide_eq_true_iff, List.mem_append, List.mem_singleton]
  simp
theorem sortedQ {xs : List (Int × Int)} (h : xs.Pairwise lexLt) {q : Nat} (hq : q + 1 < xs.length) : lexLt (xs.getD q (0, 0)) (xs.getD (q + 1) (0, 0)) := by
  have := List.pairwise_iff_getElem.1 h q (q + 1) (by omega) hq (by omega)
  simpa [List.getD, List.getElem?_eq_getElem hq, List.getElem?_eq_getElem (show q < xs.length by omega)] using this

set_option maxHeartbeats 4000000 in
theorem pairsLaw_any (A B : Option Addr) (c d : Nat) (xs ys : List (Int × Int)) (hl : xs.length ≤ 16) (hlen : xs.length = ys.length) (hs : xs.Pairwise lexLt) (hmem : ∀ p ∈ xs, p ∈ ys) (w : World) (hx : RS layQ w A c xs) (hy : RS layQ w B d ys) :
    Calls Try.prog 22 #[.slice A xs.length c, .slice B ys.length d] w fun e w' => e = .returned (.bool true) ∧ Fine w w' := by
  have hlb : ((xs.length : Int) != (ys.length : Int)) = false := by simp [hlen]
  have hly : ys.length ≤ 16 := by omega
  have HL := Lib.hid hlen; have HS := Lib.hid hs; have HMEM := Lib.hid hmem
  clear hlen hs hmem
  have hxm := hx.max
  have hxl := hx.le
  have hym := hy.max
  have hyl := hy.le
  unfold maxLen at hxm hym
  go_enter Try.func22, Try.ntmps22
  go_wp2_with fail
  go_loopw [17] (fun i wr => ∃ k : Nat, k ≤ xs.length ∧ i = .int .i64 k ∧ Fine w wr) (fun i _ => xs.length - (intOf i).toNat)
  case atStart => exact ⟨0, Nat.zero_le _, rfl, (by repeat (first | exact Fine.refl _ | assumption | refine Fine.alloc ?_ _ | refine Fine.drew ?_ | refine Fine.drewN ?_ _ | refine Fine.trans ?_ (by assumption) | (refine Fine.kept ?_ (by assumption) (by intro x hx; first | omega | (simp; omega))) | (refine Fine.setCell ?_ (by first | assumption | (simp; done) | (simp; omega)) _)))⟩
  case round =>
    obtain ⟨k, hk, rfl, hf⟩ := hrel
    obtain ⟨wo, rfl⟩ : ∃ wo : World, wo = wr := ⟨_, rfl⟩
    by_cases hlk : k < xs.length
    · obtain ⟨b1, o1, x, y, hp, rfl, hb1, c0, c1⟩ := (hx.fine hf).atQ hlk
      have hin := HMEM.out (xs.getD k (0, 0)) (by simp [List.getD, hlk])
      rw [hp] at hin
      have HIN := Lib.hid hin; clear hin
      have fo : Fine w (wo.alloc (.cells #[.int .i64 x, .int .i64 y] 31)) := hf.alloc _
      have hbx : Blk (wo.alloc (.cells #[.int .i64 x, .int .i64 y] 31)) wo.heap.size 31 #[.int .i64 x, .int .i64 y] := Blk.new _ _ _
      have HP := Lib.hid hp; clear hp
      rcases Nat.eq_zero_or_pos k with rfl | hkp
      · rw [show (((0 : Nat) : Int)) = 0 from rfl]
        rw [Nat.zero_mul, Nat.add_zero] at c0 c1
        go_wp2_with fail
        have F1 : Hid (Fine wo (wo.alloc (.cells #[.int .i64 x, .int .i64 y] 31))) := (Fine.refl _).alloc _
        generalize (wo.alloc (.cells #[.int .i64 x, .int .i64 y] 31)) = w1 at fo hbx F1 ⊢
        have HBX := Lib.hid hbx
        clear hbx
        have hsz : wo.heap.size < w1.heap.size := HBX.out.lt
        have f1 : Fine wo w1 := F1.out
        go_loopw [7, 24] (fun s i wr => ∃ j : Nat, j ≤ ys.length ∧ i = .int .i64 j ∧ s = .bool (decide ((x, y) ∈ ys.take j)) ∧ Fine w1 wr) (fun _ i _ => ys.length - (intOf i).toNat)
        case atStart => exact ⟨0, Nat.zero_le _, rfl, by simp, (by repeat (first | exact Fine.refl _ | assumption | refine Fine.alloc ?_ _ | refine Fine.drew ?_ | refine Fine.drewN ?_ _ | refine Fine.trans ?_ (by assumption) | (refine Fine.kept ?_ (by assumption) (by intro x hx; first | omega | (simp; omega))) | (refine Fine.setCell ?_ (by first | assumption | (simp; done) | (simp; omega)) _)))⟩
        case round =>
          obtain ⟨j, hj, rfl, rfl, hf1⟩ := hrel
          have hB := HBX.out.fine hf1
          have x0 : wr.cell? ⟨wo.heap.size, 0, none⟩ = some (.int .i64 x) := hB.cell 0
          have x1 : wr.cell? ⟨wo.heap.size, 1, none⟩ = some (.int .i64 y) := hB.cell 1
          clear hB
          have hszr : wo.heap.size < wr.heap.size := Nat.lt_of_lt_of_le hsz hf1.size
          by_cases hlj : j < ys.length
          · obtain ⟨b5, o5, a, b, hpy, rfl, hb5, y0, y1⟩ := (hy.fine (fo.trans hf1)).atQ hlj
            have HST := Lib.hid (mem_take_succ (x := x) (y := y) hlj hpy)
            clear hpy
            cases hs0 : decide ((x, y) ∈ ys.take j)
            · have H0 := Lib.hid hs0; clear hs0
              by_cases e1 : x = a
              · have q1 : (x == a) = true := beq_iff_eq.2 e1
                by_cases e2 : y = b
                · have q2 : (y == b) = true := beq_iff_eq.2 e2
                  have hr : Hid (decide ((x, y) ∈ ys.take (j + 1)) = true) := by show _ = _; rw [HST.out, H0.out]; simp [e1, e2]
                  clear e1 e2
                  go_wp2_with fail
                  go_roundw
                  case rel => exact ⟨j + 1, by omega, by go_num, by rw [hr.out], (by repeat (first | exact Fine.refl _ | assumption | refine Fine.alloc ?_ _ | refine Fine.drew ?_ | refine Fine.drewN ?_ _ | refine Fine.trans ?_ (by assumption) | (refine Fine.kept ?_ (by assumption) (by intro x hx; first | omega | (simp; omega))) | (refine Fine.setCell ?_ (by first | assumption | (simp; done) | (simp; omega)) _)))⟩
                  case measure => simp [intOf]; omega
                · have q2 : (y == b) = false := beq_eq_false_iff_ne.2 e2
                  have hr : Hid (decide ((x, y) ∈ ys.take (j + 1)) = false) := by show _ = _; rw [HST.out, H0.out]; simp [e2]
                  clear e1 e2
                  go_wp2_with fail
                  go_roundw
                  case rel => exact ⟨j + 1, by omega, by go_num, by rw [hr.out], (by repeat (first | exact Fine.refl _ | assumption | refine Fine.alloc ?_ _ | refine Fine.drew ?_ | refine Fine.drewN ?_ _ | refine Fine.trans ?_ (by assumption) | (refine Fine.kept ?_ (by assumption) (by intro x hx; first | omega | (simp; omega))) | (refine Fine.setCell ?_ (by first | assumption | (simp; done) | (simp; omega)) _)))⟩
                  case measure => simp [intOf]; omega
              · have q1 : (x == a) = false := beq_eq_false_iff_ne.2 e1
                have hr : Hid (decide ((x, y) ∈ ys.take (j + 1)) = false) := by show _ = _; rw [HST.out, H0.out]; simp [e1]
                clear e1
                go_wp2_with fail
                go_roundw
                case rel => exact ⟨j + 1, by omega, by go_num, by rw [hr.out], (by repeat (first | exact Fine.refl _ | assumption | refine Fine.alloc ?_ _ | refine Fine.drew ?_ | refine Fine.drewN ?_ _ | refine Fine.trans ?_ (by assumption) | (refine Fine.kept ?_ (by assumption) (by intro x hx; first | omega | (simp; omega))) | (refine Fine.setCell ?_ (by first | assumption | (simp; done) | (simp; omega)) _)))⟩
                case measure => simp [intOf]; omega
            · have H0 := Lib.hid hs0; clear hs0
              have hr : Hid (decide ((x, y) ∈ ys.take (j + 1)) = true) := by show _ = _; rw [HST.out, H0.out]; rfl
              go_wp2_with fail
              go_roundw
              case rel => exact ⟨j + 1, by omega, by go_num, by rw [hr.out], (by repeat (first | exact Fine.refl _ | assumption | refine Fine.alloc ?_ _ | refine Fine.drew ?_ | refine Fine.drewN ?_ _ | refine Fine.trans ?_ (by assumption) | (refine Fine.kept ?_ (by assumption) (by intro x hx; first | omega | (simp; omega))) | (refine Fine.setCell ?_ (by first | assumption | (simp; done) | (simp; omega)) _)))⟩
              case measure => simp [intOf]; omega
          · have hr : decide ((x, y) ∈ ys.take j) = true := by rw [decide_eq_true_iff, List.take_of_length_le (by omega)]; exact HIN.out
            rw [hr]
            clear hr
            go_wp2_with fail
            go_quiet (fail)
            go_wp2_with fail
            go_roundw
            case rel => exact ⟨1, by omega, by go_num, (by have h9 := fo.trans hf1; exact h9.drewN _)⟩
            case measure => simp [intOf]; omega

      · obtain ⟨q, rfl⟩ : ∃ q, k = q + 1 := ⟨k - 1, by omega⟩
        rw [show (((q + 1 : Nat) : Int)) = (q : Int) + 1 by omega]
        obtain ⟨b2, o2, px, py, hpp, e2, hb2, p0, p1⟩ := (hx.fine hf).atQ (show q < xs.length by omega)
        injection e2 with e2
        injection e2 with e2 e3
        subst e2 e3
        have hlex := sortedQ HS.out hlk
        rw [hpp, HP.out] at hlex
        clear hpp
        have hlx : (px < x) ∨ (px = x ∧ py < y) := hlex
        clear hlex
        go_wp2_with fail
        have F1 : Hid (Fine wo (wo.alloc (.cells #[.int .i64 x, .int .i64 y] 31))) := (Fine.refl _).alloc _
        generalize (wo.alloc (.cells #[.int .i64 x, .int .i64 y] 31)) = w1 at fo hbx F1 ⊢
        have HBX := Lib.hid hbx
        clear hbx
        have hsz : wo.heap.size < w1.heap.size := HBX.out.lt
        have f1 : Fine wo w1 := F1.out
        go_loopw [7, 24] (fun s i wr => ∃ j : Nat, j ≤ ys.length ∧ i = .int .i64 j ∧ s = .bool (decide ((x, y) ∈ ys.take j)) ∧ Fine w1 wr) (fun _ i _ => ys.length - (intOf i).toNat)
        case atStart => exact ⟨0, Nat.zero_le _, rfl, by simp, (by repeat (first | exact Fine.refl _ | assumption | refine Fine.alloc ?_ _ | refine Fine.drew ?_ | refine Fine.drewN ?_ _ | refine Fine.trans ?_ (by assumption) | (refine Fine.kept ?_ (by assumption) (by intro x hx; first | omega | (simp; omega))) | (refine Fine.setCell ?_ (by first | assumption | (simp; done) | (simp; omega)) _)))⟩
        case round =>
          obtain ⟨j, hj, rfl, rfl, hf1⟩ := hrel
          have hB := HBX.out.fine hf1
          have x0 : wr.cell? ⟨wo.heap.size, 0, none⟩ = some (.int .i64 x) := hB.cell 0
          have x1 : wr.cell? ⟨wo.heap.size, 1, none⟩ = some (.int .i64 y) := hB.cell 1
          clear hB
          have hszr : wo.heap.size < wr.heap.size := Nat.lt_of_lt_of_le hsz hf1.size
          by_cases hlj : j < ys.length
          · obtain ⟨b5, o5, a, b, hpy, rfl, hb5, y0, y1⟩ := (hy.fine (fo.trans hf1)).atQ hlj
            have HST := Lib.hid (mem_take_succ (x := x) (y := y) hlj hpy)
            clear hpy
            cases hs0 : decide ((x, y) ∈ ys.take j)
            · have H0 := Lib.hid hs0; clear hs0
              by_cases e1 : x = a
              · have q1 : (x == a) = true := beq_iff_eq.2 e1
                by_cases e2 : y = b
                · have q2 : (y == b) = true := beq_iff_eq.2 e2
                  have hr : Hid (decide ((x, y) ∈ ys.take (j + 1)) = true) := by show _ = _; rw [HST.out, H0.out]; simp [e1, e2]
                  clear e1 e2
                  go_wp2_with fail
                  go_roundw
                  case rel => exact ⟨j + 1, by omega, by go_num, by rw [hr.out], (by repeat (first | exact Fine.refl _ | assumption | refine Fine.alloc ?_ _ | refine Fine.drew ?_ | refine Fine.drewN ?_ _ | refine Fine.trans ?_ (by assumption) | (refine Fine.kept ?_ (by assumption) (by intro x hx; first | omega | (simp; omega))) | (refine Fine.setCell ?_ (by first | assumption | (simp; done) | (simp; omega)) _)))⟩
                  case measure => simp [intOf]; omega
                · have q2 : (y == b) = false := beq_eq_false_iff_ne.2 e2
                  have hr : Hid (decide ((x, y) ∈ ys.take (j + 1)) = false) := by show _ = _; rw [HST.out, H0.out]; simp [e2]
                  clear e1 e2
                  go_wp2_with fail
                  go_roundw
                  case rel => exact ⟨j + 1, by omega, by go_num, by rw [hr.out], (by repeat (first | exact Fine.refl _ | assumption | refine Fine.alloc ?_ _ | refine Fine.drew ?_ | refine Fine.drewN ?_ _ | refine Fine.trans ?_ (by assumption) | (refine Fine.kept ?_ (by assumption) (by intro x hx; first | omega | (simp; omega))) | (refine Fine.setCell ?_ (by first | assumption | (simp; done) | (simp; omega)) _)))⟩
                  case measure => simp [intOf]; omega
              · have q1 : (x == a) = false := beq_eq_false_iff_ne.2 e1
                have hr : Hid (decide ((x, y) ∈ ys.take (j + 1)) = false) := by show _ = _; rw [HST.out, H0.out]; simp [e1]
                clear e1
                go_wp2_with fail
                go_roundw
                case rel => exact ⟨j + 1, by omega, by go_num, by rw [hr.out], (by repeat (first | exact Fine.refl _ | assumption | refine Fine.alloc ?_ _ | refine Fine.drew ?_ | refine Fine.drewN ?_ _ | refine Fine.trans ?_ (by assumption) | (refine Fine.kept ?_ (by assumption) (by intro x hx; first | omega | (simp; omega))) | (refine Fine.setCell ?_ (by first | assumption | (simp; done) | (simp; omega)) _)))⟩
                case measure => simp [intOf]; omega
            · have H0 := Lib.hid hs0; clear hs0
              have hr : Hid (decide ((x, y) ∈ ys.take (j + 1)) = true) := by show _ = _; rw [HST.out, H0.out]; rfl
              go_wp2_with fail
              go_roundw
              case rel => exact ⟨j + 1, by omega, by go_num, by rw [hr.out], (by repeat (first | exact Fine.refl _ | assumption | refine Fine.alloc ?_ _ | refine Fine.drew ?_ | refine Fine.drewN ?_ _ | refine Fine.trans ?_ (by assumption) | (refine Fine.kept ?_ (by assumption) (by intro x hx; first | omega | (simp; omega))) | (refine Fine.setCell ?_ (by first | assumption | (simp; done) | (simp; omega)) _)))⟩
              case measure => simp [intOf]; omega
          · have hr : decide ((x, y) ∈ ys.take j) = true := by rw [decide_eq_true_iff, List.take_of_length_le (by omega)]; exact HIN.out
            rw [hr]
            clear hr
            have fw : Fine wo wr := f1.trans hf1
            have p0' := (fw.cell (p := ⟨b1, o1 + q * 2, none⟩) hb1).trans p0
            have p1' := (fw.cell (p := ⟨b1, o1 + q * 2 + 1, none⟩) hb1).trans p1
            have s1 : IntKind.i64.wrap ((q : Int) + 1 - 1) = (q : Int) := by rw [IntKind.wrap_i64]; omega
            have s2 : decide ((0 : Int) < (q : Int) + 1) = true := by simp <;> omega
            have s3 : (q : Int) < (xs.length : Int) := by omega
            have s4 : decide (x < px) = false := by simp <;> omega
            rcases hlx with hlx | ⟨hlx1, hlx2⟩
            · have s5 : (px == x) = false := by rw [beq_eq_false_iff_ne]; omega
              go_wp2_with fail
              go_quiet (fail)
              go_wp2_with fail
              go_roundw
              case rel => exact ⟨q + 1 + 1, by omega, by go_num, (by have h9 := fo.trans hf1; exact h9.drewN _)⟩
              case measure => simp [intOf]; omega
            · have s5 : (px == x) = true := beq_iff_eq.2 hlx1
              have s6 : decide (y ≤ py) = false := by simp <;> omega
              clear hlx1 hlx2
              go_wp2_with fail
              go_quiet (fail)
              go_wp2_with fail
              go_roundw
              case rel => exact ⟨q + 1 + 1, by omega, by go_num, (by have h9 := fo.trans hf1; exact h9.drewN _)⟩
              case measure => simp [intOf]; omega

    · have he := Lib.hid (show k = xs.length by omega)
      go_wp2_with fail
      go_ret
      exact ⟨rfl, hf⟩
end Go.Proofs.Ytbgdcpecpcmjdaa
