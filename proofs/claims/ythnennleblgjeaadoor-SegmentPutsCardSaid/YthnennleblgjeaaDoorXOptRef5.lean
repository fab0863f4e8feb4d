/- The laws of option: whether an option is right, as the document says. (Printed by genrefright.py.) -/
import Derived.Test.YthnennleblgjeaaDoorMd
import Derived.Test.YthnennleblgjeaaDoorXOptRef3
import Derived.Test.YthnennleblgjeaaDoorXOptRef4
namespace Go.Proofs.YthnennleblgjeaaDoor
set_option linter.unusedVariables false
set_option linter.unusedSimpArgs false
open Go.ChangeShapes Go.WideShapes Go.ChangeAt Go.RowKit
set_option linter.unusedVariables false
attribute [local go_sem ↓ high] eq56b
set_option maxHeartbeats 4000000 in
set_option maxRecDepth 100000 in
theorem refRight_any (V : Nat → Int) (hV : OkV V) (w : World) : Calls Tryd.prog 38 #[.agg (optL V).toArray] w fun r w' => r = .returned (.bool (refRightB V)) ∧ Fine w w' := by
  have HS := Lib.hid (fun w => size_any (V 0) w)
  obtain ⟨r, hr⟩ : ∃ r, refRightB V = r := ⟨_, rfl⟩
  have hun : refRightB V = (!(decide (sizeK (V 0) = 0) || (decide (V 0 = 9) && decide (V 11 < 0))) && ((decide (V 0 = 9) || mayB (V 5) (decide (V 8 = 1)) (V 9) (decide (V 10 = 1)) (V 11) (V 12) (decide (V 13 = 1))) && optEq (parseV (optB V)) V)) := rfl
  rw [hun] at hr ⊢
  rw [hr]
  clear hun
  obtain ⟨m, hm⟩ : ∃ m, mayB (V 5) (decide (V 8 = 1)) (V 9) (decide (V 10 = 1)) (V 11) (V 12) (decide (V 13 = 1)) = m := ⟨_, rfl⟩
  rw [hm] at hr
  have HM := Lib.hid (fun w => hm ▸ may_any V w)
  clear hm
  have hN : ¬ sizeK (V 0) = 0 → (1 ≤ num ((optB V).take 1) ∧ num ((optB V).take 1) ≤ 11) ∧ ((optB V).length : Int) = sizeK (num ((optB V).take 1)) := fun h => by
    have hk : 1 ≤ V 0 ∧ V 0 ≤ 11 := by
      by_cases hh : V 0 < 1 ∨ 11 < V 0
      · exact absurd (sizeK_out hh) h
      · omega
    have e := optB_head (V := V) [] hk
    rw [List.append_nil] at e
    rw [e]
    exact ⟨hk, optB_size hk⟩
  obtain ⟨s, hs⟩ : ∃ s, sizeK (V 0) = s := ⟨_, rfl⟩
  rw [hs] at hr hN HS
  clear hs
  have W1 : Blk (w.alloc (.cells #[.int .i64 (V 0), .int .u64 (V 1), .int .u64 (V 2), .int .u32 (V 3), .int .u32 (V 4), .int .i64 (V 5), .int .i64 (V 6), .bool (decide (V 7 = 1)), .bool (decide (V 8 = 1)), .int .i64 (V 9), .bool (decide (V 10 = 1)), .int .i64 (V 11), .int .i64 (V 12), .bool (decide (V 13 = 1))] 69)) w.heap.size 69 (optL V).toArray := Blk.new w 69 _
  have F1 : Fine w (w.alloc (.cells #[.int .i64 (V 0), .int .u64 (V 1), .int .u64 (V 2), .int .u32 (V 3), .int .u32 (V 4), .int .i64 (V 5), .int .i64 (V 6), .bool (decide (V 7 = 1)), .bool (decide (V 8 = 1)), .int .i64 (V 9), .bool (decide (V 10 = 1)), .int .i64 (V 11), .int .i64 (V 12), .bool (decide (V 13 = 1))] 69)) := (Fine.refl w).alloc _
  by_cases h0 : s = 0
  · have hrf : r = false := by rw [← hr]; simp [h0]
    subst hrf
    subst h0
    clear hr hN
    go_enter Tryd.func38, Tryd.ntmps38
    go_wp2_with fail
    refine (HS.out _).mono ?_
    rintro x w2 ⟨rfl, f2⟩
    go_wp2_with fail
    go_ret
    exact ⟨rfl, F1.trans f2⟩
  · have HN := Lib.hid (hN h0)
    clear hN
    go_enter Tryd.func38, Tryd.ntmps38
    go_wp2_with fail
    obtain ⟨x1, hx1⟩ : ∃ x1, w.heap.size = x1 := ⟨_, rfl⟩
    generalize (w.alloc (.cells #[.int .i64 (V 0), .int .u64 (V 1), .int .u64 (V 2), .int .u32 (V 3), .int .u32 (V 4), .int .i64 (V 5), .int .i64 (V 6), .bool (decide (V 7 = 1)), .bool (decide (V 8 = 1)), .int .i64 (V 9), .bool (decide (V 10 = 1)), .int .i64 (V 11), .int .i64 (V 12), .bool (decide (V 13 = 1))] 69)) = w1 at W1 F1 ⊢
    rw [hx1] at W1 ⊢
    clear hx1
    have B1 := Lib.hid W1; clear W1
    refine (HS.out w1).mono ?_
    rintro x w2 ⟨rfl, f2⟩
    have b2 := B1.out.fine f2
    have c0 : w2.cell? ⟨x1, 0, none⟩ = some (.int .i64 (V 0)) := b2.cell 0
    have c1 : w2.cell? ⟨x1, 1, none⟩ = some (.int .u64 (V 1)) := b2.cell 1
    have c2 : w2.cell? ⟨x1, 2, none⟩ = some (.int .u64 (V 2)) := b2.cell 2
    have c3 : w2.cell? ⟨x1, 3, none⟩ = some (.int .u32 (V 3)) := b2.cell 3
    have c4 : w2.cell? ⟨x1, 4, none⟩ = some (.int .u32 (V 4)) := b2.cell 4
    have c5 : w2.cell? ⟨x1, 5, none⟩ = some (.int .i64 (V 5)) := b2.cell 5
    have c6 : w2.cell? ⟨x1, 6, none⟩ = some (.int .i64 (V 6)) := b2.cell 6
    have c7 : w2.cell? ⟨x1, 7, none⟩ = some (.bool (decide (V 7 = 1))) := b2.cell 7
    have c8 : w2.cell? ⟨x1, 8, none⟩ = some (.bool (decide (V 8 = 1))) := b2.cell 8
    have c9 : w2.cell? ⟨x1, 9, none⟩ = some (.int .i64 (V 9)) := b2.cell 9
    have c10 : w2.cell? ⟨x1, 10, none⟩ = some (.bool (decide (V 10 = 1))) := b2.cell 10
    have c11 : w2.cell? ⟨x1, 11, none⟩ = some (.int .i64 (V 11)) := b2.cell 11
    have c12 : w2.cell? ⟨x1, 12, none⟩ = some (.int .i64 (V 12)) := b2.cell 12
    have c13 : w2.cell? ⟨x1, 13, none⟩ = some (.bool (decide (V 13 = 1))) := b2.cell 13
    clear b2
    have h0' : (s == 0) = false := by simp [h0]
    by_cases h9 : V 0 = 9
    · by_cases hn : V 11 < 0
      · have hrf : r = false := by rw [← hr]; simp [h9, hn]
        subst hrf
        clear hr
        have h9' : (V 0 == 9) = true := by simp [h9]
        have H9 := Lib.hid h9; clear h9
        go_wp2_with fail
        go_ret
        exact ⟨rfl, F1.trans f2⟩
      · have HE : Hid (r = optEq (parseV (optB V)) V) := Lib.hid (by rw [← hr]; simp [h0, h9, hn])
        clear hr
        have h9' : (V 0 == 9) = true := by simp [h9]
        have H9 := Lib.hid h9; clear h9
        go_wp2_with fail
        obtain ⟨U, hU⟩ : ∃ U, parseV (optB V) = U := ⟨_, rfl⟩
        obtain ⟨q, hq⟩ : ∃ q, optEq U V = q := ⟨_, rfl⟩
        have E : eqB (U 0) (V 0) (U 1) (V 1) (U 2) (V 2) (U 3) (V 3) (U 4) (V 4) (U 5) (V 5) (U 6) (V 6) (decide (U 7 = 1)) (decide (V 7 = 1)) (decide (U 8 = 1)) (decide (V 8 = 1)) (U 9) (V 9) (decide (U 10 = 1)) (decide (V 10 = 1)) (U 11) (V 11) (U 12) (V 12) (decide (U 13 = 1)) (decide (V 13 = 1)) = q := hq
        have HU := Lib.hid hU
        have HQ := Lib.hid hq
        clear hU hq
        have HK : Hid (∀ w', Fine w2 w' → (fun w' => w'.cell? ⟨x1, 0, none⟩ = some (.int .i64 (V 0)) ∧ w'.cell? ⟨x1, 1, none⟩ = some (.int .u64 (V 1)) ∧ w'.cell? ⟨x1, 2, none⟩ = some (.int .u64 (V 2)) ∧ w'.cell? ⟨x1, 3, none⟩ = some (.int .u32 (V 3)) ∧ w'.cell? ⟨x1, 4, none⟩ = some (.int .u32 (V 4)) ∧ w'.cell? ⟨x1, 5, none⟩ = some (.int .i64 (V 5)) ∧ w'.cell? ⟨x1, 6, none⟩ = some (.int .i64 (V 6)) ∧ w'.cell? ⟨x1, 7, none⟩ = some (.bool (decide (V 7 = 1))) ∧ w'.cell? ⟨x1, 8, none⟩ = some (.bool (decide (V 8 = 1))) ∧ w'.cell? ⟨x1, 9, none⟩ = some (.int .i64 (V 9)) ∧ w'.cell? ⟨x1, 10, none⟩ = some (.bool (decide (V 10 = 1))) ∧ w'.cell? ⟨x1, 11, none⟩ = some (.int .i64 (V 11)) ∧ w'.cell? ⟨x1, 12, none⟩ = some (.int .i64 (V 12)) ∧ w'.cell? ⟨x1, 13, none⟩ = some (.bool (decide (V 13 = 1)))) w') := Lib.hid (fun w' hk => by
          have b := B1.out.fine (f2.trans hk)
          exact ⟨b.cell 0, b.cell 1, b.cell 2, b.cell 3, b.cell 4, b.cell 5, b.cell 6, b.cell 7, b.cell 8, b.cell 9, b.cell 10, b.cell 11, b.cell 12, b.cell 13⟩)
        go_region_held3 (fun w' => w'.cell? ⟨x1, 0, none⟩ = some (.int .i64 (V 0)) ∧ w'.cell? ⟨x1, 1, none⟩ = some (.int .u64 (V 1)) ∧ w'.cell? ⟨x1, 2, none⟩ = some (.int .u64 (V 2)) ∧ w'.cell? ⟨x1, 3, none⟩ = some (.int .u32 (V 3)) ∧ w'.cell? ⟨x1, 4, none⟩ = some (.int .u32 (V 4)) ∧ w'.cell? ⟨x1, 5, none⟩ = some (.int .i64 (V 5)) ∧ w'.cell? ⟨x1, 6, none⟩ = some (.int .i64 (V 6)) ∧ w'.cell? ⟨x1, 7, none⟩ = some (.bool (decide (V 7 = 1))) ∧ w'.cell? ⟨x1, 8, none⟩ = some (.bool (decide (V 8 = 1))) ∧ w'.cell? ⟨x1, 9, none⟩ = some (.int .i64 (V 9)) ∧ w'.cell? ⟨x1, 10, none⟩ = some (.bool (decide (V 10 = 1))) ∧ w'.cell? ⟨x1, 11, none⟩ = some (.int .i64 (V 11)) ∧ w'.cell? ⟨x1, 12, none⟩ = some (.int .i64 (V 12)) ∧ w'.cell? ⟨x1, 13, none⟩ = some (.bool (decide (V 13 = 1)))) ((refine HK.out _ ?_; repeat (first | refine Fine.trans ?_ fB | refine Fine.trans ?_ fA | refine Fine.drew ?_ | exact Fine.refl _))) (first | (go_at_call 61; refine (refBytes_any V hV _).mono ?_; rintro x wA ⟨vA, rfl, oA, fA⟩; obtain ⟨AA, cA, rfl, bA, _⟩ := oA.form) | (go_at_call 60; refine (parse_any AA cA (optB V) wA bA HN.out.1 HN.out.2).mono ?_; rintro x wB ⟨rfl, fB⟩; rw [HU.out]))
        go_wp2_with fail
        go_ret
        exact ⟨by rw [HE.out, HU.out, HQ.out]; rfl, ((F1.trans f2).trans ((Fine.refl w2).drew.trans fA)).trans fB⟩
    · by_cases hmm : m = true
      · have HE : Hid (r = optEq (parseV (optB V)) V) := Lib.hid (by rw [← hr]; simp [h0, h9, hmm])
        clear hr
        have h9' : (V 0 == 9) = false := by simp [h9]
        have H9 := Lib.hid h9; clear h9
        subst hmm
        go_wp2_with fail
        refine (HM.out w2).mono ?_
        rintro x w3 ⟨rfl, f3⟩
        have f23 := f2.trans f3
        clear c0 c1 c2 c3 c4 c5 c6 c7 c8 c9 c10 c11 c12 c13
        have b3 := B1.out.fine f23
        have c0 : w3.cell? ⟨x1, 0, none⟩ = some (.int .i64 (V 0)) := b3.cell 0
        have c1 : w3.cell? ⟨x1, 1, none⟩ = some (.int .u64 (V 1)) := b3.cell 1
        have c2 : w3.cell? ⟨x1, 2, none⟩ = some (.int .u64 (V 2)) := b3.cell 2
        have c3 : w3.cell? ⟨x1, 3, none⟩ = some (.int .u32 (V 3)) := b3.cell 3
        have c4 : w3.cell? ⟨x1, 4, none⟩ = some (.int .u32 (V 4)) := b3.cell 4
        have c5 : w3.cell? ⟨x1, 5, none⟩ = some (.int .i64 (V 5)) := b3.cell 5
        have c6 : w3.cell? ⟨x1, 6, none⟩ = some (.int .i64 (V 6)) := b3.cell 6
        have c7 : w3.cell? ⟨x1, 7, none⟩ = some (.bool (decide (V 7 = 1))) := b3.cell 7
        have c8 : w3.cell? ⟨x1, 8, none⟩ = some (.bool (decide (V 8 = 1))) := b3.cell 8
        have c9 : w3.cell? ⟨x1, 9, none⟩ = some (.int .i64 (V 9)) := b3.cell 9
        have c10 : w3.cell? ⟨x1, 10, none⟩ = some (.bool (decide (V 10 = 1))) := b3.cell 10
        have c11 : w3.cell? ⟨x1, 11, none⟩ = some (.int .i64 (V 11)) := b3.cell 11
        have c12 : w3.cell? ⟨x1, 12, none⟩ = some (.int .i64 (V 12)) := b3.cell 12
        have c13 : w3.cell? ⟨x1, 13, none⟩ = some (.bool (decide (V 13 = 1))) := b3.cell 13
        clear b3
        go_wp2_with fail
        obtain ⟨U, hU⟩ : ∃ U, parseV (optB V) = U := ⟨_, rfl⟩
        obtain ⟨q, hq⟩ : ∃ q, optEq U V = q := ⟨_, rfl⟩
        have E : eqB (U 0) (V 0) (U 1) (V 1) (U 2) (V 2) (U 3) (V 3) (U 4) (V 4) (U 5) (V 5) (U 6) (V 6) (decide (U 7 = 1)) (decide (V 7 = 1)) (decide (U 8 = 1)) (decide (V 8 = 1)) (U 9) (V 9) (decide (U 10 = 1)) (decide (V 10 = 1)) (U 11) (V 11) (U 12) (V 12) (decide (U 13 = 1)) (decide (V 13 = 1)) = q := hq
        have HU := Lib.hid hU
        have HQ := Lib.hid hq
        clear hU hq
        have HK : Hid (∀ w', Fine w3 w' → (fun w' => w'.cell? ⟨x1, 0, none⟩ = some (.int .i64 (V 0)) ∧ w'.cell? ⟨x1, 1, none⟩ = some (.int .u64 (V 1)) ∧ w'.cell? ⟨x1, 2, none⟩ = some (.int .u64 (V 2)) ∧ w'.cell? ⟨x1, 3, none⟩ = some (.int .u32 (V 3)) ∧ w'.cell? ⟨x1, 4, none⟩ = some (.int .u32 (V 4)) ∧ w'.cell? ⟨x1, 5, none⟩ = some (.int .i64 (V 5)) ∧ w'.cell? ⟨x1, 6, none⟩ = some (.int .i64 (V 6)) ∧ w'.cell? ⟨x1, 7, none⟩ = some (.bool (decide (V 7 = 1))) ∧ w'.cell? ⟨x1, 8, none⟩ = some (.bool (decide (V 8 = 1))) ∧ w'.cell? ⟨x1, 9, none⟩ = some (.int .i64 (V 9)) ∧ w'.cell? ⟨x1, 10, none⟩ = some (.bool (decide (V 10 = 1))) ∧ w'.cell? ⟨x1, 11, none⟩ = some (.int .i64 (V 11)) ∧ w'.cell? ⟨x1, 12, none⟩ = some (.int .i64 (V 12)) ∧ w'.cell? ⟨x1, 13, none⟩ = some (.bool (decide (V 13 = 1)))) w') := Lib.hid (fun w' hk => by
          have b := B1.out.fine (f23.trans hk)
          exact ⟨b.cell 0, b.cell 1, b.cell 2, b.cell 3, b.cell 4, b.cell 5, b.cell 6, b.cell 7, b.cell 8, b.cell 9, b.cell 10, b.cell 11, b.cell 12, b.cell 13⟩)
        go_region_held3 (fun w' => w'.cell? ⟨x1, 0, none⟩ = some (.int .i64 (V 0)) ∧ w'.cell? ⟨x1, 1, none⟩ = some (.int .u64 (V 1)) ∧ w'.cell? ⟨x1, 2, none⟩ = some (.int .u64 (V 2)) ∧ w'.cell? ⟨x1, 3, none⟩ = some (.int .u32 (V 3)) ∧ w'.cell? ⟨x1, 4, none⟩ = some (.int .u32 (V 4)) ∧ w'.cell? ⟨x1, 5, none⟩ = some (.int .i64 (V 5)) ∧ w'.cell? ⟨x1, 6, none⟩ = some (.int .i64 (V 6)) ∧ w'.cell? ⟨x1, 7, none⟩ = some (.bool (decide (V 7 = 1))) ∧ w'.cell? ⟨x1, 8, none⟩ = some (.bool (decide (V 8 = 1))) ∧ w'.cell? ⟨x1, 9, none⟩ = some (.int .i64 (V 9)) ∧ w'.cell? ⟨x1, 10, none⟩ = some (.bool (decide (V 10 = 1))) ∧ w'.cell? ⟨x1, 11, none⟩ = some (.int .i64 (V 11)) ∧ w'.cell? ⟨x1, 12, none⟩ = some (.int .i64 (V 12)) ∧ w'.cell? ⟨x1, 13, none⟩ = some (.bool (decide (V 13 = 1)))) ((refine HK.out _ ?_; repeat (first | refine Fine.trans ?_ fB | refine Fine.trans ?_ fA | refine Fine.drew ?_ | exact Fine.refl _))) (first | (go_at_call 61; refine (refBytes_any V hV _).mono ?_; rintro x wA ⟨vA, rfl, oA, fA⟩; obtain ⟨AA, cA, rfl, bA, _⟩ := oA.form) | (go_at_call 60; refine (parse_any AA cA (optB V) wA bA HN.out.1 HN.out.2).mono ?_; rintro x wB ⟨rfl, fB⟩; rw [HU.out]))
        go_wp2_with fail
        go_ret
        exact ⟨by rw [HE.out, HU.out, HQ.out]; rfl, ((F1.trans f23).trans ((Fine.refl w3).drew.trans fA)).trans fB⟩
      · have hmf : m = false := by simpa using hmm
        have hrf : r = false := by rw [← hr]; simp [h9, hmf]
        subst hrf hmf
        clear hr
        have h9' : (V 0 == 9) = false := by simp [h9]
        have H9 := Lib.hid h9; clear h9
        go_wp2_with fail
        refine (HM.out w2).mono ?_
        rintro x w3 ⟨rfl, f3⟩
        go_wp2_with fail
        go_ret
        exact ⟨rfl, (F1.trans f2).trans f3⟩
end Go.Proofs.YthnennleblgjeaaDoor
