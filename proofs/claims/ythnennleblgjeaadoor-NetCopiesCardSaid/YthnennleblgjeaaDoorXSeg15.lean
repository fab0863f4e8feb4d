/- segment.Size; what Get wants besides. -/
import Derived.Test.YthnennleblgjeaaDoorXSeg14
import Derived.Test.YthnennleblgjeaaDoorXOpt13
namespace Go.Proofs.YthnennleblgjeaaDoor
set_option linter.unusedVariables false
set_option linter.unusedSimpArgs false
open Go.ChangeShapes Go.WideShapes Go.ChangeAt Go.RowKit
set_option linter.unusedVariables false
set_option linter.unusedSimpArgs false
def wsum : Nat → Nat
  | 0 => 0 | 1 => 1 | 2 => 2 | 3 => 4 | 4 => 6 | 5 => 10 | 6 => 14 | 7 => 15 | 8 => 17 | 9 => 18 | _ => 19
theorem wd_ix (k : Nat) (hk : k < 10) : wsum (k + 1) = wsum k + wdt k ∧ ∀ w : World, (Instr.index 62 (.agg #[.int .i64 1, .int .i64 1, .int .i64 2, .int .i64 2, .int .i64 4, .int .i64 4, .int .i64 1, .int .i64 2, .int .i64 1, .int .i64 1]) (.int .i64 k)).run Tryd.prog w = .ok (.int .i64 (wdt k)) w := by
  match k, hk with
  | 0, _ => exact ⟨rfl, fun w => by kernel_rfl⟩
  | 1, _ => exact ⟨rfl, fun w => by kernel_rfl⟩
  | 2, _ => exact ⟨rfl, fun w => by kernel_rfl⟩
  | 3, _ => exact ⟨rfl, fun w => by kernel_rfl⟩
  | 4, _ => exact ⟨rfl, fun w => by kernel_rfl⟩
  | 5, _ => exact ⟨rfl, fun w => by kernel_rfl⟩
  | 6, _ => exact ⟨rfl, fun w => by kernel_rfl⟩
  | 7, _ => exact ⟨rfl, fun w => by kernel_rfl⟩
  | 8, _ => exact ⟨rfl, fun w => by kernel_rfl⟩
  | 9, _ => exact ⟨rfl, fun w => by kernel_rfl⟩
theorem wsum_le (k : Nat) : wsum k ≤ 19 := by unfold wsum; split <;> omega
theorem wdt_le (k : Nat) : wdt k ≤ 8 := by unfold wdt; split <;> omega
set_option maxHeartbeats 4000000 in
set_option maxRecDepth 100000 in
theorem segSizeN_any (N : Nat → Int) (A B : Option Addr) (n m c d : Nat) (l : List (Nat → Int)) (hn : n = l.length) (hl : l.length ≤ 4) (hm : m ≤ 8) (hV : ∀ V ∈ l, OkV V) (hr : ∀ V ∈ l, rightF V = true) (w : World) (hT : TabW w) (h1 : RS layO w A c l) :
    Calls Tryd.prog 45 #[.agg #[.int .i64 (N 0), .int .i64 (N 1), .int .i64 (N 2), .int .i64 (N 3), .int .u32 (N 4), .int .u32 (N 5), .bool (decide (N 6 = 1)), .bool (decide (N 7 = 1)), .bool (decide (N 8 = 1)), .bool (decide (N 9 = 1)), .int .i64 (N 10), .slice A n c, .slice B m d]] w fun r w' => r = .returned (.int .i64 ((19 + (l.flatMap optB).length + m : Nat) : Int)) ∧ Fine w w' := by
  have H1 := Lib.hid h1; clear h1
  have HN := Lib.hid hn; clear hn
  have HR := Lib.hid hr; clear hr
  have hmi : (m : Int) ≤ 8 := by omega
  go_enter Tryd.func45, Tryd.ntmps45
  obtain ⟨t, fr, ht⟩ := hT.fine ((Fine.refl w).alloc (.cells #[.int .i64 (N 0), .int .i64 (N 1), .int .i64 (N 2), .int .i64 (N 3), .int .u32 (N 4), .int .u32 (N 5), .bool (decide (N 6 = 1)), .bool (decide (N 7 = 1)), .bool (decide (N 8 = 1)), .bool (decide (N 9 = 1)), .int .i64 (N 10), .slice A n c, .slice B m d] 26))
  have HTW := Lib.hid ht; clear ht hT
  go_wp2_with (refine wpList_load_row rfl 62 _ rfl 0 rfl t _ fr _ HTW.out Tryd.underlying62 rfl (by kernel_rfl) ?_)
  have b1 : Blk (w.alloc (.cells #[.int .i64 (N 0), .int .i64 (N 1), .int .i64 (N 2), .int .i64 (N 3), .int .u32 (N 4), .int .u32 (N 5), .bool (decide (N 6 = 1)), .bool (decide (N 7 = 1)), .bool (decide (N 8 = 1)), .bool (decide (N 9 = 1)), .int .i64 (N 10), .slice A n c, .slice B m d] 26)) w.heap.size 26 #[.int .i64 (N 0), .int .i64 (N 1), .int .i64 (N 2), .int .i64 (N 3), .int .u32 (N 4), .int .u32 (N 5), .bool (decide (N 6 = 1)), .bool (decide (N 7 = 1)), .bool (decide (N 8 = 1)), .bool (decide (N 9 = 1)), .int .i64 (N 10), .slice A n c, .slice B m d] := Blk.new w 26 _
  have f1 : Fine w (w.alloc (.cells #[.int .i64 (N 0), .int .i64 (N 1), .int .i64 (N 2), .int .i64 (N 3), .int .u32 (N 4), .int .u32 (N 5), .bool (decide (N 6 = 1)), .bool (decide (N 7 = 1)), .bool (decide (N 8 = 1)), .bool (decide (N 9 = 1)), .int .i64 (N 10), .slice A n c, .slice B m d] 26)) := (Fine.refl w).alloc _
  clear HTW
  generalize (w.alloc (.cells #[.int .i64 (N 0), .int .i64 (N 1), .int .i64 (N 2), .int .i64 (N 3), .int .u32 (N 4), .int .u32 (N 5), .bool (decide (N 6 = 1)), .bool (decide (N 7 = 1)), .bool (decide (N 8 = 1)), .bool (decide (N 9 = 1)), .int .i64 (N 10), .slice A n c, .slice B m d] 26)) = w1 at b1 f1 ⊢
  generalize w.heap.size = x1 at b1 ⊢
  have B1 := Lib.hid b1; clear b1
  go_loopw [3, 9] (fun s3 s9 wr => ∃ i : Nat, i ≤ 10 ∧ s9 = .int .i64 i ∧ s3 = .int .i64 (wsum i) ∧ Hid (Fine w1 wr)) (fun _ s9 _ => 10 - (intOf s9).toNat)
  case atStart => exact ⟨0, by omega, rfl, rfl, Lib.hid (Fine.refl w1)⟩
  case round =>
    obtain ⟨i, hi, rfl, rfl, HF⟩ := hrel
    by_cases hlt : i < 10
    · obtain ⟨e1, hX⟩ := wd_ix i hlt
      have h2 := wsum_le i
      have h3 := wdt_le i
      have E1 := Lib.hid e1
      clear e1
      go_wp2_with fail
      exact ⟨⟨i + 1, hlt, by simp, by rw [E1.out]; simp, HF⟩, by simp only [intOf]; omega⟩
    · have hie : i = 10 := by omega
      subst hie
      have c11 : wr.cell? ⟨x1, 11, none⟩ = some (.slice A n c) := (B1.out.fine HF.out).cell 11
      have f01 := f1.trans HF.out
      go_wp2_with fail
      refine (optPut_n A n c l HN.out (by omega) hV wr (H1.out.fine f01)).mono ?_
      rintro y w4 ⟨f4, ⟨v, g1, rfl, o4⟩ | ⟨⟨V, g1, g3⟩, rfl⟩⟩
      · obtain ⟨A8, d8, rfl, _, _⟩ := o4.form
        have hll := flatOpt_len l g1 hl
        obtain ⟨L, hL⟩ : ∃ L, (l.flatMap optB).length = L := ⟨_, rfl⟩
        rw [hL] at hll ⊢
        have HL := Lib.hid hL
        have c12 : w4.cell? ⟨x1, 12, none⟩ = some (.slice B m d) := ((B1.out.fine HF.out).fine f4).cell 12
        have f04 := f01.trans f4
        have hL2 : (L : Int) ≤ 196 := by omega
        have e19 : ((wsum 10 : Nat) : Int) = 19 := rfl
        rw [e19]
        clear o4 hL c11 e19
        go_wp2_with fail
        go_ret
        exact ⟨by rw [HL.out]; simp, f04⟩
      · exfalso
        rw [HR.out V g1] at g3
        cases g3
theorem optL_congr {U V : Nat → Int} (h : ∀ j, j < 14 → U j = V j) : optL U = optL V := by
  unfold optL
  rw [h 0 (by omega), h 1 (by omega), h 2 (by omega), h 3 (by omega), h 4 (by omega), h 5 (by omega), h 6 (by omega), h 7 (by omega), h 8 (by omega), h 9 (by omega), h 10 (by omega), h 11 (by omega), h 12 (by omega), h 13 (by omega)]
theorem getOpt_any (V : Nat → Int) (hV : OkV V) (hr : rightF V = true) (ys zs : List Int) (hz : optB V ++ ys = zs) (A : Option Addr) (k c : Nat) (hk : k = zs.length) (hl : zs.length ≤ 10000000) (w : World) (h : BS w A c zs) :
    Calls Tryd.prog 43 #[.slice A k c] w fun r w' => ∃ v, r = .returned (.tuple #[.agg (optL V).toArray, v, .int .i64 0]) ∧ OwnB w' w.heap.size v ys ∧ Fine w w' := by
  subst hk
  subst hz
  refine (get_any A c _ hl w h).mono ?_
  rintro x w2 ⟨v, rfl, o, f⟩
  obtain ⟨V', e1, e2⟩ := get_put hV hr ys
  rw [e1] at o ⊢
  exact ⟨v, by rw [optL_congr e2], o, f⟩
theorem sliceO : SliceTy Tryd.prog 23 69 14 96 := SliceTy.mk' (z := .agg #[.int .i64 0, .int .u64 0, .int .u64 0, .int .u32 0, .int .u32 0, .int .i64 0, .int .i64 0, .bool false, .bool false, .int .i64 0, .bool false, .int .i64 0, .int .i64 0, .bool false]) Tryd.underlying23 (by kernel_rfl) rfl
theorem grown_blk {w w' : World} {x : Nat} {t : TypeId} {cs : Array Value} {base : Nat} {v : Value} {xs : List (Nat → Int)} (h : Blk w x t cs) (ho : Own layO 69 w base v xs) (ht : t ≠ 69) (hg : w.grownBy w' v.ownBlock) : Blk w' x t cs := by
  refine (hg.block x h.lt (fun e => ?_)).trans h
  rcases ho.2 with ⟨rfl, _⟩ | ⟨g, cap, cur, rfl, _, hgg, _⟩
  · cases e
  · injection e with e
    subst e
    have h2 : Blk w x 69 cur := hgg
    exact h.ne_ h2 ht rfl
theorem grown_own {w w' : World} {base base2 : Nat} {u v : Value} {ys : List Int} {xs : List (Nat → Int)} (h : OwnB w base2 u ys) (ho : Own layO 69 w base v xs) (hg : w.grownBy w' v.ownBlock) : OwnB w' base2 u ys := by
  refine h.grown hg ?_
  rcases h.2.2 with ⟨rfl, _⟩ | ⟨g, cap, cur, rfl, _, hgg, _⟩
  · exact .inl rfl
  · refine .inr (fun e => ?_)
    rcases ho.2 with ⟨rfl, _⟩ | ⟨g2, cap2, cur2, rfl, _, hg2, _⟩
    · cases e
    · injection e with e
      have e : g = g2 := e
      subst e
      have h1 : Blk w g 5 cur := hgg
      have h2 : Blk w g 69 cur2 := hg2
      exact h1.ne_ h2 (by decide) rfl
theorem own_far {w w' : World} {base x : Nat} {v : Value} {xs : List (Nat → Int)} {t : TypeId} {cs : Array Value} (h : Own layO 69 w base v xs) (ht : t ≠ 69) (hx : Blk w x t cs) (hk : Kept (fun k => k = x) w w') : Own layO 69 w' base v xs := by
  refine h.kept hk (fun k hv e => ?_)
  have e : k = x := e
  subst e
  rcases h.2 with ⟨rfl, _⟩ | ⟨g, cap, cur, rfl, _, hgg, _⟩
  · cases hv
  · injection hv with hv
    have hv : g = k := hv
    subst hv
    have h2 : Blk w g 69 cur := hgg
    exact hx.ne_ h2 ht rfl
theorem and_flag (N : Nat → Int) : (bits .and .u64 (flagsN N) 1 != 0) = decide (N 6 = 1) ∧ (bits .and .u64 (flagsN N) 2 != 0) = decide (N 7 = 1) ∧ (bits .and .u64 (flagsN N) 4 != 0) = decide (N 8 = 1) ∧ (bits .and .u64 (flagsN N) 8 != 0) = decide (N 9 = 1) := by
  unfold flagsN
  generalize decide (N 6 = 1) = p6
  generalize decide (N 7 = 1) = p7
  generalize decide (N 8 = 1) = p8
  generalize decide (N 9 = 1) = p9
  cases p6 <;> cases p7 <;> cases p8 <;> cases p9 <;> decide
end Go.Proofs.YthnennleblgjeaaDoor
