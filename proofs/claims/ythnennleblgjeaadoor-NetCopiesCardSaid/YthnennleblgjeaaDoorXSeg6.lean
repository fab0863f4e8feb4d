/- segment.Put. -/
import Derived.Test.YthnennleblgjeaaDoorXSeg4
import Derived.Deep.CutBlock
import Derived.Deep.DeepCutAuto
namespace Go.Proofs.YthnennleblgjeaaDoor
set_option linter.unusedVariables false
set_option linter.unusedSimpArgs false
open Go.ChangeShapes Go.WideShapes Go.ChangeAt Go.RowKit
set_option linter.unusedVariables false
/-- The widths lie there. -/
def TabW (w : World) : Prop := ∃ t fr, w.heap[0]? = some (.cells #[.int .i64 1, .int .i64 1, .int .i64 2, .int .i64 2, .int .i64 4, .int .i64 4, .int .i64 1, .int .i64 2, .int .i64 1, .int .i64 1] t fr)
theorem TabW.fine {w w' : World} (h : TabW w) (hf : Fine w w') : TabW w' := by
  obtain ⟨t, fr, h⟩ := h
  exact ⟨t, fr, (hf.block 0 (Array.getElem?_eq_some_iff.1 h).1).trans h⟩
def SegPut (N : Nat → Int) (l : List (Nat → Int)) (xs : List Int) (w : World) (r : Ending) (w' : World) : Prop :=
  Fine w w' ∧ ((segRightB N l xs = true ∧ ∃ v, r = .returned (.tuple #[v, .int .i64 0]) ∧ OwnB w' w.heap.size v (putOf (segB N l xs))) ∨ (segRightB N l xs = false ∧ r = .returned (.tuple #[.slice none 0 0, .int .i64 1])))
theorem head_at (N : Nat → Int) (n m : Int) (hN : OkN N) (h0 : 0 ≤ N 0 ∧ N 0 ≤ 3) (h1 : 0 ≤ N 1 ∧ N 1 ≤ 3) (h2 : 0 ≤ N 2 ∧ N 2 ≤ 65535) (h3 : 0 ≤ N 3 ∧ N 3 ≤ 65535) (h10 : 0 ≤ N 10 ∧ N 10 ≤ 65535) (hn : 0 ≤ n ∧ n ≤ 4) (hm : 0 ≤ m ∧ m ≤ 8) (k : Nat) (hk : k < 10) :
    ∃ (wd : Nat) (x : Int), (headNs N n m)[k]? = some (wd, x) ∧ (#[.int .u64 (N 0), .int .u64 (N 1), .int .u64 (N 2), .int .u64 (N 3), .int .u64 (N 4), .int .u64 (N 5), .int .u64 (flagsN N), .int .u64 (N 10), .int .u64 n, .int .u64 m] : Array Value)[k]? = some (.int .u64 x) ∧ (0 ≤ x ∧ x < 18446744073709551616) ∧ width wd = wd ∧
      ∀ w : World, (Instr.index 62 (.agg #[.int .i64 1, .int .i64 1, .int .i64 2, .int .i64 2, .int .i64 4, .int .i64 4, .int .i64 1, .int .i64 2, .int .i64 1, .int .i64 1]) (.int .i64 k)).run Tryd.prog w = .ok (.int .i64 wd) w := by
  have h4 := hN.u32 (j := 4) (by decide) rfl
  have h5 := hN.u32 (j := 5) (by decide) rfl
  have h6 := flagsN_bd N
  match k, hk with
  | 0, _ => exact ⟨1, N 0, rfl, rfl, by omega, rfl, fun w => by kernel_rfl⟩
  | 1, _ => exact ⟨1, N 1, rfl, rfl, by omega, rfl, fun w => by kernel_rfl⟩
  | 2, _ => exact ⟨2, N 2, rfl, rfl, by omega, rfl, fun w => by kernel_rfl⟩
  | 3, _ => exact ⟨2, N 3, rfl, rfl, by omega, rfl, fun w => by kernel_rfl⟩
  | 4, _ => exact ⟨4, N 4, rfl, rfl, by omega, rfl, fun w => by kernel_rfl⟩
  | 5, _ => exact ⟨4, N 5, rfl, rfl, by omega, rfl, fun w => by kernel_rfl⟩
  | 6, _ => exact ⟨1, flagsN N, rfl, rfl, by omega, rfl, fun w => by kernel_rfl⟩
  | 7, _ => exact ⟨2, N 10, rfl, rfl, by omega, rfl, fun w => by kernel_rfl⟩
  | 8, _ => exact ⟨1, n, rfl, rfl, by omega, rfl, fun w => by kernel_rfl⟩
  | 9, _ => exact ⟨1, m, rfl, rfl, by omega, rfl, fun w => by kernel_rfl⟩
theorem BSS.three {w : World} {g n1 n2 n3 c1 c2 c3 : Nat} {A1 A2 A3 : Option Addr} {l1 l2 l3 : List Int} (h : Blk w g 24 #[.slice A1 n1 c1, .slice A2 n2 c2, .slice A3 n3 c3]) (e1 : n1 = l1.length) (e2 : n2 = l2.length) (e3 : n3 = l3.length) (h1 : BS w A1 c1 l1) (h2 : BS w A2 c2 l2) (h3 : BS w A3 c3 l3) :
    BSS w (some ⟨g, 0, none⟩) 3 [l1, l2, l3] := by
  subst e1 e2 e3
  refine ⟨[.slice A1 l1.length c1, .slice A2 l2.length c2, .slice A3 l3.length c3], rfl, ⟨by simp, by unfold maxLen; omega, fun e => (by cases e), fun _ => ⟨g, 0, rfl, h.lt, fun i v hv => ?_⟩⟩, fun i u l hu hl' => ?_⟩
  · match i, hv with
    | 0, hv => simp at hv; subst hv; exact h.cell 0
    | 1, hv => simp at hv; subst hv; exact h.cell 1
    | 2, hv => simp at hv; subst hv; exact h.cell 2
  · match i, hu, hl' with
    | 0, hu, hl' => simp at hu hl'; subst hu hl'; exact ⟨A1, c1, rfl, h1⟩
    | 1, hu, hl' => simp at hu hl'; subst hu hl'; exact ⟨A2, c2, rfl, h2⟩
    | 2, hu, hl' => simp at hu hl'; subst hu hl'; exact ⟨A3, c3, rfl, h3⟩
theorem RS.lit4 (w : World) (a b c d : Bool) : RS layT (w.alloc (.cells #[.bool a, .bool b, .bool c, .bool d] 4)) (some ⟨w.heap.size, 0, none⟩) 4 [a, b, c, d] :=
  RS.ofBlk (Blk.new w 4 _) rfl rfl (by unfold maxLen; omega)
theorem RS.lit1 (w : World) (a : Bool) : RS layT (w.alloc (.cells #[.bool a] 4)) (some ⟨w.heap.size, 0, none⟩) 1 [a] :=
  RS.ofBlk (Blk.new w 4 _) rfl rfl (by unfold maxLen; omega)
theorem Fine.setAt {w w' : World} {p : Addr} {v : Value} (hp : w.heap.size ≤ p.block) (h : Fine w w') : Fine w (w'.setCell p v) := h.setCell hp v
theorem Fine.ten {w w' : World} {x : Nat} {v0 v1 v2 v3 v4 v5 v6 v7 v8 v9 : Value} (hx : w.heap.size ≤ x) (h : Fine w w') : Fine w ((((((((((w'.setCell ⟨x, 0, none⟩ v0).setCell ⟨x, 1, none⟩ v1).setCell ⟨x, 2, none⟩ v2).setCell ⟨x, 3, none⟩ v3).setCell ⟨x, 4, none⟩ v4).setCell ⟨x, 5, none⟩ v5).setCell ⟨x, 6, none⟩ v6).setCell ⟨x, 7, none⟩ v7).setCell ⟨x, 8, none⟩ v8).setCell ⟨x, 9, none⟩ v9) := by
  have h := Fine.setCell h (p := ⟨x, 0, none⟩) hx v0
  have h := Fine.setCell h (p := ⟨x, 1, none⟩) hx v1
  have h := Fine.setCell h (p := ⟨x, 2, none⟩) hx v2
  have h := Fine.setCell h (p := ⟨x, 3, none⟩) hx v3
  have h := Fine.setCell h (p := ⟨x, 4, none⟩) hx v4
  have h := Fine.setCell h (p := ⟨x, 5, none⟩) hx v5
  have h := Fine.setCell h (p := ⟨x, 6, none⟩) hx v6
  have h := Fine.setCell h (p := ⟨x, 7, none⟩) hx v7
  have h := Fine.setCell h (p := ⟨x, 8, none⟩) hx v8
  have h := Fine.setCell h (p := ⟨x, 9, none⟩) hx v9
  exact h
set_option maxHeartbeats 2000000 in
theorem Blk.ten {w' : World} {x : Nat} {t : TypeId} {v0 v1 v2 v3 v4 v5 v6 v7 v8 v9 : Value} (h : Blk w' x t #[.int .u64 0, .int .u64 0, .int .u64 0, .int .u64 0, .int .u64 0, .int .u64 0, .int .u64 0, .int .u64 0, .int .u64 0, .int .u64 0]) : Blk ((((((((((w'.setCell ⟨x, 0, none⟩ v0).setCell ⟨x, 1, none⟩ v1).setCell ⟨x, 2, none⟩ v2).setCell ⟨x, 3, none⟩ v3).setCell ⟨x, 4, none⟩ v4).setCell ⟨x, 5, none⟩ v5).setCell ⟨x, 6, none⟩ v6).setCell ⟨x, 7, none⟩ v7).setCell ⟨x, 8, none⟩ v8).setCell ⟨x, 9, none⟩ v9) x t #[v0, v1, v2, v3, v4, v5, v6, v7, v8, v9] := by
  have h0 := h.set_ 0 v0
  have h1 := h0.set_ 1 v1
  have h2 := h1.set_ 2 v2
  have h3 := h2.set_ 3 v3
  have h4 := h3.set_ 4 v4
  have h5 := h4.set_ 5 v5
  have h6 := h5.set_ 6 v6
  have h7 := h6.set_ 7 v7
  have h8 := h7.set_ 8 v8
  have h9 := h8.set_ 9 v9
  exact h9.cast (by simp)
theorem segset4 (N : Nat → Int) (g : Nat) (w : World) (h : Blk w g 4 #[.bool (decide (N 6 = 1)), .bool (decide (N 7 = 1)), .bool (decide (N 8 = 1)), .bool (decide (N 9 = 1))]) : Calls Tryd.prog 33 #[.slice (some ⟨g, 0, none⟩) 4 4] w fun r w' => r = .returned (.int .u64 (flagsN N)) ∧ Fine w w' :=
  segset_any _ 4 [decide (N 6 = 1), decide (N 7 = 1), decide (N 8 = 1), decide (N 9 = 1)] (Nat.le_refl 4) _ (RS.ofBlk h rfl rfl (by unfold maxLen; omega))
theorem segset1 (t : Bool) (g : Nat) (w : World) (h : Blk w g 4 #[.bool t]) : Calls Tryd.prog 33 #[.slice (some ⟨g, 0, none⟩) 1 1] w fun r w' => r = .returned (.int .u64 (if t then 1 else 0)) ∧ Fine w w' := by
  have h := segset_any _ 1 [t] (by simp) w (RS.ofBlk h rfl rfl (by unfold maxLen; omega))
  have e : setN [t] = if t then 1 else 0 := by cases t <;> rfl
  rw [e] at h
  exact h
theorem optPut_n (A : Option Addr) (n c : Nat) (l : List (Nat → Int)) (hn : n = l.length) (hl : l.length ≤ 100000) (hV : ∀ V ∈ l, OkV V) (w : World) (h : RS layO w A c l) :
    Calls Tryd.prog 35 #[.slice A n c] w (OptPut l w) := by
  subst hn
  exact optPut_any A c l hl hV w h
theorem sumput_n (A : Option Addr) (n c : Nat) (xs : List Int) (hn : n = xs.length) (w : World) (h : BS w A c xs) (hl : xs.length ≤ 1000000) :
    Calls Tryd.prog 36 #[.slice A n c] w fun e w' => ∃ v, e = .returned v ∧ OwnB w' w.heap.size v (putOf xs) ∧ Fine w w' := by
  subst hn
  exact sumput_any A c xs w h hl
end Go.Proofs.YthnennleblgjeaaDoor
