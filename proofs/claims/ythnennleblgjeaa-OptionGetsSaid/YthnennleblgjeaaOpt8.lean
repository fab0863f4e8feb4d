/- The laws of option: Find. -/
import Derived.Test.YthnennleblgjeaaOpt7
namespace Go.Proofs.Ythnennleblgjeaa
open Go.ChangeShapes Go.WideShapes Go.ChangeAt Go.RowKit
set_option linter.unusedVariables false
theorem firstOf_spec {k : Int} : ∀ {l : List (Nat → Int)} {i : Nat}, firstOf k l = some i → ∃ V, l[i]? = some V ∧ V 0 = k ∧ ∀ U ∈ l.take i, U 0 ≠ k
  | [], i, h => by cases h
  | U :: l, i, h => by
    unfold firstOf at h
    split at h
    · injection h with h
      subst h
      exact ⟨U, rfl, by assumption, fun W hW => by simp at hW⟩
    · obtain ⟨j, hj, rfl⟩ := Option.map_eq_some_iff.1 h
      obtain ⟨V, h1, h2, h3⟩ := firstOf_spec hj
      refine ⟨V, by simpa using h1, h2, fun W hW => ?_⟩
      simp only [List.take_succ_cons, List.mem_cons] at hW
      rcases hW with rfl | hW
      · assumption
      · exact h3 W hW
theorem firstOf_spec0 {k : Int} : ∀ {l : List (Nat → Int)}, firstOf k l = none → ∀ U ∈ l, U 0 ≠ k
  | [], _, U, hU => by cases hU
  | V :: l, h, U, hU => by
    unfold firstOf at h
    split at h
    · cases h
    · rcases List.mem_cons.1 hU with rfl | hU
      · assumption
      · exact firstOf_spec0 (Option.map_eq_none_iff.1 h) U hU
def zeroV : Nat → Int := fun _ => 0
def foundV (k : Int) (l : List (Nat → Int)) : Nat → Int := match firstOf k l with | some i => l.getD i zeroV | none => zeroV
set_option maxHeartbeats 4000000 in
set_option maxRecDepth 100000 in
theorem find_any (A : Option Addr) (c : Nat) (l : List (Nat → Int)) (hl : l.length ≤ 1000) (k : Int) (w : World) (h : RS layO w A c l) :
    Calls Try.prog 35 #[.slice A l.length c, .int .i64 k] w fun r w' => r = .returned (.tuple #[.agg (optL (foundV k l)).toArray, .bool (firstOf k l).isSome]) ∧ Fine w w' := by
  have HI := Lib.hid (fun w' b hf hk hb => indexFunc_any A c l hl k b w' (h.fine hf) hk hb)
  have H := Lib.hid h; clear h
  go_enter Try.func35, Try.ntmps35
  go_wp2_with fail
  have b3 : Blk ((w.alloc (.cells #[.int .i64 k] 3)).alloc (.cells #[.int .i64 0, .int .u64 0, .int .u64 0, .int .u32 0, .int .u32 0, .int .i64 0, .int .i64 0, .bool false, .bool false, .int .i64 0, .bool false, .int .i64 0, .int .i64 0, .bool false] 56)) w.heap.size 3 #[.int .i64 k] := (Blk.new w 3 _).alloc _
  have b4 : Blk ((w.alloc (.cells #[.int .i64 k] 3)).alloc (.cells #[.int .i64 0, .int .u64 0, .int .u64 0, .int .u32 0, .int .u32 0, .int .i64 0, .int .i64 0, .bool false, .bool false, .int .i64 0, .bool false, .int .i64 0, .int .i64 0, .bool false] 56)) (w.heap.size + 1) 56 #[.int .i64 0, .int .u64 0, .int .u64 0, .int .u32 0, .int .u32 0, .int .i64 0, .int .i64 0, .bool false, .bool false, .int .i64 0, .bool false, .int .i64 0, .int .i64 0, .bool false] := Blk.newAt (by simp)
  have f4 : Fine w ((w.alloc (.cells #[.int .i64 k] 3)).alloc (.cells #[.int .i64 0, .int .u64 0, .int .u64 0, .int .u32 0, .int .u32 0, .int .i64 0, .int .i64 0, .bool false, .bool false, .int .i64 0, .bool false, .int .i64 0, .int .i64 0, .bool false] 56)) := ((Fine.refl w).alloc _).alloc _
  have hx3 : w.heap.size < ((w.alloc (.cells #[.int .i64 k] 3)).alloc (.cells #[.int .i64 0, .int .u64 0, .int .u64 0, .int .u32 0, .int .u32 0, .int .i64 0, .int .i64 0, .bool false, .bool false, .int .i64 0, .bool false, .int .i64 0, .int .i64 0, .bool false] 56)).heap.size := by simp; omega
  obtain ⟨x3, hx⟩ : ∃ x3, w.heap.size = x3 := ⟨_, rfl⟩
  obtain ⟨x4, hx4⟩ : ∃ x4, w.heap.size + 1 = x4 := ⟨_, rfl⟩
  generalize ((w.alloc (.cells #[.int .i64 k] 3)).alloc (.cells #[.int .i64 0, .int .u64 0, .int .u64 0, .int .u32 0, .int .u32 0, .int .i64 0, .int .i64 0, .bool false, .bool false, .int .i64 0, .bool false, .int .i64 0, .int .i64 0, .bool false] 56)) = w1 at b3 b4 f4 hx3 ⊢
  rw [hx4] at b4 ⊢
  rw [hx] at b3 hx3 ⊢
  refine (HI.out w1 x3 f4 (b3.cell 0) hx3).mono ?_
  rintro x w2 ⟨rfl, f2⟩
  have B4 := Lib.hid (b4.fine f2)
  have f24 := f4.trans f2
  have hwx : w.heap.size ≤ x4 := by omega
  clear b3 b4 f4 f2 hx3 HI
  have z0 : w2.cell? ⟨x4, 0, none⟩ = some (.int .i64 0) := B4.out.cell 0
  have y0 : w2.frozen? ⟨x4, 0, none⟩ = false := B4.out.frozen 0
  have z1 : w2.cell? ⟨x4, 1, none⟩ = some (.int .u64 0) := B4.out.cell 1
  have y1 : w2.frozen? ⟨x4, 1, none⟩ = false := B4.out.frozen 1
  have z2 : w2.cell? ⟨x4, 2, none⟩ = some (.int .u64 0) := B4.out.cell 2
  have y2 : w2.frozen? ⟨x4, 2, none⟩ = false := B4.out.frozen 2
  have z3 : w2.cell? ⟨x4, 3, none⟩ = some (.int .u32 0) := B4.out.cell 3
  have y3 : w2.frozen? ⟨x4, 3, none⟩ = false := B4.out.frozen 3
  have z4 : w2.cell? ⟨x4, 4, none⟩ = some (.int .u32 0) := B4.out.cell 4
  have y4 : w2.frozen? ⟨x4, 4, none⟩ = false := B4.out.frozen 4
  have z5 : w2.cell? ⟨x4, 5, none⟩ = some (.int .i64 0) := B4.out.cell 5
  have y5 : w2.frozen? ⟨x4, 5, none⟩ = false := B4.out.frozen 5
  have z6 : w2.cell? ⟨x4, 6, none⟩ = some (.int .i64 0) := B4.out.cell 6
  have y6 : w2.frozen? ⟨x4, 6, none⟩ = false := B4.out.frozen 6
  have z7 : w2.cell? ⟨x4, 7, none⟩ = some (.bool false) := B4.out.cell 7
  have y7 : w2.frozen? ⟨x4, 7, none⟩ = false := B4.out.frozen 7
  have z8 : w2.cell? ⟨x4, 8, none⟩ = some (.bool false) := B4.out.cell 8
  have y8 : w2.frozen? ⟨x4, 8, none⟩ = false := B4.out.frozen 8
  have z9 : w2.cell? ⟨x4, 9, none⟩ = some (.int .i64 0) := B4.out.cell 9
  have y9 : w2.frozen? ⟨x4, 9, none⟩ = false := B4.out.frozen 9
  have z10 : w2.cell? ⟨x4, 10, none⟩ = some (.bool false) := B4.out.cell 10
  have y10 : w2.frozen? ⟨x4, 10, none⟩ = false := B4.out.frozen 10
  have z11 : w2.cell? ⟨x4, 11, none⟩ = some (.int .i64 0) := B4.out.cell 11
  have y11 : w2.frozen? ⟨x4, 11, none⟩ = false := B4.out.frozen 11
  have z12 : w2.cell? ⟨x4, 12, none⟩ = some (.int .i64 0) := B4.out.cell 12
  have y12 : w2.frozen? ⟨x4, 12, none⟩ = false := B4.out.frozen 12
  have z13 : w2.cell? ⟨x4, 13, none⟩ = some (.bool false) := B4.out.cell 13
  have y13 : w2.frozen? ⟨x4, 13, none⟩ = false := B4.out.frozen 13
  cases hfo : firstOf k l with
  | some i =>
    obtain ⟨V, hV, hVk, _⟩ := firstOf_spec hfo
    rw [show idxOf k l = (i : Int) from by unfold idxOf; rw [hfo]]
    have hil := (List.getElem?_eq_some_iff.1 hV).1
    obtain ⟨b, o, rfl, hb, hc⟩ := (H.out.fine f24).at_ hV
    have c0 := hc 0 (.int .i64 (V 0)) rfl
    have c1 := hc 1 (.int .u64 (V 1)) rfl
    have c2 := hc 2 (.int .u64 (V 2)) rfl
    have c3 := hc 3 (.int .u32 (V 3)) rfl
    have c4 := hc 4 (.int .u32 (V 4)) rfl
    have c5 := hc 5 (.int .i64 (V 5)) rfl
    have c6 := hc 6 (.int .i64 (V 6)) rfl
    have c7 := hc 7 (.bool (decide (V 7 = 1))) rfl
    have c8 := hc 8 (.bool (decide (V 8 = 1))) rfl
    have c9 := hc 9 (.int .i64 (V 9)) rfl
    have c10 := hc 10 (.bool (decide (V 10 = 1))) rfl
    have c11 := hc 11 (.int .i64 (V 11)) rfl
    have c12 := hc 12 (.int .i64 (V 12)) rfl
    have c13 := hc 13 (.bool (decide (V 13 = 1))) rfl
    have HF : Hid (foundV k l = V) := Lib.hid (by unfold foundV; rw [hfo]; simp [List.getD, hV])
    have HFO := Lib.hid hfo; clear hfo
    clear hc hV hVk hx hx4
    simp only [← Nat.add_assoc, Nat.add_zero] at c0 c1 c2 c3 c4 c5 c6 c7 c8 c9 c10 c11 c12 c13
    go_wp2_with fail
    exact bodyPost_ret (v := .tuple #[.agg (optL V).toArray, .bool true]) (by simp [results, Try.results35, go_sem, z0, z1, z2, z3, z4, z5, z6, z7, z8, z9, z10, z11, z12, z13]) rfl ⟨by rw [HF.out, HFO.out]; rfl, ((((((((((((((f24.setCell hwx _).setCell hwx _).setCell hwx _).setCell hwx _).setCell hwx _).setCell hwx _).setCell hwx _).setCell hwx _).setCell hwx _).setCell hwx _).setCell hwx _).setCell hwx _).setCell hwx _).setCell hwx _)⟩
  | none =>
    rw [show idxOf k l = -1 from by unfold idxOf; rw [hfo]]
    have HF : Hid (foundV k l = zeroV) := Lib.hid (by unfold foundV; rw [hfo])
    have HFO := Lib.hid hfo; clear hfo hx hx4
    go_wp2_with fail
    exact bodyPost_ret (v := .tuple #[.agg (optL zeroV).toArray, .bool false]) (by simp [results, Try.results35, go_sem, zeroV, z0, z1, z2, z3, z4, z5, z6, z7, z8, z9, z10, z11, z12, z13]) rfl ⟨by rw [HF.out, HFO.out]; rfl, ((((((((((((((f24.setCell hwx _).setCell hwx _).setCell hwx _).setCell hwx _).setCell hwx _).setCell hwx _).setCell hwx _).setCell hwx _).setCell hwx _).setCell hwx _).setCell hwx _).setCell hwx _).setCell hwx _).setCell hwx _)⟩
end Go.Proofs.Ythnennleblgjeaa
